/- What decoding an integer gives: on lists of bytes. No program. -/
import Derived.Test.YtcfplkbbgjiocaaDoorBits
namespace Go.Proofs.YtcfplkbbgjiocaaDoor
open Go Go.RowKit
def unzig (y : Nat) : Int := if y % 2 = 0 then ((y / 2 : Nat) : Int) else -((y / 2 : Nat) : Int) - 1
theorem bits_xor_m1 (a : Nat) (ha : a < 9223372036854775808) : bits .xor .i64 (a : Int) (-1) = -(a : Int) - 1 := by
  have h : bits .xor .i64 (a : Int) (-1) = IntKind.i64.wrap ((BitVec.ofInt 64 (a : Int) ^^^ BitVec.ofInt 64 (-1)).toNat : Int) := rfl
  have e2 : BitVec.ofInt 64 (-1) = BitVec.allOnes 64 := by decide
  have e1 : BitVec.ofInt 64 (a : Int) = BitVec.ofNat 64 a := by simp
  have e3 : (BitVec.ofNat 64 a ^^^ BitVec.allOnes 64).toNat = 18446744073709551615 - a := by
    rw [BitVec.xor_allOnes, BitVec.toNat_not]; simp; omega
  rw [h, e1, e2, e3, IntKind.wrap_i64]
  omega
theorem bits_xor_0 (a : Nat) (ha : a < 9223372036854775808) : bits .xor .i64 (a : Int) 0 = (a : Int) := by
  have h : bits .xor .i64 (a : Int) 0 = IntKind.i64.wrap ((BitVec.ofInt 64 (a : Int) ^^^ BitVec.ofInt 64 0).toNat : Int) := rfl
  have e2 : BitVec.ofInt 64 0 = 0#64 := by decide
  have e1 : BitVec.ofInt 64 (a : Int) = BitVec.ofNat 64 a := by simp
  have e3 : (BitVec.ofNat 64 a ^^^ 0#64).toNat = a := by
    simp; omega
  rw [h, e1, e2, e3, IntKind.wrap_i64]
  omega
theorem unzig_bits (Y : Nat) (hY : Y < 9223372036854775808) :
    bits .xor .i64 ((Y : Int) / 2) (wrap64 (-wrap64 (bits .and .u64 (Y : Int) 1))) = unzig Y := by
  have h1 : bits .and .u64 (Y : Int) 1 = ((Y % 2 : Nat) : Int) := by
    have h := bitsN64_and Y 1 (by omega) (by decide)
    rw [Nat.and_one_is_mod] at h
    exact h
  rw [h1, show (Y : Int) / 2 = ((Y / 2 : Nat) : Int) by omega]
  unfold unzig
  by_cases h : Y % 2 = 0
  · rw [if_pos h, h]
    rw [show wrap64 (-wrap64 ((0 : Nat) : Int)) = 0 by simp [wrap64]]
    exact bits_xor_0 (Y / 2) (by omega)
  · have h' : Y % 2 = 1 := by omega
    rw [if_neg h, h']
    rw [show wrap64 (-wrap64 ((1 : Nat) : Int)) = -1 by simp [wrap64]]
    exact bits_xor_m1 (Y / 2) (by omega)
theorem unzig_bd (Y : Nat) (hY : Y < 9223372036854775808) : -4611686018427387904 ≤ unzig Y ∧ unzig Y ≤ 4611686018427387903 := by
  unfold unzig; split <;> omega
/-- f more bytes at most; k bytes and the number y have come. -/
def idec : Nat → Nat → Nat → List UInt8 → Option (Int × Nat)
  | 0, _, _, _ => none
  | _ + 1, _, _, [] => none
  | f + 1, k, y, b :: l =>
    if 128 ≤ b.toNat then idec f (k + 1) (y + b.toNat % 128 * 128 ^ k) l
    else if (b.toNat = 0 ∧ 0 < k) ∨ unzig (y + b.toNat % 128 * 128 ^ k) < -4611686018427387903 then none
    else some (unzig (y + b.toNat % 128 * 128 ^ k), k + 1)
/-- What Int finds at the head of a list of bytes: the number and how many bytes it takes. -/
def intDec (l : List UInt8) : Option (Int × Nat) := idec 9 0 0 l
theorem or_shift (y c k : Nat) (hk : k < 9) (hy : y < 128 ^ k) : bits .or .u64 (y : Int) (IntKind.u64.wrap (((c : Int) % 128) * 2 ^ (7 * k))) = ((y + c % 128 * 128 ^ k : Nat) : Int) ∧ y + c % 128 * 128 ^ k < 128 ^ (k + 1) ∧ y + c % 128 * 128 ^ k < 9223372036854775808 := by
  have hp : (2 : Nat) ^ (7 * k) = 128 ^ k := by rw [Nat.pow_mul]
  have hpi : (2 : Int) ^ (7 * k) = ((128 ^ k : Nat) : Int) := by rw [← hp]; norm_cast
  have hc : c % 128 < 128 := Nat.mod_lt _ (by decide)
  have hb : y + c % 128 * 128 ^ k < 128 ^ (k + 1) := by
    rw [Nat.pow_succ]
    have : c % 128 * 128 ^ k ≤ 127 * 128 ^ k := Nat.mul_le_mul_right _ (by omega)
    omega
  have h9 : 128 ^ (k + 1) ≤ 128 ^ 9 := Nat.pow_le_pow_right (by decide) (by omega)
  have hb2 : y + c % 128 * 128 ^ k < 9223372036854775808 := by
    have : (128 : Nat) ^ 9 = 9223372036854775808 := by decide
    omega
  refine ⟨?_, hb, hb2⟩
  have e1 : ((c : Int) % 128) * 2 ^ (7 * k) = ((c % 128 * 128 ^ k : Nat) : Int) := by
    rw [hpi]; push_cast; rfl
  have e2 : IntKind.u64.wrap ((c % 128 * 128 ^ k : Nat) : Int) = ((c % 128 * 128 ^ k : Nat) : Int) := by
    rw [IntKind.wrap_u64]; omega
  rw [e1, e2, bitsN64_or _ _ (by omega) (by omega)]
  congr 1
  rw [Nat.or_comm, ← hp, Nat.mul_comm, ← Nat.two_pow_add_eq_or_of_lt (by rw [hp]; exact hy), Nat.add_comm]
theorem wrap_shift (y c k : Nat) (hk : k < 9) (hy : y < 128 ^ k) : IntKind.u64.wrap ((y : Int) + IntKind.u64.wrap (((c : Int) % 128) * 2 ^ (7 * k))) = ((y + c % 128 * 128 ^ k : Nat) : Int) := by
  have h := (or_shift y c k hk hy).2.2
  have hp : (2 : Nat) ^ (7 * k) = 128 ^ k := by rw [Nat.pow_mul]
  have hpi : (2 : Int) ^ (7 * k) = ((128 ^ k : Nat) : Int) := by rw [← hp]; norm_cast
  have e1 : ((c : Int) % 128) * 2 ^ (7 * k) = ((c % 128 * 128 ^ k : Nat) : Int) := by
    rw [hpi]; push_cast; rfl
  rw [e1]
  simp only [IntKind.wrap_u64]
  generalize c % 128 * 128 ^ k = m at *
  omega
end Go.Proofs.YtcfplkbbgjiocaaDoor
