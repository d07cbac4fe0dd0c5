/- Bit operations on unsigned numbers, said with BitVec and with Nat. No condition. -/
import Derived.WalkKit
import Derived.IntWalk
namespace Go.Proofs.YtcfplkbbgjiocaaDoor
open Go Go.RowKit
theorem wrap_u8' (n : Int) : IntKind.u8.wrap n = n % 256 := IntKind.wrap_u8 n
theorem wrap_nat {w : Nat} (a : BitVec w) {M : Int} (hM : M = 2 ^ w) : ((a.toNat : Int)) % M = (a.toNat : Int) := by
  subst hM
  have h := a.isLt
  refine Int.emod_eq_of_lt (by omega) ?_
  exact_mod_cast h
theorem bits32_and (a b : BitVec 32) : bits .and .u32 (a.toNat : Int) (b.toNat : Int) = ((a &&& b).toNat : Int) := by
  have ha : BitVec.ofInt IntKind.u32.bits (a.toNat : Int) = a := by simp [IntKind.bits]
  have hb : BitVec.ofInt IntKind.u32.bits (b.toNat : Int) = b := by simp [IntKind.bits]
  unfold bits
  simp only [ha, hb]
  rw [IntKind.wrap_u32]
  exact wrap_nat (a &&& b) (by decide)
theorem bits32_or (a b : BitVec 32) : bits .or .u32 (a.toNat : Int) (b.toNat : Int) = ((a ||| b).toNat : Int) := by
  have ha : BitVec.ofInt IntKind.u32.bits (a.toNat : Int) = a := by simp [IntKind.bits]
  have hb : BitVec.ofInt IntKind.u32.bits (b.toNat : Int) = b := by simp [IntKind.bits]
  unfold bits
  simp only [ha, hb]
  rw [IntKind.wrap_u32]
  exact wrap_nat (a ||| b) (by decide)
theorem bits32_xor (a b : BitVec 32) : bits .xor .u32 (a.toNat : Int) (b.toNat : Int) = ((a ^^^ b).toNat : Int) := by
  have ha : BitVec.ofInt IntKind.u32.bits (a.toNat : Int) = a := by simp [IntKind.bits]
  have hb : BitVec.ofInt IntKind.u32.bits (b.toNat : Int) = b := by simp [IntKind.bits]
  unfold bits
  simp only [ha, hb]
  rw [IntKind.wrap_u32]
  exact wrap_nat (a ^^^ b) (by decide)
theorem bits64_and (a b : BitVec 64) : bits .and .u64 (a.toNat : Int) (b.toNat : Int) = ((a &&& b).toNat : Int) := by
  have ha : BitVec.ofInt IntKind.u64.bits (a.toNat : Int) = a := by simp [IntKind.bits]
  have hb : BitVec.ofInt IntKind.u64.bits (b.toNat : Int) = b := by simp [IntKind.bits]
  unfold bits
  simp only [ha, hb]
  rw [IntKind.wrap_u64]
  exact wrap_nat (a &&& b) (by decide)
theorem bits64_or (a b : BitVec 64) : bits .or .u64 (a.toNat : Int) (b.toNat : Int) = ((a ||| b).toNat : Int) := by
  have ha : BitVec.ofInt IntKind.u64.bits (a.toNat : Int) = a := by simp [IntKind.bits]
  have hb : BitVec.ofInt IntKind.u64.bits (b.toNat : Int) = b := by simp [IntKind.bits]
  unfold bits
  simp only [ha, hb]
  rw [IntKind.wrap_u64]
  exact wrap_nat (a ||| b) (by decide)
theorem bits64_xor (a b : BitVec 64) : bits .xor .u64 (a.toNat : Int) (b.toNat : Int) = ((a ^^^ b).toNat : Int) := by
  have ha : BitVec.ofInt IntKind.u64.bits (a.toNat : Int) = a := by simp [IntKind.bits]
  have hb : BitVec.ofInt IntKind.u64.bits (b.toNat : Int) = b := by simp [IntKind.bits]
  unfold bits
  simp only [ha, hb]
  rw [IntKind.wrap_u64]
  exact wrap_nat (a ^^^ b) (by decide)
theorem bits8_and (a b : BitVec 8) : bits .and .u8 (a.toNat : Int) (b.toNat : Int) = ((a &&& b).toNat : Int) := by
  have ha : BitVec.ofInt IntKind.u8.bits (a.toNat : Int) = a := by simp [IntKind.bits]
  have hb : BitVec.ofInt IntKind.u8.bits (b.toNat : Int) = b := by simp [IntKind.bits]
  unfold bits
  simp only [ha, hb]
  rw [IntKind.wrap_u8]
  exact wrap_nat (a &&& b) (by decide)
theorem bits8_or (a b : BitVec 8) : bits .or .u8 (a.toNat : Int) (b.toNat : Int) = ((a ||| b).toNat : Int) := by
  have ha : BitVec.ofInt IntKind.u8.bits (a.toNat : Int) = a := by simp [IntKind.bits]
  have hb : BitVec.ofInt IntKind.u8.bits (b.toNat : Int) = b := by simp [IntKind.bits]
  unfold bits
  simp only [ha, hb]
  rw [IntKind.wrap_u8]
  exact wrap_nat (a ||| b) (by decide)
theorem bits8_xor (a b : BitVec 8) : bits .xor .u8 (a.toNat : Int) (b.toNat : Int) = ((a ^^^ b).toNat : Int) := by
  have ha : BitVec.ofInt IntKind.u8.bits (a.toNat : Int) = a := by simp [IntKind.bits]
  have hb : BitVec.ofInt IntKind.u8.bits (b.toNat : Int) = b := by simp [IntKind.bits]
  unfold bits
  simp only [ha, hb]
  rw [IntKind.wrap_u8]
  exact wrap_nat (a ^^^ b) (by decide)
theorem nat_of_int {n : Int} {M : Nat} (h0 : 0 ≤ n) (h1 : n < (M : Int)) : ∃ k : Nat, k < M ∧ n = (k : Int) :=
  ⟨n.toNat, by omega, by omega⟩
/-- On plain numbers in range. -/
theorem bitsN64_and (a b : Nat) (ha : a < 2 ^ 64) (hb : b < 2 ^ 64) : bits .and .u64 (a : Int) (b : Int) = ((a &&& b : Nat) : Int) := by
  have h := bits64_and (BitVec.ofNat 64 a) (BitVec.ofNat 64 b)
  simpa [Nat.mod_eq_of_lt ha, Nat.mod_eq_of_lt hb] using h
theorem bitsN64_or (a b : Nat) (ha : a < 2 ^ 64) (hb : b < 2 ^ 64) : bits .or .u64 (a : Int) (b : Int) = ((a ||| b : Nat) : Int) := by
  have h := bits64_or (BitVec.ofNat 64 a) (BitVec.ofNat 64 b)
  simpa [Nat.mod_eq_of_lt ha, Nat.mod_eq_of_lt hb] using h
theorem bitsN64_xor (a b : Nat) (ha : a < 2 ^ 64) (hb : b < 2 ^ 64) : bits .xor .u64 (a : Int) (b : Int) = ((a ^^^ b : Nat) : Int) := by
  have h := bits64_xor (BitVec.ofNat 64 a) (BitVec.ofNat 64 b)
  simpa [Nat.mod_eq_of_lt ha, Nat.mod_eq_of_lt hb] using h
theorem bitsN8_and (a b : Nat) (ha : a < 256) (hb : b < 256) : bits .and .u8 (a : Int) (b : Int) = ((a &&& b : Nat) : Int) := by
  have h := bits8_and (BitVec.ofNat 8 a) (BitVec.ofNat 8 b)
  simpa [Nat.mod_eq_of_lt ha, Nat.mod_eq_of_lt hb] using h
theorem bitsN8_or (a b : Nat) (ha : a < 256) (hb : b < 256) : bits .or .u8 (a : Int) (b : Int) = ((a ||| b : Nat) : Int) := by
  have h := bits8_or (BitVec.ofNat 8 a) (BitVec.ofNat 8 b)
  simpa [Nat.mod_eq_of_lt ha, Nat.mod_eq_of_lt hb] using h
theorem bitsN8_xor (a b : Nat) (ha : a < 256) (hb : b < 256) : bits .xor .u8 (a : Int) (b : Int) = ((a ^^^ b : Nat) : Int) := by
  have h := bits8_xor (BitVec.ofNat 8 a) (BitVec.ofNat 8 b)
  simpa [Nat.mod_eq_of_lt ha, Nat.mod_eq_of_lt hb] using h
theorem bitsN32_and (a b : Nat) (ha : a < 2 ^ 32) (hb : b < 2 ^ 32) : bits .and .u32 (a : Int) (b : Int) = ((a &&& b : Nat) : Int) := by
  have h := bits32_and (BitVec.ofNat 32 a) (BitVec.ofNat 32 b)
  simpa [Nat.mod_eq_of_lt ha, Nat.mod_eq_of_lt hb] using h
theorem bitsN32_xor (a b : Nat) (ha : a < 2 ^ 32) (hb : b < 2 ^ 32) : bits .xor .u32 (a : Int) (b : Int) = ((a ^^^ b : Nat) : Int) := by
  have h := bits32_xor (BitVec.ofNat 32 a) (BitVec.ofNat 32 b)
  simpa [Nat.mod_eq_of_lt ha, Nat.mod_eq_of_lt hb] using h
theorem bitsN32_or (a b : Nat) (ha : a < 2 ^ 32) (hb : b < 2 ^ 32) : bits .or .u32 (a : Int) (b : Int) = ((a ||| b : Nat) : Int) := by
  have h := bits32_or (BitVec.ofNat 32 a) (BitVec.ofNat 32 b)
  simpa [Nat.mod_eq_of_lt ha, Nat.mod_eq_of_lt hb] using h
theorem and15_u32 (y : Nat) (hy : y < 2 ^ 32) : bits .and .u32 (y : Int) 15 = ((y % 16 : Nat) : Int) := by
  have h := bitsN32_and y 15 hy (by decide)
  have e : y &&& 15 = y % 16 := Nat.and_two_pow_sub_one_eq_mod y 4
  rw [e] at h
  exact h
/-- The low seven bits. -/
theorem and127_u64 (y : Nat) (hy : y < 18446744073709551616) : bits .and .u64 (y : Int) 127 = ((y % 128 : Nat) : Int) := by
  have h := bitsN64_and y 127 (by omega) (by decide)
  have e : y &&& 127 = y % 128 := Nat.and_two_pow_sub_one_eq_mod y 7
  rw [e] at h
  exact h
theorem and127_u8 (y : Nat) (hy : y < 256) : bits .and .u8 (y : Int) 127 = ((y % 128 : Nat) : Int) := by
  have h := bitsN8_and y 127 hy (by decide)
  have e : y &&& 127 = y % 128 := Nat.and_two_pow_sub_one_eq_mod y 7
  rw [e] at h
  exact h
theorem or128_u8 (y : Nat) (hy : y < 128) : bits .or .u8 (y : Int) 128 = ((y + 128 : Nat) : Int) := by
  have h := bitsN8_or y 128 (by omega) (by decide)
  have e : y ||| 128 = y + 128 := (by decide : ∀ z : Fin 128, z.val ||| 128 = z.val + 128) ⟨y, hy⟩
  rw [e] at h
  exact h
theorem not_u64 (a : Nat) (ha : a < 18446744073709551616) : bits .xor .u64 (a : Int) 18446744073709551615 = ((18446744073709551615 - a : Nat) : Int) := by
  have h := bits64_xor (BitVec.ofNat 64 a) (BitVec.allOnes 64)
  rw [BitVec.xor_allOnes, BitVec.toNat_not] at h
  have e1 : (BitVec.ofNat 64 a).toNat = a := by simp; omega
  have e2 : (BitVec.allOnes 64).toNat = 18446744073709551615 := by decide
  rw [e1, e2] at h
  rw [show ((18446744073709551615 - a : Nat) : Int) = ((2 ^ 64 - 1 - a : Nat) : Int) by congr 1]
  exact h
theorem not_u32 (a : Nat) (ha : a < 4294967296) : bits .xor .u32 IntKind.u32.max (a : Int) = ((4294967295 - a : Nat) : Int) := by
  have h := bits32_xor (BitVec.allOnes 32) (BitVec.ofNat 32 a)
  rw [BitVec.xor_comm, BitVec.xor_allOnes, BitVec.toNat_not] at h
  have e1 : (BitVec.ofNat 32 a).toNat = a := by simp; omega
  have e2 : ((BitVec.allOnes 32).toNat : Int) = IntKind.u32.max := by decide
  rw [e1, e2] at h
  rw [show ((4294967295 - a : Nat) : Int) = ((2 ^ 32 - 1 - a : Nat) : Int) by congr 1]
  exact h
theorem wrap64_nat (n : Nat) (h : n < 9223372036854775808) : wrap64 (n : Int) = (n : Int) := by
  simp only [wrap64]; omega
def zig (n : Int) : Nat := if n < 0 then (-2 * n - 1).toNat else (2 * n).toNat
theorem zig_lt {n : Int} (h1 : -4611686018427387904 ≤ n) (h2 : n ≤ 4611686018427387903) : zig n < 9223372036854775808 := by
  unfold zig; split <;> omega
theorem zigzag_u64 (n : Int) (h1 : -4611686018427387904 ≤ n) (h2 : n ≤ 4611686018427387903) :
    bits BinOp.xor IntKind.u64 (IntKind.u64.wrap (IntKind.u64.wrap n * 2)) (IntKind.u64.wrap (n / 9223372036854775808)) = ((zig n : Nat) : Int) := by
  have hl := zig_lt h1 h2
  by_cases h : n < 0
  · have e1 : IntKind.u64.wrap (IntKind.u64.wrap n * 2) = (((18446744073709551616 + 2 * n).toNat : Nat) : Int) := by
      simp only [IntKind.wrap_u64]; omega
    have e2 : IntKind.u64.wrap (n / 9223372036854775808) = 18446744073709551615 := by
      have : n / 9223372036854775808 = -1 := by omega
      rw [this]; decide
    rw [e1, e2, not_u64 _ (by omega)]
    unfold zig; rw [if_pos h]; omega
  · have e1 : IntKind.u64.wrap (IntKind.u64.wrap n * 2) = (((2 * n).toNat : Nat) : Int) := by
      simp only [IntKind.wrap_u64]; omega
    have e2 : IntKind.u64.wrap (n / 9223372036854775808) = ((0 : Nat) : Int) := by
      have : n / 9223372036854775808 = 0 := by omega
      rw [this]; decide
    rw [e1, e2, bitsN64_xor _ _ (by omega) (by decide)]
    unfold zig; rw [if_neg h]; simp
end Go.Proofs.YtcfplkbbgjiocaaDoor
