/- The checksum is affine. No program. -/
import Derived.Test.YteokkedaipbhlaaDoorCrcSpec
namespace Go.Proofs.YteokkedaipbhlaaDoor
open Go Go.RowKit
theorem bits64i_xor (a b : Nat) (ha : a < 2 ^ 63) (hb : b < 2 ^ 63) : bits .xor .i64 (a : Int) (b : Int) = ((a ^^^ b : Nat) : Int) := by
  have h : bits .xor .i64 (a : Int) (b : Int) = IntKind.i64.wrap ((BitVec.ofInt 64 (a : Int) ^^^ BitVec.ofInt 64 (b : Int)).toNat : Int) := rfl
  have e1 : BitVec.ofInt 64 (a : Int) = BitVec.ofNat 64 a := by simp
  have e2 : BitVec.ofInt 64 (b : Int) = BitVec.ofNat 64 b := by simp
  have e3 : (BitVec.ofNat 64 a ^^^ BitVec.ofNat 64 b).toNat = a ^^^ b := by
    rw [BitVec.toNat_xor, BitVec.toNat_ofNat, BitVec.toNat_ofNat, Nat.mod_eq_of_lt (by omega), Nat.mod_eq_of_lt (by omega)]
  have hx := Nat.xor_lt_two_pow ha hb
  rw [h, e1, e2, e3, IntKind.wrap_i64]
  omega
theorem crc4_xor (a b : Nat) : crc4 (a ^^^ b) = crc4 a ^^^ crc4 b := by
  rw [← crc4_bits, ← crc4_bits, ← crc4_bits]
  simp only [crc1_xor]
theorem xor_swap (a b c d : Nat) : (a ^^^ b) ^^^ (c ^^^ d) = (a ^^^ c) ^^^ (b ^^^ d) := by
  rw [Nat.xor_assoc, Nat.xor_assoc, ← Nat.xor_assoc b, Nat.xor_comm b c, Nat.xor_assoc c]
theorem crcByte_xor (r s : Nat) (a b : UInt8) : crcByte (r ^^^ s) (a ^^^ b) = crcByte r a ^^^ crcByte s b := by
  unfold crcByte
  rw [UInt8.toNat_xor, xor_swap, crc4_xor, crc4_xor]
theorem crcFold_xor : ∀ (l x y z : List UInt8) (r s t : Nat), x.length = l.length → y.length = l.length → z.length = l.length →
    (∀ j, j < l.length → l.getD j 0 = (x.getD j 0 ^^^ y.getD j 0) ^^^ z.getD j 0) →
    l.foldl crcByte ((r ^^^ s) ^^^ t) = (x.foldl crcByte r ^^^ y.foldl crcByte s) ^^^ z.foldl crcByte t
  | [], x, y, z, r, s, t, hx, hy, hz, _ => by
    rw [List.eq_nil_of_length_eq_zero hx, List.eq_nil_of_length_eq_zero hy, List.eq_nil_of_length_eq_zero hz]; rfl
  | b :: l, x, y, z, r, s, t, hx, hy, hz, h => by
    match x, y, z, hx, hy, hz with
    | x0 :: x, y0 :: y, z0 :: z, hx, hy, hz =>
      have h0 := h 0 (by simp)
      simp only [List.getD_cons_zero] at h0
      simp only [List.foldl_cons]
      rw [h0, crcByte_xor, crcByte_xor]
      exact crcFold_xor l x y z _ _ _ (by simpa using hx) (by simpa using hy) (by simpa using hz) (fun j hj => by
        have := h (j + 1) (by simp; omega)
        simpa using this)
theorem not_xor (r : Nat) (h : r < 2 ^ 32) : 4294967295 - r = r ^^^ 4294967295 := by
  have e : (BitVec.ofNat 32 r ^^^ BitVec.allOnes 32).toNat = r ^^^ 4294967295 := by
    rw [BitVec.toNat_xor, BitVec.toNat_ofNat, Nat.mod_eq_of_lt h]; rfl
  rw [← e, BitVec.xor_allOnes, BitVec.toNat_not, BitVec.toNat_ofNat, Nat.mod_eq_of_lt h]
theorem crc_affine (l x y z : List UInt8) (hx : x.length = l.length) (hy : y.length = l.length) (hz : z.length = l.length)
    (h : ∀ j, j < l.length → l.getD j 0 = (x.getD j 0 ^^^ y.getD j 0) ^^^ z.getD j 0) : crc l = (crc x ^^^ crc y) ^^^ crc z := by
  have e := crcFold_xor l x y z 4294967295 4294967295 4294967295 hx hy hz h
  rw [Nat.xor_self, Nat.zero_xor] at e
  unfold crc
  rw [not_xor _ (crcReg_lt l), not_xor _ (crcReg_lt x), not_xor _ (crcReg_lt y), not_xor _ (crcReg_lt z)]
  have el : crcReg l = (crcReg x ^^^ crcReg y) ^^^ crcReg z := e
  rw [el, xor_swap (crcReg x) 4294967295, Nat.xor_self, Nat.xor_zero, Nat.xor_assoc]
theorem crc_lt (l : List UInt8) : crc l < 2 ^ 32 := by unfold crc; omega
end Go.Proofs.YteokkedaipbhlaaDoor
