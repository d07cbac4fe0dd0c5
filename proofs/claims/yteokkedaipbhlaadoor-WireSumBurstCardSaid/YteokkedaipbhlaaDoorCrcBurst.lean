/- A change of at most 32 consecutive bits changes the checksum. No program. -/
import Derived.Test.YteokkedaipbhlaaDoorCrcLaw
namespace Go.Proofs.YteokkedaipbhlaaDoor
open Go Go.RowKit
theorem mul_xor (n x y : Nat) : 2 ^ n * (x ^^^ y) = 2 ^ n * x ^^^ 2 ^ n * y := by
  apply Nat.eq_of_testBit_eq
  intro i
  simp only [Nat.testBit_two_pow_mul, Nat.testBit_xor]
  by_cases h : n ≤ i <;> simp [h]
/-- A list of bytes as a number, the first one least. -/
def val : List UInt8 → Nat
  | [] => 0
  | b :: l => b.toNat ^^^ (2 ^ 8 * val l)
theorem val_set : ∀ (l : List UInt8) (j : Nat) (b c : UInt8), l[j]? = some b → val (l.set j (b ^^^ c)) = val l ^^^ (c.toNat * 2 ^ (8 * j))
  | [], j, b, c, h => by simp at h
  | x :: l, 0, b, c, h => by
    simp only [List.getElem?_cons_zero, Option.some.injEq] at h
    subst h
    simp only [List.set_cons_zero, val, UInt8.toNat_xor, Nat.mul_zero, Nat.pow_zero, Nat.mul_one]
    rw [Nat.xor_assoc, Nat.xor_comm c.toNat, ← Nat.xor_assoc]
  | x :: l, j + 1, b, c, h => by
    simp only [List.getElem?_cons_succ] at h
    simp only [List.set_cons_succ, val]
    rw [val_set l j b c h, mul_xor, ← Nat.xor_assoc]
    congr 1
    rw [Nat.mul_comm (2 ^ 8), Nat.mul_assoc, ← Nat.pow_add, show 8 * j + 8 = 8 * (j + 1) by omega]
theorem crcN_xor (n : Nat) : ∀ a b, crcN n (a ^^^ b) = crcN n a ^^^ crcN n b := by
  induction n with
  | zero => intro a b; rfl
  | succ n ih => intro a b; simp only [crcN]; rw [crc1_xor, ih]
theorem crcN_shift (n : Nat) : ∀ x, crcN n (2 ^ n * x) = x := by
  induction n with
  | zero => intro x; simp [crcN]
  | succ n ih =>
    intro x
    simp only [crcN]
    rw [Nat.pow_succ, Nat.mul_comm (2 ^ n), Nat.mul_assoc, crc1_even, ih]
theorem crcN_add (m : Nat) : ∀ n x, crcN (m + n) x = crcN n (crcN m x) := by
  induction m with
  | zero => intro n x; simp [crcN]
  | succ m ih => intro n x; rw [show m + 1 + n = (m + n) + 1 by omega]; simp only [crcN]; exact ih n _
theorem crcFold_val : ∀ (l : List UInt8) (r : Nat), l.foldl crcByte r = crcN (8 * l.length) (r ^^^ val l)
  | [], r => by simp [val, crcN]
  | b :: l, r => by
    simp only [List.foldl_cons, val, List.length_cons]
    rw [crcFold_val l, ← crcN_8, show 8 * (l.length + 1) = 8 + 8 * l.length by omega, crcN_add, ← Nat.xor_assoc, crcN_xor 8 (r ^^^ b.toNat), crcN_shift 8]
theorem crc1_zero {x : Nat} (hx : x < 2 ^ 32) (h : crc1 x = 0) : x = 0 := by
  unfold crc1 at h
  by_cases ho : x % 2 = 1
  · rw [if_pos ho] at h
    have e : x / 2 = 2197175160 := by
      have := congrArg (fun z => z ^^^ 2197175160) h
      simpa [Nat.xor_assoc] using this
    omega
  · rw [if_neg ho] at h; omega
theorem crcN_zero (n : Nat) : ∀ {x : Nat}, x < 2 ^ 32 → crcN n x = 0 → x = 0 := by
  induction n with
  | zero => intro x _ h; exact h
  | succ n ih => intro x hx h; exact crc1_zero hx (ih (crc1_lt hx) h)
theorem crcN_0 (n : Nat) : crcN n 0 = 0 := by
  induction n with
  | zero => rfl
  | succ n ih => simp only [crcN]; rw [show crc1 0 = 0 by decide]; exact ih
/-- The lists differ in a burst B at a bit: the checksums are the same just where the burst is empty. -/
theorem crc_burst {l k : List UInt8} {B at_ : Nat} (hl : l.length = k.length) (hv : val l = val k ^^^ (B * 2 ^ at_)) (hB : B < 2 ^ 32) (hat : at_ ≤ 8 * l.length) :
    crc l = crc k ↔ B = 0 := by
  have e1 : crcReg l = crcReg k ^^^ crcN (8 * l.length - at_) B := by
    have e : crcReg l = crcN (8 * l.length) (4294967295 ^^^ val l) := crcFold_val l _
    have f : crcReg k = crcN (8 * k.length) (4294967295 ^^^ val k) := crcFold_val k _
    rw [e, f, hv, ← Nat.xor_assoc, crcN_xor, ← hl]
    congr 1
    rw [Nat.mul_comm B]
    conv => lhs; rw [show 8 * l.length = at_ + (8 * l.length - at_) by omega]
    rw [crcN_add, crcN_shift]
  have hr := crcReg_lt l
  have hk := crcReg_lt k
  constructor
  · intro h
    unfold crc at h
    have hreq : crcReg l = crcReg k := by omega
    rw [hreq] at e1
    refine crcN_zero (8 * l.length - at_) hB ?_
    have := congrArg (fun z => crcReg k ^^^ z) e1
    simp only [← Nat.xor_assoc, Nat.xor_self, Nat.zero_xor] at this
    exact this.symm
  · intro h
    rw [h, crcN_0, Nat.xor_zero] at e1
    unfold crc; rw [e1]
/-- One bit more of the pattern. -/
theorem burst_bit (bits i at_ v : Nat) :
    (bits / 2 ^ i % 2 = 1 → (v ^^^ (bits % 2 ^ i * 2 ^ at_)) ^^^ 2 ^ (at_ + i) = v ^^^ (bits % 2 ^ (i + 1) * 2 ^ at_)) ∧ (¬ bits / 2 ^ i % 2 = 1 → bits % 2 ^ (i + 1) = bits % 2 ^ i) ∧ (bits / 2 ^ i % 2 = 1 → bits % 2 ^ (i + 1) ≠ 0) := by
  have hm : bits % 2 ^ (i + 1) = bits % 2 ^ i + 2 ^ i * (bits / 2 ^ i % 2) := Nat.mod_pow_succ
  refine ⟨fun h => ?_, fun h => ?_, fun h => ?_⟩
  · have hlt : bits % 2 ^ i < 2 ^ i := Nat.mod_lt _ (Nat.two_pow_pos i)
    have e : bits % 2 ^ (i + 1) = (bits % 2 ^ i) ^^^ 2 ^ i := by
      rw [hm, h, Nat.mul_one]
      apply Nat.eq_of_testBit_eq
      intro j
      rw [Nat.testBit_xor, Nat.add_comm]
      by_cases hj : j < i
      · rw [Nat.testBit_two_pow_add_gt hj, Nat.testBit_two_pow_of_ne (by omega)]; simp
      · by_cases hji : j = i
        · subst hji
          rw [Nat.testBit_two_pow_add_eq, Nat.testBit_two_pow_self, Nat.testBit_lt_two_pow hlt]; rfl
        · have h1 : (2 ^ i + bits % 2 ^ i).testBit j = false := Nat.testBit_lt_two_pow (by
            have : 2 ^ (i + 1) ≤ 2 ^ j := Nat.pow_le_pow_right (by decide) (by omega)
            rw [Nat.pow_succ] at this; omega)
          have h2 : (bits % 2 ^ i).testBit j = false := Nat.testBit_lt_two_pow (Nat.lt_of_lt_of_le hlt (Nat.pow_le_pow_right (by decide) (by omega)))
          rw [h1, h2, Nat.testBit_two_pow_of_ne (by omega)]; rfl
    rw [e, Nat.mul_comm (_ ^^^ _), mul_xor, Nat.mul_comm (2 ^ at_) (bits % 2 ^ i), ← Nat.xor_assoc, Nat.pow_add]
  · have h0 : bits / 2 ^ i % 2 = 0 := by omega
    rw [hm, h0]; simp
  · rw [hm, h, Nat.mul_one]
    have := Nat.two_pow_pos i
    omega
end Go.Proofs.YteokkedaipbhlaaDoor
