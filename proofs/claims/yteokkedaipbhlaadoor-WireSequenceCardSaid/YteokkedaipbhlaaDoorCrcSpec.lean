/- The checksum on lists of bytes, by four bits and by one bit. No program. -/
import Derived.Test.YteokkedaipbhlaaDoorBits
namespace Go.Proofs.YteokkedaipbhlaaDoor
open Go Go.RowKit
def crcTab (i : Nat) : Nat := [0, 274646895, 549293790, 820201905, 1098587580, 1361435347, 1640403810, 1905808397, 2197175160, 2460548119, 2722870694, 2987750089, 3280807620, 3553878443, 3811616794, 4084100981].getD i 0
def crc4 (r : Nat) : Nat := r / 16 ^^^ crcTab (r % 16)
def crcByte (r : Nat) (b : UInt8) : Nat := crc4 (crc4 (r ^^^ b.toNat))
def crcReg (l : List UInt8) : Nat := l.foldl crcByte 4294967295
def crc (l : List UInt8) : Nat := 4294967295 - crcReg l
/-- One bit. -/
def crc1 (r : Nat) : Nat := if r % 2 = 1 then r / 2 ^^^ 2197175160 else r / 2
theorem crcTab_lt (i : Nat) : crcTab i < 2 ^ 32 := by
  by_cases h : i < 16
  · exact (by decide : ∀ j : Fin 16, crcTab j.val < 2 ^ 32) ⟨i, h⟩
  · unfold crcTab
    rw [List.getD_eq_getElem?_getD, List.getElem?_eq_none (by simpa using h)]
    decide
theorem crc4_lt {r : Nat} (h : r < 2 ^ 32) : crc4 r < 2 ^ 32 := Nat.xor_lt_two_pow (by omega) (crcTab_lt _)
theorem byte_lt32 (b : UInt8) : b.toNat < 2 ^ 32 := by have := b.toNat_lt; omega
theorem crcByte_lt {r : Nat} (h : r < 2 ^ 32) (b : UInt8) : crcByte r b < 2 ^ 32 := crc4_lt (crc4_lt (Nat.xor_lt_two_pow h (byte_lt32 b)))
theorem crcFold_lt (l : List UInt8) : ∀ r, r < 2 ^ 32 → l.foldl crcByte r < 2 ^ 32 := by
  induction l with
  | nil => intro r h; exact h
  | cons b l ih => intro r h; exact ih _ (crcByte_lt h b)
theorem crcReg_lt (l : List UInt8) : crcReg l < 2 ^ 32 := crcFold_lt l _ (by decide)
theorem crc1_lt {r : Nat} (h : r < 2 ^ 32) : crc1 r < 2 ^ 32 := by
  unfold crc1; split
  · exact Nat.xor_lt_two_pow (by omega) (by decide)
  · omega
theorem xor_div2 (a b : Nat) : (a ^^^ b) / 2 = a / 2 ^^^ b / 2 := by
  apply Nat.eq_of_testBit_eq
  intro i
  simp [Nat.testBit_div_two]
theorem xor_mod2 (a b : Nat) : (a ^^^ b) % 2 = (a % 2 + b % 2) % 2 := by
  have h := Nat.testBit_xor a b 0
  simp only [Nat.testBit_zero] at h
  have ha := Nat.mod_two_eq_zero_or_one a
  have hb := Nat.mod_two_eq_zero_or_one b
  have hc := Nat.mod_two_eq_zero_or_one (a ^^^ b)
  rcases ha with ha | ha <;> rcases hb with hb | hb <;> rcases hc with hc | hc <;> simp [ha, hb, hc] at h ⊢
/-- A bit's step is linear. -/
theorem crc1_xor (a b : Nat) : crc1 (a ^^^ b) = crc1 a ^^^ crc1 b := by
  unfold crc1
  rw [xor_div2]
  have h := xor_mod2 a b
  have ha := Nat.mod_two_eq_zero_or_one a
  have hb := Nat.mod_two_eq_zero_or_one b
  rcases ha with ha | ha <;> rcases hb with hb | hb <;> rw [ha, hb] at h <;> simp [ha, hb, h]
  · rw [Nat.xor_assoc]
  · rw [Nat.xor_assoc, Nat.xor_assoc, Nat.xor_comm (b / 2)]
  · rw [Nat.xor_assoc, ← Nat.xor_assoc 2197175160 (b / 2), Nat.xor_comm 2197175160 (b / 2), Nat.xor_assoc (b / 2), Nat.xor_self, Nat.xor_zero]
theorem crc1_even (x : Nat) : crc1 (2 * x) = x := by unfold crc1; rw [if_neg (by omega)]; omega
/-- Four bits at once. -/
theorem crc4_bits (r : Nat) : crc1 (crc1 (crc1 (crc1 r))) = crc4 r := by
  have e : r = (r / 16 * 16) ^^^ (r % 16) := by
    have h := Nat.two_pow_add_eq_or_of_lt (i := 4) (b := r % 16) (Nat.mod_lt _ (by decide)) (r / 16)
    have h0 : (r / 16 * 16) &&& (r % 16) = 0 := by
      apply Nat.eq_of_testBit_eq
      intro i
      simp only [Nat.testBit_and, Nat.zero_testBit]
      by_cases hi : i < 4
      · have : (r / 16 * 16).testBit i = false := by
          rw [show r / 16 * 16 = 2 ^ 4 * (r / 16) by omega, Nat.testBit_two_pow_mul]
          simp; omega
        rw [this]; rfl
      · have : (r % 16).testBit i = false := Nat.testBit_lt_two_pow (Nat.lt_of_lt_of_le (Nat.mod_lt _ (by decide : 16 > 0)) (by rw [show 16 = 2 ^ 4 by decide]; exact Nat.pow_le_pow_right (by decide) (by omega)))
        rw [this]; simp
    apply Nat.eq_of_testBit_eq
    intro i
    have h1 : (r / 16 * 16 ||| r % 16) = r := by rw [Nat.mul_comm, ← h]; omega
    have h2 := congrArg (fun x => x.testBit i) h0
    have h3 := congrArg (fun x => x.testBit i) h1
    simp only [Nat.testBit_and, Nat.testBit_or, Nat.zero_testBit] at h2 h3
    rw [Nat.testBit_xor, ← h3]
    cases h4 : (r / 16 * 16).testBit i <;> cases h5 : (r % 16).testBit i <;> simp_all
  have hlo : crc1 (crc1 (crc1 (crc1 (r % 16)))) = crcTab (r % 16) :=
    (by decide : ∀ j : Fin 16, crc1 (crc1 (crc1 (crc1 j.val))) = crcTab j.val) ⟨r % 16, Nat.mod_lt _ (by decide)⟩
  have hhi : crc1 (crc1 (crc1 (crc1 (r / 16 * 16)))) = r / 16 := by
    rw [show r / 16 * 16 = 2 * (2 * (2 * (2 * (r / 16)))) by omega]
    simp only [crc1_even]
  conv => lhs; rw [e]
  simp only [crc1_xor]
  rw [hlo, hhi]
  rfl
theorem crcByte_bits (r : Nat) (b : UInt8) : crc1 (crc1 (crc1 (crc1 (crc1 (crc1 (crc1 (crc1 (r ^^^ b.toNat)))))))) = crcByte r b := by
  rw [crc4_bits, crc4_bits]; rfl
/-- n bits. -/
def crcN : Nat → Nat → Nat
  | 0, x => x
  | n + 1, x => crcN n (crc1 x)
theorem crcN_8 (r : Nat) (b : UInt8) : crcN 8 (r ^^^ b.toNat) = crcByte r b := crcByte_bits r b
end Go.Proofs.YteokkedaipbhlaaDoor
