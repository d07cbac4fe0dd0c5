/- Decoding gives back what was encoded, accepts nothing else, and no proper prefix. No program. -/
import Derived.Test.YteokkedaipbhlaaDoorRefIntSpec
import Derived.Test.YteokkedaipbhlaaDoorString
namespace Go.Proofs.YteokkedaipbhlaaDoor
open Go Go.RowKit
theorem unzig_zig (n : Int) (h1 : -4611686018427387903 ≤ n) (h2 : n ≤ 4611686018427387903) : unzig (zig n) = n := by
  unfold zig unzig
  by_cases h : n < 0
  · rw [if_pos h, if_neg (by omega)]; omega
  · rw [if_neg h, if_pos (by omega)]; omega
theorem zig_inj {n m : Int} (n1 : -4611686018427387903 ≤ n) (n2 : n ≤ 4611686018427387903) (m1 : -4611686018427387903 ≤ m) (m2 : m ≤ 4611686018427387903) (h : zig n = zig m) : n = m := by
  rw [← unzig_zig n n1 n2, h, unzig_zig m m1 m2]
theorem pow_lt9 {k : Nat} (h : 128 ^ k < 9223372036854775808) : k < 9 := by
  rcases Nat.lt_or_ge k 9 with h9 | h9
  · exact h9
  · have : 128 ^ 9 ≤ 128 ^ k := Nat.pow_le_pow_right (by decide) h9
    have e : (128 : Nat) ^ 9 = 9223372036854775808 := by decide
    omega
theorem byte_nat (z : Nat) (h : z < 256) : (UInt8.ofNat z).toNat = z := by simp; omega
theorem idec_enc (rest : List UInt8) : ∀ (m z k y : Nat), z ≤ m → y < 128 ^ k → (0 < k → 0 < z) → y + z * 128 ^ k < 9223372036854775808 → ¬ unzig (y + z * 128 ^ k) < -4611686018427387903 →
    idec (9 - k) k y (vbytes z ++ rest) = some (unzig (y + z * 128 ^ k), k + (vbytes z).length) := by
  intro m
  induction m with
  | zero =>
    intro z k y hz hy h0 hlt hn
    have : z = 0 := by omega
    subst this
    have : k = 0 := by omega
    subst this
    rw [vbytes_small (by decide)]
    simp only [Nat.sub_zero, List.cons_append, List.nil_append, idec, byte_nat 0 (by decide)]
    simp at hn ⊢
    omega
  | succ m ih =>
    intro z k y hz hy h0 hlt hn
    have hp : 1 ≤ 128 ^ k := Nat.one_le_pow _ _ (by decide)
    have hk9 : k < 9 := by
      rcases Nat.eq_zero_or_pos k with rfl | hk
      · decide
      · have hz0 := h0 hk
        have : 1 * 128 ^ k ≤ z * 128 ^ k := Nat.mul_le_mul_right _ hz0
        exact pow_lt9 (by omega)
    by_cases hs : z < 128
    · rw [vbytes_small hs, show 9 - k = (8 - k) + 1 by omega]
      simp only [List.cons_append, List.nil_append, idec, byte_nat z (by omega)]
      rw [if_neg (by omega), Nat.mod_eq_of_lt hs, if_neg (by omega)]
      rfl
    · have hzb : z < 18446744073709551616 := by
        have : z * 1 ≤ z * 128 ^ k := Nat.mul_le_mul_left _ hp
        omega
      have hb := byte_nat (z % 128 + 128) (by omega)
      rw [vbytes_big hs hzb, show 9 - k = (8 - k) + 1 by omega]
      simp only [List.cons_append, idec]
      rw [hb]
      rw [if_pos (by omega), show (z % 128 + 128) % 128 = z % 128 by omega]
      have e : y + z % 128 * 128 ^ k + z / 128 * 128 ^ (k + 1) = y + z * 128 ^ k := by
        rw [Nat.pow_succ, Nat.mul_comm (128 ^ k) 128, ← Nat.mul_assoc, Nat.add_assoc, ← Nat.add_mul]
        congr 2
        omega
      have h1 : z % 128 * 128 ^ k ≤ 127 * 128 ^ k := Nat.mul_le_mul_right _ (by omega)
      have := ih (z / 128) (k + 1) (y + z % 128 * 128 ^ k) (by omega) (by rw [Nat.pow_succ]; omega) (fun _ => by omega) (by rw [e]; exact hlt) (by rw [e]; exact hn)
      rw [show 8 - k = 9 - (k + 1) by omega, this, e]
      simp
      omega
theorem intDec_enc (n : Int) (h1 : -4611686018427387903 ≤ n) (h2 : n ≤ 4611686018427387903) (rest : List UInt8) :
    intDec (vbytes (zig n) ++ rest) = some (n, (vbytes (zig n)).length) := by
  have hz := zig_lt (n := n) (by omega) h2
  have hu := unzig_zig n h1 h2
  have h := idec_enc rest (zig n) (zig n) 0 0 (Nat.le_refl _) (by decide) (by omega) (by simpa using hz) (by simp [hu]; omega)
  simp only [Nat.pow_zero, Nat.mul_one, Nat.zero_add, Nat.sub_zero] at h
  rw [hu] at h
  exact h
/-- What is accepted is what is encoded. -/
theorem idec_sound (f : Nat) : ∀ (k y : Nat) (l : List UInt8) (n : Int) (j : Nat), idec f k y l = some (n, j) → f + k ≤ 9 → y < 128 ^ k →
    ∃ z, n = unzig (y + z * 128 ^ k) ∧ l.take (j - k) = vbytes z ∧ (0 < k → 0 < z) ∧ k < j ∧ y + z * 128 ^ k < 9223372036854775808 ∧ -4611686018427387903 ≤ n := by
  induction f with
  | zero => intro k y l n j h; simp [idec] at h
  | succ f ih =>
    intro k y l n j h hf hy
    cases l with
    | nil => simp [idec] at h
    | cons b l =>
      have hor := or_shift y b.toNat k (by omega) hy
      have hb2 : b.toNat < 256 := b.toNat_lt
      rw [idec] at h
      by_cases hb : 128 ≤ b.toNat
      · rw [if_pos hb] at h
        obtain ⟨z, h1, h2, h3, h4, h5, h6⟩ := ih (k + 1) _ l n j h (by omega) hor.2.1
        have hz := h3 (by omega)
        have e : y + b.toNat % 128 * 128 ^ k + z * 128 ^ (k + 1) = y + (b.toNat % 128 + 128 * z) * 128 ^ k := by
          rw [Nat.pow_succ, Nat.add_mul, Nat.mul_comm (128 ^ k) 128, ← Nat.mul_assoc, Nat.mul_comm z 128, Nat.add_assoc]
        rw [e] at h1 h5
        have hlt : b.toNat % 128 + 128 * z < 18446744073709551616 := by
          have hp : 1 ≤ 128 ^ k := Nat.one_le_pow _ _ (by decide)
          have : (b.toNat % 128 + 128 * z) * 1 ≤ (b.toNat % 128 + 128 * z) * 128 ^ k := Nat.mul_le_mul_left _ hp
          omega
        refine ⟨b.toNat % 128 + 128 * z, h1, ?_, fun _ => by omega, by omega, h5, h6⟩
        rw [vbytes_big (by omega) hlt, show j - k = (j - (k + 1)) + 1 by omega, List.take_succ_cons, h2]
        rw [show (b.toNat % 128 + 128 * z) % 128 + 128 = b.toNat by omega, show (b.toNat % 128 + 128 * z) / 128 = z by omega]
        simp
      · rw [if_neg hb] at h
        by_cases hx : (b.toNat = 0 ∧ 0 < k) ∨ unzig (y + b.toNat % 128 * 128 ^ k) < -4611686018427387903
        · rw [if_pos hx] at h; cases h
        · rw [if_neg hx] at h
          simp only [Option.some.injEq, Prod.mk.injEq] at h
          obtain ⟨rfl, rfl⟩ := h
          rw [Nat.mod_eq_of_lt (by omega : b.toNat < 128)] at hx hor ⊢
          refine ⟨b.toNat, rfl, ?_, fun _ => by omega, by omega, hor.2.2, by omega⟩
          rw [vbytes_small (by omega), show k + 1 - k = 1 by omega]
          simp
theorem intDec_sound {l : List UInt8} {n : Int} {j : Nat} (h : intDec l = some (n, j)) :
    l.take j = vbytes (zig n) ∧ -4611686018427387903 ≤ n ∧ n ≤ 4611686018427387903 ∧ 0 < j := by
  obtain ⟨z, h1, h2, _, h4, h5, h6⟩ := idec_sound 9 0 0 l n j h (by omega) (by decide)
  simp only [Nat.pow_zero, Nat.mul_one, Nat.zero_add, Nat.sub_zero] at h1 h2 h5
  have := unzig_bd z h5
  subst h1
  rw [zig_unzig z h5]
  exact ⟨h2, h6, this.2, h4⟩
/-- A proper prefix of an encoding is refused. -/
theorem intDec_prefix (n : Int) (h1 : -4611686018427387903 ≤ n) (h2 : n ≤ 4611686018427387903) (m : Nat) (hm : m < (vbytes (zig n)).length) : intDec ((vbytes (zig n)).take m) = none := by
  cases h : intDec ((vbytes (zig n)).take m) with
  | none => rfl
  | some p =>
    obtain ⟨k, j⟩ := p
    exfalso
    have hs := intDec_sound h
    have hz := zig_inj h1 h2 hs.2.1 hs.2.2.1
    have hj : j ≤ ((vbytes (zig n)).take m).length := by
      rcases Nat.lt_or_ge ((vbytes (zig n)).take m).length j with hlt | hge
      · have := idec_bd 9 0 0 _ k j h (by omega) (by decide)
        omega
      · exact hge
    have e := congrArg List.length hs.1
    have hk := intDec_enc k hs.2.1 hs.2.2.1 ((vbytes (zig n)).drop j)
    rw [← hs.1, List.take_take] at hk
    have hjm : j ≤ m := by simp at hj; omega
    rw [Nat.min_eq_left hjm, List.take_append_drop] at hk
    have hn := intDec_enc n h1 h2 []
    rw [List.append_nil] at hn
    rw [hn] at hk
    simp only [Option.some.injEq, Prod.mk.injEq] at hk
    have := hk.2
    simp at this
    omega
/-- No encoding is a prefix of another one. -/
theorem vbytes_prefix_free {n m : Int} (n1 : -4611686018427387903 ≤ n) (n2 : n ≤ 4611686018427387903) (m1 : -4611686018427387903 ≤ m) (m2 : m ≤ 4611686018427387903)
    (h : (vbytes (zig m)).take (vbytes (zig n)).length = vbytes (zig n)) : n = m := by
  have hk := intDec_enc n n1 n2 ((vbytes (zig m)).drop (vbytes (zig n)).length)
  have hm := intDec_enc m m1 m2 []
  rw [List.append_nil] at hm
  have e : vbytes (zig n) ++ (vbytes (zig m)).drop (vbytes (zig n)).length = vbytes (zig m) :=
    (congrArg (fun x => x ++ (vbytes (zig m)).drop (vbytes (zig n)).length) h.symm).trans (List.take_append_drop _ _)
  rw [e, hm] at hk
  simp only [Option.some.injEq, Prod.mk.injEq] at hk
  exact hk.1.symm
end Go.Proofs.YteokkedaipbhlaaDoor
