/- The bytes that decode to a number are the bytes that the number encodes to, unless they end in a superfluous zero. No program. -/
import Derived.Test.YteokkedaipbhlaaDoorInt
import Derived.Test.YteokkedaipbhlaaDoorWireSpec
namespace Go.Proofs.YteokkedaipbhlaaDoor
open Go Go.RowKit
theorem zig_unzig (Y : Nat) (hY : Y < 9223372036854775808) : zig (unzig Y) = Y := by
  unfold zig unzig
  by_cases h : Y % 2 = 0
  · rw [if_pos h, if_neg (by omega)]; omega
  · rw [if_neg h, if_pos (by omega)]; omega
theorem vfuel_short (f : Nat) : ∀ (k y : Nat), 1 ≤ k → y < 128 ^ k → (vfuel f y).length ≤ k := by
  induction f with
  | zero => intro k y hk hy; simp [vfuel]
  | succ f ih =>
    intro k y hk hy
    rw [vfuel]
    by_cases h : y < 128
    · rw [if_pos h]; simpa using hk
    · rw [if_neg h]
      obtain ⟨j, rfl⟩ : ∃ j, k = j + 1 := ⟨k - 1, by omega⟩
      cases j with
      | zero => simp at hy; omega
      | succ j =>
        have := ih (j + 1) (y / 128) (by omega) (by rw [Nat.pow_succ] at hy; omega)
        simp; omega
/-- The bytes from a on, k of them, hold y, and each of them says that more come. -/
def RefInv (s : ByteArray) (a k y : Nat) : Prop :=
  IntInv s a k y ∧ ∀ z, 1 ≤ z → y + 128 ^ k * z < 9223372036854775808 → vbytes (y + 128 ^ k * z) = (s.data.toList.drop a).take k ++ vbytes z
theorem RefInv.start (s : ByteArray) (a : Nat) : RefInv s a 0 0 := ⟨IntInv.start s a, fun z _ _ => by simp⟩
theorem take_byte (s : ByteArray) (a k : Nat) (h : a + k < s.size) : (s.data.toList.drop a).take (k + 1) = (s.data.toList.drop a).take k ++ [s[a + k]] := by
  rw [List.take_succ_eq_append_getElem (by simp; omega)]
  congr 1
  simp only [List.getElem_drop]
  rfl
theorem RefInv.step {s : ByteArray} {a k y c : Nat} (h : RefInv s a k y) (hk : k < 9) (hs : a + k < s.size) (hc : s[a + k].toNat = c) (hb : 128 ≤ c) :
    RefInv s a (k + 1) (y + c % 128 * 128 ^ k) := by
  refine ⟨(h.1.step hk hs hc).1 hb, fun z hz hlt => ?_⟩
  have hc2 : c < 256 := by have := s[a + k].toNat_lt; omega
  have e : y + c % 128 * 128 ^ k + 128 ^ (k + 1) * z = y + 128 ^ k * (c % 128 + 128 * z) := by
    rw [Nat.pow_succ, Nat.mul_add, Nat.mul_comm (c % 128), Nat.mul_assoc]; omega
  rw [e] at hlt ⊢
  rw [h.2 (c % 128 + 128 * z) (by omega) hlt]
  have hp : 1 ≤ 128 ^ k := Nat.one_le_pow _ _ (by decide)
  have hlt2 : c % 128 + 128 * z < 9223372036854775808 := by
    have : 1 * (c % 128 + 128 * z) ≤ 128 ^ k * (c % 128 + 128 * z) := Nat.mul_le_mul_right _ hp
    omega
  rw [vbytes_big (by omega) (by omega), take_byte s a k hs]
  have e1 : (c % 128 + 128 * z) % 128 + 128 = c := by omega
  have e2 : (c % 128 + 128 * z) / 128 = z := by omega
  rw [e1, e2]
  have e3 : UInt8.ofNat c = s[a + k] := by rw [← hc]; simp
  rw [e3]; simp
theorem RefInv.fin {s : ByteArray} {a k y c : Nat} (h : RefInv s a k y) (hk : k < 9) (hs : a + k < s.size) (hc : s[a + k].toNat = c) (hb : ¬ 128 ≤ c) :
    (c = 0 ∧ 0 < k → vbytes (y + c % 128 * 128 ^ k) ≠ (s.data.toList.drop a).take (k + 1)) ∧ (¬ (c = 0 ∧ 0 < k) → vbytes (y + c % 128 * 128 ^ k) = (s.data.toList.drop a).take (k + 1)) := by
  have hY := (or_shift y c k hk h.1.1).2.2
  have e3 : UInt8.ofNat c = s[a + k] := by rw [← hc]; simp
  refine ⟨fun hx e => ?_, fun hx => ?_⟩
  · obtain ⟨rfl, hk0⟩ := hx
    have hl := congrArg List.length e
    have := vfuel_short 10 k (y + 0 % 128 * 128 ^ k) hk0 (by simpa using h.1.1)
    simp [vbytes] at hl this
    omega
  · rw [take_byte s a k hs, ← e3]
    by_cases hc0 : c = 0
    · have hk0 : k = 0 := by omega
      subst hk0; subst hc0
      have hy0 : y = 0 := by have := h.1.1; simpa using this
      subst hy0
      rw [vbytes_small (by simp)]; simp
    · have e : y + c % 128 * 128 ^ k = y + 128 ^ k * c := by rw [Nat.mod_eq_of_lt (by omega), Nat.mul_comm]
      rw [e] at hY ⊢
      rw [h.2 c (by omega) hY, vbytes_small (by omega)]
theorem extract_list (s : ByteArray) (a b : Nat) : (s.extract a b).data.toList = (s.data.toList.drop a).take (b - a) := by
  rw [ByteArray.data_extract, Array.toList_extract]
theorem bytes_eq {l : List UInt8} {s : ByteArray} (h : l = s.data.toList) : (⟨l.toArray⟩ : ByteArray) = s := by
  subst h; rfl
end Go.Proofs.YteokkedaipbhlaaDoor
