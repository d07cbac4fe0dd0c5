/- Encodings of lists of numbers differ where the lists do. No program. -/
import Derived.Test.YtcfplkbbgjiocaaDoorWireSpec
import Derived.Test.YtcfplkbbgjiocaaDoorBits
namespace Go.Proofs.YtcfplkbbgjiocaaDoor
open Go Go.RowKit
theorem vb_peel : ∀ (y z : Nat) (r s : List UInt8), y < 18446744073709551616 → z < 18446744073709551616 → vbytes y ++ r = vbytes z ++ s → y = z ∧ r = s := by
  intro y
  induction y using Nat.strongRecOn with
  | ind y ih =>
    intro z r s hy hz h
    have hb : ∀ a b : Nat, a < 256 → b < 256 → UInt8.ofNat a = UInt8.ofNat b → a = b := fun a b ha hb e => by
      have := congrArg UInt8.toNat e
      simp at this
      omega
    by_cases h1 : y < 128
    · by_cases h2 : z < 128
      · rw [vbytes_small h1, vbytes_small h2] at h
        simp only [List.cons_append, List.nil_append, List.cons.injEq] at h
        exact ⟨hb _ _ (by omega) (by omega) h.1, h.2⟩
      · rw [vbytes_small h1, vbytes_big h2 hz] at h
        simp only [List.cons_append, List.nil_append, List.cons.injEq] at h
        have := hb _ _ (by omega) (by omega) h.1
        omega
    · by_cases h2 : z < 128
      · rw [vbytes_big h1 hy, vbytes_small h2] at h
        simp only [List.cons_append, List.nil_append, List.cons.injEq] at h
        have := hb _ _ (by omega) (by omega) h.1
        omega
      · rw [vbytes_big h1 hy, vbytes_big h2 hz] at h
        simp only [List.cons_append, List.cons.injEq] at h
        have e1 := hb _ _ (by omega) (by omega) h.1
        obtain ⟨e2, e3⟩ := ih (y / 128) (by omega) (z / 128) r s (by omega) (by omega) h.2
        exact ⟨by omega, e3⟩
theorem zig_one {n m : Int} (h : zig n = zig m) : n = m := by
  unfold zig at h
  split at h <;> split at h <;> omega
/-- A number that can be encoded. -/
def InI (n : Int) : Prop := -4611686018427387903 ≤ n ∧ n ≤ 4611686018427387903
instance (n : Int) : Decidable (InI n) := by unfold InI; infer_instance
def encL (l : List Int) : List UInt8 := l.flatMap (fun n => vbytes (zig n))
theorem encL_cons (n : Int) (l : List Int) : encL (n :: l) = vbytes (zig n) ++ encL l := by simp [encL]
theorem encL_snoc (l : List Int) (n : Int) : encL (l ++ [n]) = encL l ++ vbytes (zig n) := by simp [encL]
theorem encL_inj : ∀ (l m : List Int), l.length = m.length → (∀ n ∈ l, InI n) → (∀ n ∈ m, InI n) → encL l = encL m → l = m
  | [], [], _, _, _, _ => rfl
  | [], _ :: _, h, _, _, _ => by simp at h
  | _ :: _, [], h, _, _, _ => by simp at h
  | a :: l, b :: m, h, hl, hm, e => by
    rw [encL_cons, encL_cons] at e
    have ha := hl a (by simp)
    have hb := hm b (by simp)
    unfold InI at ha hb
    obtain ⟨e1, e2⟩ := vb_peel _ _ _ _ (Nat.lt_trans (zig_lt (n := a) (by omega) (by omega)) (by decide)) (Nat.lt_trans (zig_lt (n := b) (by omega) (by omega)) (by decide)) e
    rw [zig_one e1, encL_inj l m (by simpa using h) (fun n hn => hl n (by simp [hn])) (fun n hn => hm n (by simp [hn])) e2]
theorem encL_size (l : List Int) : (encL l).length ≤ 10 * l.length := by
  induction l with
  | nil => simp [encL]
  | cons a l ih =>
    have := vbytes_le (zig a)
    rw [encL_cons, List.length_append, List.length_cons]
    omega
end Go.Proofs.YtcfplkbbgjiocaaDoor
