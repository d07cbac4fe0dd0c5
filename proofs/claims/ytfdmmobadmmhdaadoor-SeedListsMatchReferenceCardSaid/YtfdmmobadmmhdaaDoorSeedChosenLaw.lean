/- Which index a number chooses, and how many numbers choose each: plain. No program. -/
import Derived.Test.YtfdmmobadmmhdaaDoorSeedChoose
namespace Go.Proofs.YtfdmmobadmmhdaaDoor
open Go Go.RowKit
theorem sumI_le {f : Nat → Int} {n : Nat} (h : wOk f n) : ∀ {i j : Nat}, i ≤ j → j ≤ n → sumI f i ≤ sumI f j
  | i, 0, hij, _ => by rw [show i = 0 by omega]; exact Int.le_refl _
  | i, j + 1, hij, hj => by
    by_cases e : i = j + 1
    · rw [e]; exact Int.le_refl _
    · have h1 := sumI_le h (i := i) (j := j) (by omega) (by omega)
      have h2 := h j (by omega)
      show sumI f i ≤ sumI f j + f j
      omega
theorem chosen_is {f : Nat → Int} {n : Nat} {d : Int} (h : wOk f n) (hd : 0 ≤ d) : ∀ k, k ≤ n →
    (d < sumI f k → ∃ c : Nat, c < k ∧ chosenAt f d k = (c : Nat) ∧ sumI f c ≤ d ∧ d < sumI f (c + 1)) ∧ (sumI f k ≤ d → chosenAt f d k = -1)
  | 0, _ => ⟨fun h => by simp [sumI] at h; omega, fun _ => rfl⟩
  | k + 1, hk => by
    have ih := chosen_is h hd k (by omega)
    have h2 := h k (by omega)
    have hs : sumI f (k + 1) = sumI f k + f k := rfl
    have hc : chosenAt f d (k + 1) = if chosenAt f d k < 0 ∧ d < sumI f (k + 1) then ((k : Nat) : Int) else chosenAt f d k := rfl
    by_cases e : d < sumI f k
    · obtain ⟨c, h3, h4, h5, h6⟩ := ih.1 e
      refine ⟨fun _ => ⟨c, by omega, ?_, h5, h6⟩, fun h => by omega⟩
      rw [hc, if_neg (by omega), h4]
    · have h4 := ih.2 (by omega)
      refine ⟨fun h => ⟨k, by omega, ?_, by omega, h⟩, fun h => ?_⟩
      · rw [hc, if_pos ⟨by omega, h⟩]
      · rw [hc, if_neg (by omega), h4]
/-- How many of the numbers below d choose i. -/
def manyF (f : Nat → Int) (d : Int) (i : Nat) : Nat := (min d (sumI f (i + 1)) - min d (sumI f i)).toNat
theorem many_zero {f : Nat → Int} {n : Nat} (h : wOk f n) {i : Nat} (hi : i < n) : manyF f 0 i = 0 := by
  have h1 := (sumI_bound i (fun j hj => h j (by omega))).1
  have h2 := (sumI_bound (i + 1) (fun j hj => h j (by omega))).1
  unfold manyF
  omega
theorem many_step {f : Nat → Int} {n : Nat} {d : Int} {c : Nat} (h : wOk f n) (hc : c < n) (h1 : sumI f c ≤ d) (h2 : d < sumI f (c + 1)) {i : Nat} (hi : i < n) :
    manyF f (d + 1) i = if i = c then manyF f d c + 1 else manyF f d i := by
  unfold manyF
  by_cases e : i = c
  · subst e
    rw [if_pos rfl]
    omega
  · rw [if_neg e]
    by_cases e2 : i < c
    · have h3 := sumI_le h (i := i + 1) (j := c) (by omega) (by omega)
      have h4 := sumI_le h (i := i) (j := i + 1) (by omega) (by omega)
      omega
    · have h3 := sumI_le h (i := c + 1) (j := i) (by omega) (by omega)
      have h4 := sumI_le h (i := i) (j := i + 1) (by omega) (by omega)
      omega
theorem many_end {f : Nat → Int} {n : Nat} (h : wOk f n) {i : Nat} (hi : i < n) : ((manyF f (sumI f n) i : Nat) : Int) = f i := by
  have h3 := sumI_le h (i := i + 1) (j := n) (by omega) (by omega)
  have h4 := sumI_le h (i := i) (j := i + 1) (by omega) (by omega)
  have h5 : sumI f (i + 1) = sumI f i + f i := rfl
  have h2 := h i hi
  unfold manyF
  omega
theorem many_le {f : Nat → Int} {n : Nat} (h : wOk f n) (d : Int) {i : Nat} (hi : i < n) : ((manyF f d i : Nat) : Int) ≤ f i := by
  have h5 : sumI f (i + 1) = sumI f i + f i := rfl
  have h2 := h i hi
  unfold manyF
  omega
/-- A number below the sum. -/
theorem cho_in {f : Nat → Int} {n : Nat} {d : Int} (hn : n ≤ 200) (h : wOk f n) (hd : 0 ≤ d) (hs : d < sumI f n) :
    ∃ c : Nat, c < n ∧ choV f n d = (c : Nat) ∧ choE f n d = 0 ∧ sumI f c ≤ d ∧ d < sumI f (c + 1) := by
  obtain ⟨c, h3, h4, h5, h6⟩ := (chosen_is h hd n (Nat.le_refl _)).1 hs
  have hok : ChoOk f n d := ⟨hn, hd, h, by omega⟩
  exact ⟨c, h3, by rw [choV, if_pos hok, h4], by rw [choE, if_pos hok], h5, h6⟩
theorem cho_out {f : Nat → Int} {n : Nat} {d : Int} (h : wOk f n) (hd : 0 ≤ d) (hs : sumI f n ≤ d) : choV f n d = 0 ∧ choE f n d = 60 := by
  have h4 := (chosen_is h hd n (Nat.le_refl _)).2 hs
  have hok : ¬ ChoOk f n d := fun hk => by have := hk.2.2.2; omega
  exact ⟨by rw [choV, if_neg hok], by rw [choE, if_neg hok]⟩
theorem cho_next {f : Nat → Int} {n : Nat} {d : Int} {v c : Nat} (h : wOk f n) (hv : v ≤ n) (h1 : sumI f v ≤ d) (_hc : c < n) (h2 : d < sumI f (c + 1)) : v ≤ c := by
  rcases Nat.lt_or_ge c v with e | e
  · have h3 := sumI_le h (i := c + 1) (j := v) (by omega) hv
    omega
  · exact e
end Go.Proofs.YtfdmmobadmmhdaaDoor
