/- A copy of a slice of numbers, as an append to an empty one leaves it. No condition. -/
import Derived.Test.YtdodhfodojjfeaaLaw36Fair
import Derived.Deep.RegionHeld3
namespace Go.Proofs.Ytdodhfodojjfeaa
open Go Go.RowKit Go.Shelf
theorem IntsAt.news {W : World} {G n : Nat} {a : Nat → Nat} (h : IntsAt W G n a) :
    ∀ (j : Nat) (u : Value), ((List.range n).map fun i => Value.int .i64 ((a i : Nat) : Int))[j]? = some u → W.cell? ((⟨G, 0, none⟩ : Addr).add j) = some u :=
  news_of_cells (fun j hj => by rw [Nat.zero_add]; exact h.cell j hj)
theorem empty_own (W : World) : (W.alloc (.cells #[] 3)).ownsRow W.heap.size 3 1 (.slice (some ⟨W.heap.size, 0, none⟩) 0 0) 0 [] := World.ownsRow_lit W #[] 0 (Nat.le_refl _) (by decide) rfl
theorem after_copy {W w1 : World} {n : Nat} {a : Nat → Nat} {v' : Value} (hn1 : 1 ≤ n) (hown : w1.ownsRow W.heap.size 3 1 v' (0 + n) ([] ++ (List.range n).map fun i => Value.int .i64 ((a i : Nat) : Int)))
    (hgrow : (W.alloc (.cells #[] 3)).grownBy w1 (some W.heap.size)) : (∃ G cp, v' = .slice (some ⟨G, 0, none⟩) n cp ∧ IntsAt w1 G n a ∧ W.heap.size ≤ G) ∧ Below W.heap.size W w1 := by
  rw [List.nil_append, Nat.zero_add] at hown
  exact ⟨IntsAt.of_form hn1 hown, ((Below.refl W.heap.size W).alloc (Nat.le_refl _) _).grown hgrow (by simp) (fun j e => by cases e; exact Nat.le_refl _)⟩
theorem cell_other {W : World} {b b' i j : Nat} {v : Value} (h : b ≠ b') : (W.setCell ⟨b', j, none⟩ v).drew.cell? ⟨b, i, none⟩ = W.cell? ⟨b, i, none⟩ :=
  World.cell?_setCell_far W ⟨b', j, none⟩ ⟨b, i, none⟩ v (Ne.symm h)
theorem min2_run {P : Program} (z y m : Int) (h : m = if y < z then y else z) : ∀ ts t (W : World), (Builtin.min_ ts t #[.int .i64 z, .int .i64 y]).run P W = .ok (.int .i64 m) W := fun ts t W => by
  subst h
  simp only [Builtin.min_, List.foldlM, Builtin.min2, Sem.run_bind, Sem.run_pure, Result.andThen]
end Go.Proofs.Ytdodhfodojjfeaa
