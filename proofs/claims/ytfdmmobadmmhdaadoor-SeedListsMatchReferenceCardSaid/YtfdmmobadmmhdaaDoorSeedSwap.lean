/- Package seed: deck.swap. Conditions: indices in range, the deck in a block of its own. -/
import Derived.Test.YtfdmmobadmmhdaaDoorSeedDraw
namespace Go.Proofs.YtfdmmobadmmhdaaDoor
open Go Go.RowKit
def swapF (f : Nat → Nat) (i j : Nat) : Nat → Nat := fun k => if k = j then f i else if k = i then f j else f k
set_option maxRecDepth 100000 in
set_option maxHeartbeats 1000000 in
theorem swap_any (g n cap i j : Nat) (f : Nat → Nat) (w : World) (hi : i < n) (hj : j < n) (h : UBox .i64 w g n f) :
    Calls Tryd.prog 36 #[.slice (some ⟨g, 0, none⟩) n cap, .int .i64 (i : Nat), .int .i64 (j : Nat)] w fun e w' => (∃ v, e = .returned v) ∧ UBox .i64 w' g n (swapF f i j) ∧ Below g w w' ∧ ∀ b, b < w.heap.size → b ≠ g → w'.heap[b]? = w.heap[b]? := by
  have x1 := h.cell i hi
  have x2 := h.cell j hj
  have f1 := h.free i
  have f2 := h.free j
  have v1 : (0 : Int) ≤ (i : Int) := by omega
  have v2 : (i : Int) < (n : Int) := by omega
  have v3 : (0 : Int) ≤ (j : Int) := by omega
  have v4 : (j : Int) < (n : Int) := by omega
  have HB := Lib.hid h
  have HI := Lib.hid hi
  have HJ := Lib.hid hj
  clear h hi hj
  obtain ⟨a, ha⟩ : ∃ a, f i = a := ⟨_, rfl⟩
  obtain ⟨b, hb⟩ : ∃ b, f j = b := ⟨_, rfl⟩
  rw [ha] at x1
  rw [hb] at x2
  obtain ⟨v', x3⟩ := cell?_setCell_some (w := w) (p := ⟨g, i, none⟩) (x := .int .i64 (b : Nat)) (q := ⟨g, j, none⟩) (v := .int .i64 (b : Nat)) x2
  have HA := Lib.hid ha
  have HBB := Lib.hid hb
  clear ha hb
  go_enter Tryd.func36, Tryd.ntmps36
  go_region
  all_goals (try go_wp2)
  refine bodyPost_end (v := .tuple #[]) (by simp [results, Tryd.results36, go_sem]) rfl ?_
  refine ⟨⟨_, rfl⟩, ?_, ((Below_set' (Below_set' (Below.refl g w) (Nat.le_refl g) _) (Nat.le_refl g) _).drew), fun c hc hne => (Below.heap_setCell _ _ _ c hne).trans (Below.heap_setCell _ _ _ c hne)⟩
  have h2 := ((HB.out.set i HI.out b).set j HJ.out a).drew
  refine h2.congr fun k _ => ?_
  unfold swapF
  rw [HA.out, HBB.out]
end Go.Proofs.YtfdmmobadmmhdaaDoor
