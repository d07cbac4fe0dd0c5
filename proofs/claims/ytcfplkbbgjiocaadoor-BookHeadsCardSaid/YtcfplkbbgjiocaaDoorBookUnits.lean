/- Package book: isIn, isFormed, isBack; what they say. Conditions: numbers of 64 bits. -/
import Derived.Test.YtcfplkbbgjiocaaDoorProg
import Derived.WalkKit
import Derived.Test.YtcfplkbbgjiocaaDoorFrame
import Derived.Shelf.RegionOpen
import Derived.TacticsInMore
import Derived.OwnWalkIn
import Derived.Shelf.Abstract
import Derived.IntWalk
import Derived.WalkSpells
import Derived.Lib.Hide
import Derived.LoopNIn
namespace Go.Proofs.YtcfplkbbgjiocaaDoor
open Go Go.RowKit Go.Shelf
/-- A posting. -/
structure Pst where
  kind : Int
  day : Int
  deb : Int
  cre : Int
  amt : Int
  sub : Int
  of : Int
def Pst.cells (p : Pst) : Array Value := #[.int .i64 p.kind, .int .i64 p.day, .int .i64 p.deb, .int .i64 p.cre, .int .i64 p.amt, .int .i64 p.sub, .int .i64 p.of]
def within (x lo hi : Int) : Prop := lo ≤ x ∧ x ≤ hi
instance (x lo hi : Int) : Decidable (within x lo hi) := by unfold within; infer_instance
def Formed (p : Pst) (top : Int) : Prop := within p.day 0 359 ∧ within p.deb 0 top ∧ within p.cre 0 top ∧ p.deb ≠ p.cre ∧ within p.amt 1 1000000000 ∧ within p.sub 0 999 ∧ ((p.kind = 1 ∧ p.of = -1) ∨ (p.kind = 2 ∧ within p.of 0 199))
instance (p : Pst) (top : Int) : Decidable (Formed p top) := by unfold Formed; infer_instance
def Back (p q : Pst) : Prop := q.kind = 1 ∧ p.deb = q.cre ∧ p.cre = q.deb ∧ p.amt = q.amt ∧ p.sub = q.sub
instance (p q : Pst) : Decidable (Back p q) := by unfold Back; infer_instance
theorem isIn_any (x lo hi : Int) (w : World) :
    Calls Tryd.prog 41 #[.int .i64 x, .int .i64 lo, .int .i64 hi] w fun e w' => e = .returned (.bool (decide (within x lo hi))) ∧ w = w' := by
  unfold within
  by_cases h : lo ≤ x
  · go_enter Tryd.func41, Tryd.ntmps41
    go_wp2
    go_ret
    exact ⟨by simp [h], rfl⟩
  · go_enter Tryd.func41, Tryd.ntmps41
    go_wp2
    go_ret
    exact ⟨by rw [show decide (lo ≤ x ∧ x ≤ hi) = false from decide_eq_false (by omega)]; rfl, rfl⟩
theorem in_any (x lo hi : Int) (w : World) :
    Calls Tryd.prog 50 #[.int .i64 x, .int .i64 lo, .int .i64 hi] w fun e w' => e = .returned (.bool (decide (within x lo hi))) ∧ w = w' := by
  unfold within
  by_cases h : lo ≤ x
  · go_enter Tryd.func50, Tryd.ntmps50
    go_wp2
    go_ret
    exact ⟨by simp [h], rfl⟩
  · go_enter Tryd.func50, Tryd.ntmps50
    go_wp2
    go_ret
    exact ⟨by rw [show decide (lo ≤ x ∧ x ≤ hi) = false from decide_eq_false (by omega)]; rfl, rfl⟩
set_option maxHeartbeats 2000000 in
theorem isBack_any (p q : Pst) (w : World) : Calls Tryd.prog 64 #[.agg p.cells, .agg q.cells] w fun e w' => e = .returned (.bool (decide (Back p q))) ∧ Below w.heap.size w w' := by
  obtain ⟨k, d, a, b, c, s, o⟩ := p
  obtain ⟨k', d', a', b', c', s', o'⟩ := q
  unfold Pst.cells Back
  by_cases h1 : k' = 1
  · by_cases h2 : a = b'
    · by_cases h3 : b = a'
      · by_cases h4 : c = c'
        all_goals
          go_enter Tryd.func64, Tryd.ntmps64
          go_wp2
          go_ret
          exact ⟨by simp [h1, h2, h3, h4] <;> rfl, ((Below.refl w.heap.size w).alloc (Nat.le_refl _) _).alloc (by simp) _⟩
      · go_enter Tryd.func64, Tryd.ntmps64
        go_wp2
        go_ret
        exact ⟨by simp [h1, h2, h3] <;> rfl, ((Below.refl w.heap.size w).alloc (Nat.le_refl _) _).alloc (by simp) _⟩
    · go_enter Tryd.func64, Tryd.ntmps64
      go_wp2
      go_ret
      exact ⟨by simp [h1, h2] <;> rfl, ((Below.refl w.heap.size w).alloc (Nat.le_refl _) _).alloc (by simp) _⟩
  · go_enter Tryd.func64, Tryd.ntmps64
    go_wp2
    go_ret
    exact ⟨by simp [h1] <;> rfl, ((Below.refl w.heap.size w).alloc (Nat.le_refl _) _).alloc (by simp) _⟩
set_option maxHeartbeats 4000000 in
theorem isFormed_any (p : Pst) (teams : Int) (w : World) : Calls Tryd.prog 63 #[.agg p.cells, .int .i64 teams] w fun e w' => e = .returned (.bool (decide (Formed p (IntKind.i64.wrap (teams - 1))))) ∧ Below w.heap.size w w' := by
  obtain ⟨k, d, a, b, c, s, o⟩ := p
  unfold Pst.cells Formed
  obtain ⟨top, htop⟩ : ∃ top, IntKind.i64.wrap (teams - 1) = top := ⟨_, rfl⟩
  rw [htop]
  have hB := Lib.hid (((Below.refl w.heap.size w).alloc (Nat.le_refl _) (.cells #[.int .i64 k, .int .i64 d, .int .i64 a, .int .i64 b, .int .i64 c, .int .i64 s, .int .i64 o] 27)))
  go_enter Tryd.func63, Tryd.ntmps63
  go_wp2_with (go_at_call 41; refine (isIn_any _ _ _ _).mono ?_; rintro e w1 ⟨rfl, rfl⟩)
  all_goals (go_ret; refine ⟨?_, (Below.refl w.heap.size w).alloc (Nat.le_refl _) _⟩; clear hB htop)
  all_goals (first | (simp_all; done) | (simp_all; rfl))
set_option maxHeartbeats 4000000 in
theorem formed_any (p : Pst) (teams : Int) (w : World) : Calls Tryd.prog 57 #[.agg p.cells, .int .i64 teams] w fun e w' => e = .returned (.bool (decide (Formed p (IntKind.i64.wrap (teams - 1))))) ∧ Below w.heap.size w w' := by
  obtain ⟨k, d, a, b, c, s, o⟩ := p
  unfold Pst.cells Formed
  obtain ⟨top, htop⟩ : ∃ top, IntKind.i64.wrap (teams - 1) = top := ⟨_, rfl⟩
  rw [htop]
  have hB := Lib.hid (((Below.refl w.heap.size w).alloc (Nat.le_refl _) (.cells #[.int .i64 k, .int .i64 d, .int .i64 a, .int .i64 b, .int .i64 c, .int .i64 s, .int .i64 o] 27)))
  go_enter Tryd.func57, Tryd.ntmps57
  go_wp2_with (go_at_call 50; refine (in_any _ _ _ _).mono ?_; rintro e w1 ⟨rfl, rfl⟩)
  all_goals (go_ret; refine ⟨?_, (Below.refl w.heap.size w).alloc (Nat.le_refl _) _⟩; clear hB htop)
  all_goals (first | (simp_all; done) | (simp_all; rfl))
end Go.Proofs.YtcfplkbbgjiocaaDoor
