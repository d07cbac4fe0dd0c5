/- Package book: takes. Conditions: a ledger of the call's own. -/
import Derived.Test.YtcfplkbbgjiocaaDoorBookMem
import Derived.Deep.AppendLies
import Derived.Deep.RegionLaw
import Derived.Deep.RegionHeld3
import Derived.Deep.DeepCutAuto
import Derived.BigQuiet
import Derived.Deep.DeepMust
namespace Go.Proofs.YtcfplkbbgjiocaaDoor
open Go Go.RowKit Go.Shelf
def TakesOk (g : Nat → Pst) (n : Nat) (bk : Nat → Bool) (top : Int) (p : Pst) : Prop :=
  n < 200 ∧ Formed p top ∧ (0 < n → (g (n - 1)).day ≤ p.day) ∧ (p.kind = 2 → p.of < n ∧ bk p.of.toNat = false ∧ Back p (g p.of.toNat))
def bkNext (bk : Nat → Bool) (p : Pst) : Nat → Bool := fun i => if p.kind = 2 ∧ i = p.of.toNat then true else bk i
/-- What takes does. -/
def IsTakes (w : World) (B base : Nat) (teams closed : Int) (v : Value) (n : Nat) (g : Nat → Pst) (bk : Nat → Bool) (p : Pst) (e : Ending) (w' : World) : Prop :=
  ∃ r : Bool, e = .returned (.bool r) ∧ (r = true ↔ TakesOk g n bk (IntKind.i64.wrap (teams - 1)) p) ∧ Below B w w' ∧
    (r = true → ∃ v', LBox w' B teams v' closed (bkNext bk p) ∧ w'.ownsRow base 27 7 v' (n + 1) (flatP g n ++ p.cells.toList)) ∧
    (∀ b, b < w.heap.size → b ≠ B → some b ≠ v.ownBlock → w'.heap[b]? = w.heap[b]?) ∧ w'.cell? ⟨B, 2, none⟩ = some (.int .i64 closed)
theorem IsTakes.no {w w' : World} {B base : Nat} {teams closed : Int} {v : Value} {n : Nat} {g : Nat → Pst} {bk : Nat → Bool} {p : Pst} (hx : LBox w B teams v closed bk) (h : ¬ TakesOk g n bk (IntKind.i64.wrap (teams - 1)) p) (hb : Below w.heap.size w w') : IsTakes w B base teams closed v n g bk p (.returned (.bool false)) w' :=
  ⟨false, rfl, by simp [h], hb.mono (Nat.le_of_lt hx.lt), by simp, fun b hlt _ _ => hb.block b hlt, (hb.cell (p := ⟨B, 2, none⟩) hx.lt).trans hx.cells.2.2.1⟩
theorem day_no {g : Nat → Pst} {n m : Nat} {bk : Nat → Bool} {top : Int} {p : Pst} (hn : n = m + 1) (hd : decide (p.day < (g m).day) = true) (h : TakesOk g n bk top p) : False := by
  have h1 := h.2.2.1 (by omega)
  have h2 := of_decide_eq_true hd
  rw [show n - 1 = m by omega] at h1
  omega
theorem pown_ne {W : World} {base : Nat} {e : TypeId} {size : Nat} {v : Value} {n : Nat} {xs : List Value} (h : W.ownsRow base e size v n xs) {b : Nat} (hb : b < base) : some b ≠ v.ownBlock := fun e => by have := (h.lt b e.symm).1; omega
theorem Below_drewN' {B : Nat} {w W : World} (h : Below B w W) (k : Nat) : Below B w (W.drewN k) := ⟨h.os, h.tape, h.output, h.size, h.block⟩
set_option maxRecDepth 100000 in
set_option maxHeartbeats 4000000 in
theorem takes_any (B base : Nat) (teams closed : Int) (v : Value) (n : Nat) (g : Nat → Pst) (bk : Nat → Bool) (p : Pst) (w : World) (hx : LBox w B teams v closed bk) (hrow : w.ownsRow base 27 7 v n (flatP g n)) (hBb : B < base) (hbs : base ≤ w.heap.size) (hn : n ≤ 200) :
    Calls Tryd.prog 51 #[.pointer (some ⟨B, 0, none⟩), .agg p.cells] w (IsTakes w B base teams closed v n g bk p) := by
  obtain ⟨vp, vc, rfl, hrd, _⟩ := own_readsP hrow
  obtain ⟨i0, hi0, hj0, hj1, hj2⟩ := infoP
  have hBl := hx.lt
  have HX0 := Lib.hid hx
  have hb1 : Below w.heap.size w (w.alloc (.cells p.cells 27)) := (Below.refl w.heap.size w).alloc (Nat.le_refl _) _
  have hx1 := hx.alloc (.cells p.cells 27)
  have hrow1 := hrow.alloc (.cells p.cells 27)
  have hrd1 := hrd.below ((Below.refl w.heap.size w).alloc (Nat.le_refl _) (.cells p.cells 27))
  have hp1 := PCells.new w p 27
  have hPl : w.heap.size < (w.alloc (.cells p.cells 27)).heap.size := by simp
  obtain ⟨P, hP⟩ : ∃ P, w.heap.size = P := ⟨_, rfl⟩
  obtain ⟨w1, hw1⟩ : ∃ w1, w.alloc (.cells p.cells 27) = w1 := ⟨_, rfl⟩
  have HW1 := Lib.hid hw1
  have HP := Lib.hid hP
  rw [hw1] at hb1 hx1 hrow1 hrd1 hp1 hPl
  rw [hP] at hp1 hPl hBl
  obtain ⟨y0, y1, y2, y3⟩ := hx1.cells
  have HX := Lib.hid hx1
  have hbw1 : base ≤ w1.heap.size := by rw [← hw1, World.size_alloc]; omega
  have HROW := Lib.hid hrow1
  have HRD := Lib.hid hrd1
  have HPC := Lib.hid hp1
  have HB := Lib.hid hb1
  have HY3 := Lib.hid y3
  clear hx hrow hrd hb1 hx1 hrow1 hrd1 hp1 hw1 hP y3
  go_enter Tryd.func51, Tryd.ntmps51
  go_upto_region 1 with fail
  rw [HW1.out, HP.out]
  clear HW1 HP
  by_cases h200 : n < 200
  · have d1 : decide (200 ≤ (n : Int)) = false := decide_eq_false (by omega)
    have d2 : decide (200 ≤ n) = false := decide_eq_false (by omega)
    obtain ⟨q0, q1, q2, q3, q4, q5, q6⟩ := HPC.out
    obtain ⟨top, htop⟩ : ∃ t, IntKind.i64.wrap (teams - 1) = t := ⟨_, rfl⟩
    have hF : ∃ r : Bool, r = true ↔ Formed p top := by
      by_cases h : Formed p top
      · exact ⟨true, by simp [h]⟩
      · exact ⟨false, by simp [h]⟩
    obtain ⟨r, hr⟩ := hF
    have HFC := Lib.hid (fun W (hb : Below w1.heap.size w1 W) => (isFormed_any p teams W).mono fun e w' (h : e = Ending.returned (.bool (decide (Formed p (IntKind.i64.wrap (teams - 1))))) ∧ Below W.heap.size W w') => (⟨by
      rw [h.1, htop]
      congr 2
      rw [Bool.eq_iff_iff, decide_eq_true_iff]
      exact hr.symm, hb.trans (h.2.mono hb.size)⟩ : e = Ending.returned (.bool r) ∧ Below w1.heap.size w1 w'))
    have HTOP := Lib.hid htop
    have hBw : B < w1.heap.size := by omega
    cases r with
    | false =>
      have HKS := Lib.hid (fun W (hb : Below w1.heap.size w1 W) => (⟨hb, (hb.cell hBw).trans y0, (hb.cell (p := ⟨P, 0, none⟩) hPl).trans q0, (hb.cell (p := ⟨P, 1, none⟩) hPl).trans q1, (hb.cell (p := ⟨P, 2, none⟩) hPl).trans q2, (hb.cell (p := ⟨P, 3, none⟩) hPl).trans q3, (hb.cell (p := ⟨P, 4, none⟩) hPl).trans q4, (hb.cell (p := ⟨P, 5, none⟩) hPl).trans q5, (hb.cell (p := ⟨P, 6, none⟩) hPl).trans q6⟩ : Below w1.heap.size w1 W ∧ W.cell? ⟨B, 0, none⟩ = some (.int .i64 teams) ∧ W.cell? ⟨P, 0, none⟩ = some (.int .i64 p.kind) ∧ W.cell? ⟨P, 1, none⟩ = some (.int .i64 p.day) ∧ W.cell? ⟨P, 2, none⟩ = some (.int .i64 p.deb) ∧ W.cell? ⟨P, 3, none⟩ = some (.int .i64 p.cre) ∧ W.cell? ⟨P, 4, none⟩ = some (.int .i64 p.amt) ∧ W.cell? ⟨P, 5, none⟩ = some (.int .i64 p.sub) ∧ W.cell? ⟨P, 6, none⟩ = some (.int .i64 p.of)))
      have hno : ¬ TakesOk g n bk top p := fun h => by have := hr.2 h.2.1; simp at this
      have HNO := Lib.hid hno
      clear hr hno htop
      go_wp2_with fail
      refine wp_region_held_drew (S := (fun W => Below w1.heap.size w1 W ∧ W.cell? ⟨B, 0, none⟩ = some (.int .i64 teams) ∧ W.cell? ⟨P, 0, none⟩ = some (.int .i64 p.kind) ∧ W.cell? ⟨P, 1, none⟩ = some (.int .i64 p.day) ∧ W.cell? ⟨P, 2, none⟩ = some (.int .i64 p.deb) ∧ W.cell? ⟨P, 3, none⟩ = some (.int .i64 p.cre) ∧ W.cell? ⟨P, 4, none⟩ = some (.int .i64 p.amt) ∧ W.cell? ⟨P, 5, none⟩ = some (.int .i64 p.sub) ∧ W.cell? ⟨P, 6, none⟩ = some (.int .i64 p.of))) (by kernel_rfl) ?_ (fun hHeld => ?_)
      · exact HKS.out _ (Below.refl _ _).drew
      refine wpAnyH_take (i := 0) (v := ?_) rfl (by kernel_rfl) (by kernel_rfl) (by kernel_rfl) (fun _ _ _ h => h) (Or.inl ⟨by rfl, ?_⟩) (by assumption) ?_
      rotate_left
      · intro w hSw
        try dsimp only at hSw
        go_simp
        all_goals with_reducible rfl
      try simp only [Act.put, List.getElem_toArray, List.getElem_cons_zero, List.setIfInBounds_toArray, List.set_cons_zero, List.set_cons_succ]
      refine wpAnyH_take (i := 1) (v := ?_) rfl (by kernel_rfl) (by kernel_rfl) (by kernel_rfl) (fun _ _ _ h => h) (Or.inl ⟨by rfl, ?_⟩) (by assumption) ?_
      rotate_left
      · intro w hSw
        try dsimp only at hSw
        go_simp
        all_goals with_reducible rfl
      try simp only [Act.put, List.getElem_toArray, List.getElem_cons_succ, List.getElem_cons_zero, List.setIfInBounds_toArray, List.set_cons_zero, List.set_cons_succ]
      refine wpAnyH_take (i := 2) (v := ?_) rfl (by kernel_rfl) (by kernel_rfl) (by kernel_rfl) (fun _ _ _ h => h) (Or.inl ⟨by rfl, ?_⟩) (by assumption) ?_
      rotate_left
      · intro w hSw
        try dsimp only at hSw
        go_simp
        all_goals with_reducible rfl
      try simp only [Act.put, List.getElem_toArray, List.getElem_cons_succ, List.getElem_cons_zero, List.setIfInBounds_toArray, List.set_cons_zero, List.set_cons_succ]
      refine wpAnyH_take (i := 3) (v := ?_) rfl (by kernel_rfl) (by kernel_rfl) (by kernel_rfl) (fun _ _ _ h => h) (Or.inl ⟨by rfl, ?_⟩) (by assumption) ?_
      rotate_left
      · intro w hSw
        try dsimp only at hSw
        go_simp
        all_goals with_reducible rfl
      try simp only [Act.put, List.getElem_toArray, List.getElem_cons_succ, List.getElem_cons_zero, List.setIfInBounds_toArray, List.set_cons_zero, List.set_cons_succ]
      refine wpAnyH_take (i := 4) (v := ?_) rfl (by kernel_rfl) (by kernel_rfl) (by kernel_rfl) (fun _ _ _ h => h) (Or.inl ⟨by rfl, ?_⟩) (by assumption) ?_
      rotate_left
      · intro w hSw
        try dsimp only at hSw
        go_simp
        all_goals with_reducible rfl
      try simp only [Act.put, List.getElem_toArray, List.getElem_cons_succ, List.getElem_cons_zero, List.setIfInBounds_toArray, List.set_cons_zero, List.set_cons_succ]
      refine wpAnyH_take (i := 5) (v := ?_) rfl (by kernel_rfl) (by kernel_rfl) (by kernel_rfl) (fun _ _ _ h => h) (Or.inl ⟨by rfl, ?_⟩) (by assumption) ?_
      rotate_left
      · intro w hSw
        try dsimp only at hSw
        go_simp
        all_goals with_reducible rfl
      try simp only [Act.put, List.getElem_toArray, List.getElem_cons_succ, List.getElem_cons_zero, List.setIfInBounds_toArray, List.set_cons_zero, List.set_cons_succ]
      refine wpAnyH_take (i := 6) (v := ?_) rfl (by kernel_rfl) (by kernel_rfl) (by kernel_rfl) (fun _ _ _ h => h) (Or.inl ⟨by rfl, ?_⟩) (by assumption) ?_
      rotate_left
      · intro w hSw
        try dsimp only at hSw
        go_simp
        all_goals with_reducible rfl
      try simp only [Act.put, List.getElem_toArray, List.getElem_cons_succ, List.getElem_cons_zero, List.setIfInBounds_toArray, List.set_cons_zero, List.set_cons_succ]
      refine wpAnyH_take (i := 7) (v := ?_) rfl (by kernel_rfl) (by kernel_rfl) (by kernel_rfl) (fun _ _ _ h => h) (Or.inl ⟨by rfl, ?_⟩) (by assumption) ?_
      rotate_left
      · intro w hSw
        try dsimp only at hSw
        go_simp
        all_goals with_reducible rfl
      try simp only [Act.put, List.getElem_toArray, List.getElem_cons_succ, List.getElem_cons_zero, List.setIfInBounds_toArray, List.set_cons_zero, List.set_cons_succ]
      refine wpAnyH_take (i := 8) (v := ?_) rfl (by kernel_rfl) (by kernel_rfl) (by kernel_rfl) (fun _ _ _ h => h) (Or.inl ⟨by rfl, ?_⟩) (by assumption) ?_
      rotate_left
      · intro w hSw
        try dsimp only at hSw
        go_simp
        all_goals with_reducible rfl
      try simp only [Act.put, List.getElem_toArray, List.getElem_cons_succ, List.getElem_cons_zero, List.setIfInBounds_toArray, List.set_cons_zero, List.set_cons_succ]
      refine wpAnyH_ready (rs := [9]) (by kernel_rfl) (by simp) ?_
      refine AllReadyH.cons rfl (fun K hK => ?_) AllReadyH.nil
      go_simp
      go_at_call 63; refine (HFC.out _ hHeld.1).mono ?_; rintro e w' ⟨rfl, hb'⟩
      refine hK.out _ _ ?_ (fun hHeld2 => ?_)
      · exact HKS.out _ hb'
      clear hK K hHeld
      rename_i hHeld
      try simp only [Act.put, List.getElem_toArray, List.getElem_cons_succ, List.getElem_cons_zero, List.setIfInBounds_toArray, List.set_cons_zero, List.set_cons_succ]
      refine wpAnyH_take (i := 10) (v := ?_) rfl (by kernel_rfl) (by kernel_rfl) (by kernel_rfl) (fun _ _ _ h => h) (Or.inl ⟨by rfl, ?_⟩) (by assumption) ?_
      rotate_left
      · intro w hSw
        try dsimp only at hSw
        go_simp
        all_goals with_reducible rfl
      try simp only [Act.put, List.getElem_toArray, List.getElem_cons_succ, List.getElem_cons_zero, List.setIfInBounds_toArray, List.set_cons_zero, List.set_cons_succ]
      refine wpAnyH_take (i := 11) (v := ?_) rfl (by kernel_rfl) (by kernel_rfl) (by kernel_rfl) (fun _ _ _ h => h) (Or.inl ⟨by rfl, ?_⟩) (by assumption) ?_
      rotate_left
      · intro w hSw
        try dsimp only at hSw
        go_simp
        all_goals with_reducible rfl
      try simp only [Act.put, List.getElem_toArray, List.getElem_cons_succ, List.getElem_cons_zero, List.setIfInBounds_toArray, List.set_cons_zero, List.set_cons_succ]
      refine wpAnyH_take (i := 12) (v := ?_) rfl (by kernel_rfl) (by kernel_rfl) (by kernel_rfl) (fun _ _ _ h => h) (Or.inl ⟨by rfl, ?_⟩) (by assumption) ?_
      rotate_left
      · intro w hSw
        try dsimp only at hSw
        go_simp
        all_goals with_reducible rfl
      try simp only [Act.put, List.getElem_toArray, List.getElem_cons_succ, List.getElem_cons_zero, List.setIfInBounds_toArray, List.set_cons_zero, List.set_cons_succ]
      refine wpAnyH_take (i := 13) (v := undef) rfl (by kernel_rfl) (by kernel_rfl) (by kernel_rfl) (fun _ _ _ h => h) (Or.inr ⟨by rfl, rfl⟩) (by assumption) ?_
      try simp only [Act.put, List.getElem_toArray, List.getElem_cons_succ, List.getElem_cons_zero, List.setIfInBounds_toArray, List.set_cons_zero, List.set_cons_succ]
      refine wpAnyH_take (i := 14) (v := undef) rfl (by kernel_rfl) (by kernel_rfl) (by kernel_rfl) (fun _ _ _ h => h) (Or.inr ⟨by rfl, rfl⟩) (by assumption) ?_
      try simp only [Act.put, List.getElem_toArray, List.getElem_cons_succ, List.getElem_cons_zero, List.setIfInBounds_toArray, List.set_cons_zero, List.set_cons_succ]
      refine wpAnyH_take (i := 15) (v := undef) rfl (by kernel_rfl) (by kernel_rfl) (by kernel_rfl) (fun _ _ _ h => h) (Or.inr ⟨by rfl, rfl⟩) (by assumption) ?_
      try simp only [Act.put, List.getElem_toArray, List.getElem_cons_succ, List.getElem_cons_zero, List.setIfInBounds_toArray, List.set_cons_zero, List.set_cons_succ]
      refine wpAnyH_take (i := 16) (v := undef) rfl (by kernel_rfl) (by kernel_rfl) (by kernel_rfl) (fun _ _ _ h => h) (Or.inr ⟨by rfl, rfl⟩) (by assumption) ?_
      try simp only [Act.put, List.getElem_toArray, List.getElem_cons_succ, List.getElem_cons_zero, List.setIfInBounds_toArray, List.set_cons_zero, List.set_cons_succ]
      refine wpAnyH_take (i := 17) (v := undef) rfl (by kernel_rfl) (by kernel_rfl) (by kernel_rfl) (fun _ _ _ h => h) (Or.inr ⟨by rfl, rfl⟩) (by assumption) ?_
      try simp only [Act.put, List.getElem_toArray, List.getElem_cons_succ, List.getElem_cons_zero, List.setIfInBounds_toArray, List.set_cons_zero, List.set_cons_succ]
      refine wpAnyH_take (i := 18) (v := undef) rfl (by kernel_rfl) (by kernel_rfl) (by kernel_rfl) (fun _ _ _ h => h) (Or.inr ⟨by rfl, rfl⟩) (by assumption) ?_
      try simp only [Act.put, List.getElem_toArray, List.getElem_cons_succ, List.getElem_cons_zero, List.setIfInBounds_toArray, List.set_cons_zero, List.set_cons_succ]
      refine wpAnyH_take (i := 19) (v := undef) rfl (by kernel_rfl) (by kernel_rfl) (by kernel_rfl) (fun _ _ _ h => h) (Or.inr ⟨by rfl, rfl⟩) (by assumption) ?_
      try simp only [Act.put, List.getElem_toArray, List.getElem_cons_succ, List.getElem_cons_zero, List.setIfInBounds_toArray, List.set_cons_zero, List.set_cons_succ]
      refine wpAnyH_take (i := 20) (v := undef) rfl (by kernel_rfl) (by kernel_rfl) (by kernel_rfl) (fun _ _ _ h => h) (Or.inr ⟨by rfl, rfl⟩) (by assumption) ?_
      try simp only [Act.put, List.getElem_toArray, List.getElem_cons_succ, List.getElem_cons_zero, List.setIfInBounds_toArray, List.set_cons_zero, List.set_cons_succ]
      refine wpAnyH_take (i := 21) (v := undef) rfl (by kernel_rfl) (by kernel_rfl) (by kernel_rfl) (fun _ _ _ h => h) (Or.inr ⟨by rfl, rfl⟩) (by assumption) ?_
      try simp only [Act.put, List.getElem_toArray, List.getElem_cons_succ, List.getElem_cons_zero, List.setIfInBounds_toArray, List.set_cons_zero, List.set_cons_succ]
      refine wpAnyH_take (i := 22) (v := undef) rfl (by kernel_rfl) (by kernel_rfl) (by kernel_rfl) (fun _ _ _ h => h) (Or.inr ⟨by rfl, rfl⟩) (by assumption) ?_
      try simp only [Act.put, List.getElem_toArray, List.getElem_cons_succ, List.getElem_cons_zero, List.setIfInBounds_toArray, List.set_cons_zero, List.set_cons_succ]
      refine wpAnyH_take (i := 23) (v := undef) rfl (by kernel_rfl) (by kernel_rfl) (by kernel_rfl) (fun _ _ _ h => h) (Or.inr ⟨by rfl, rfl⟩) (by assumption) ?_
      try simp only [Act.put, List.getElem_toArray, List.getElem_cons_succ, List.getElem_cons_zero, List.setIfInBounds_toArray, List.set_cons_zero, List.set_cons_succ]
      refine wpAnyH_take (i := 24) (v := undef) rfl (by kernel_rfl) (by kernel_rfl) (by kernel_rfl) (fun _ _ _ h => h) (Or.inr ⟨by rfl, rfl⟩) (by assumption) ?_
      try simp only [Act.put, List.getElem_toArray, List.getElem_cons_succ, List.getElem_cons_zero, List.setIfInBounds_toArray, List.set_cons_zero, List.set_cons_succ]
      refine wpAnyH_take (i := 25) (v := undef) rfl (by kernel_rfl) (by kernel_rfl) (by kernel_rfl) (fun _ _ _ h => h) (Or.inr ⟨by rfl, rfl⟩) (by assumption) ?_
      try simp only [Act.put, List.getElem_toArray, List.getElem_cons_succ, List.getElem_cons_zero, List.setIfInBounds_toArray, List.set_cons_zero, List.set_cons_succ]
      refine wpAnyH_take (i := 26) (v := undef) rfl (by kernel_rfl) (by kernel_rfl) (by kernel_rfl) (fun _ _ _ h => h) (Or.inr ⟨by rfl, rfl⟩) (by assumption) ?_
      try simp only [Act.put, List.getElem_toArray, List.getElem_cons_succ, List.getElem_cons_zero, List.setIfInBounds_toArray, List.set_cons_zero, List.set_cons_succ]
      refine wpAnyH_take (i := 27) (v := undef) rfl (by kernel_rfl) (by kernel_rfl) (by kernel_rfl) (fun _ _ _ h => h) (Or.inr ⟨by rfl, rfl⟩) (by assumption) ?_
      try simp only [Act.put, List.getElem_toArray, List.getElem_cons_succ, List.getElem_cons_zero, List.setIfInBounds_toArray, List.set_cons_zero, List.set_cons_succ]
      refine wpAnyH_take (i := 28) (v := undef) rfl (by kernel_rfl) (by kernel_rfl) (by kernel_rfl) (fun _ _ _ h => h) (Or.inr ⟨by rfl, rfl⟩) (by assumption) ?_
      try simp only [Act.put, List.getElem_toArray, List.getElem_cons_succ, List.getElem_cons_zero, List.setIfInBounds_toArray, List.set_cons_zero, List.set_cons_succ]
      refine wpAnyH_take (i := 29) (v := undef) rfl (by kernel_rfl) (by kernel_rfl) (by kernel_rfl) (fun _ _ _ h => h) (Or.inr ⟨by rfl, rfl⟩) (by assumption) ?_
      try simp only [Act.put, List.getElem_toArray, List.getElem_cons_succ, List.getElem_cons_zero, List.setIfInBounds_toArray, List.set_cons_zero, List.set_cons_succ]
      refine wpAnyH_take (i := 30) (v := ?_) rfl (by kernel_rfl) (by kernel_rfl) (by kernel_rfl) (fun _ _ _ h => h) (Or.inl ⟨by rfl, ?_⟩) (by assumption) ?_
      rotate_left
      · intro w hSw
        try dsimp only at hSw
        go_simp
        all_goals with_reducible rfl
      try simp only [Act.put, List.getElem_toArray, List.getElem_cons_succ, List.getElem_cons_zero, List.setIfInBounds_toArray, List.set_cons_zero, List.set_cons_succ]
      refine wpAnyH_done (by kernel_rfl) ?_ _
      go_wp2_with fail
      go_ret
      exact IsTakes.no HX0.out (by rw [HTOP.out]; exact HNO.out) (HB.out.trans (hb'.mono HB.out.size))
    | true =>
      have hFm : Formed p top := hr.1 rfl
      have HFM := Lib.hid hFm
      clear hr htop hFm
      have key : (n = 0 ∧ True) ∨ ∃ m, n = m + 1 := by
        rcases n with _ | m
        · exact .inl ⟨rfl, trivial⟩
        · exact .inr ⟨m, rfl⟩
      rcases key with ⟨hn0, _⟩ | ⟨m, hnm⟩
      · have HKS := Lib.hid (fun W (hb : Below w1.heap.size w1 W) => (⟨hb, (hb.cell hBw).trans y0, (hb.cell (p := ⟨P, 0, none⟩) hPl).trans q0, (hb.cell (p := ⟨P, 1, none⟩) hPl).trans q1, (hb.cell (p := ⟨P, 2, none⟩) hPl).trans q2, (hb.cell (p := ⟨P, 3, none⟩) hPl).trans q3, (hb.cell (p := ⟨P, 4, none⟩) hPl).trans q4, (hb.cell (p := ⟨P, 5, none⟩) hPl).trans q5, (hb.cell (p := ⟨P, 6, none⟩) hPl).trans q6⟩ : Below w1.heap.size w1 W ∧ W.cell? ⟨B, 0, none⟩ = some (.int .i64 teams) ∧ W.cell? ⟨P, 0, none⟩ = some (.int .i64 p.kind) ∧ W.cell? ⟨P, 1, none⟩ = some (.int .i64 p.day) ∧ W.cell? ⟨P, 2, none⟩ = some (.int .i64 p.deb) ∧ W.cell? ⟨P, 3, none⟩ = some (.int .i64 p.cre) ∧ W.cell? ⟨P, 4, none⟩ = some (.int .i64 p.amt) ∧ W.cell? ⟨P, 5, none⟩ = some (.int .i64 p.sub) ∧ W.cell? ⟨P, 6, none⟩ = some (.int .i64 p.of)))
        have e1 : decide (0 < (n : Int)) = false := decide_eq_false (by omega)
        have e2 : decide (0 < n) = false := decide_eq_false (by omega)
        have HDAY : Hid (0 < n → (g (n - 1)).day ≤ p.day) := Lib.hid (fun h => by omega)
        have HN0 := Lib.hid hn0
        clear hn0 q0 q1 q2 q3 q4 q5 q6
        go_wp2_with fail
        refine wp_region_held_drew (S := (fun W => Below w1.heap.size w1 W ∧ W.cell? ⟨B, 0, none⟩ = some (.int .i64 teams) ∧ W.cell? ⟨P, 0, none⟩ = some (.int .i64 p.kind) ∧ W.cell? ⟨P, 1, none⟩ = some (.int .i64 p.day) ∧ W.cell? ⟨P, 2, none⟩ = some (.int .i64 p.deb) ∧ W.cell? ⟨P, 3, none⟩ = some (.int .i64 p.cre) ∧ W.cell? ⟨P, 4, none⟩ = some (.int .i64 p.amt) ∧ W.cell? ⟨P, 5, none⟩ = some (.int .i64 p.sub) ∧ W.cell? ⟨P, 6, none⟩ = some (.int .i64 p.of))) (by kernel_rfl) ?_ (fun hHeld => ?_)
        · exact HKS.out _ (Below.refl _ _).drew
        refine wpAnyH_take (i := 0) (v := ?_) rfl (by kernel_rfl) (by kernel_rfl) (by kernel_rfl) (fun _ _ _ h => h) (Or.inl ⟨by rfl, ?_⟩) (by assumption) ?_
        rotate_left
        · intro w hSw
          try dsimp only at hSw
          go_simp
          all_goals with_reducible rfl
        try simp only [Act.put, List.getElem_toArray, List.getElem_cons_zero, List.setIfInBounds_toArray, List.set_cons_zero, List.set_cons_succ]
        refine wpAnyH_take (i := 1) (v := ?_) rfl (by kernel_rfl) (by kernel_rfl) (by kernel_rfl) (fun _ _ _ h => h) (Or.inl ⟨by rfl, ?_⟩) (by assumption) ?_
        rotate_left
        · intro w hSw
          try dsimp only at hSw
          go_simp
          all_goals with_reducible rfl
        try simp only [Act.put, List.getElem_toArray, List.getElem_cons_succ, List.getElem_cons_zero, List.setIfInBounds_toArray, List.set_cons_zero, List.set_cons_succ]
        refine wpAnyH_take (i := 2) (v := ?_) rfl (by kernel_rfl) (by kernel_rfl) (by kernel_rfl) (fun _ _ _ h => h) (Or.inl ⟨by rfl, ?_⟩) (by assumption) ?_
        rotate_left
        · intro w hSw
          try dsimp only at hSw
          go_simp
          all_goals with_reducible rfl
        try simp only [Act.put, List.getElem_toArray, List.getElem_cons_succ, List.getElem_cons_zero, List.setIfInBounds_toArray, List.set_cons_zero, List.set_cons_succ]
        refine wpAnyH_take (i := 3) (v := ?_) rfl (by kernel_rfl) (by kernel_rfl) (by kernel_rfl) (fun _ _ _ h => h) (Or.inl ⟨by rfl, ?_⟩) (by assumption) ?_
        rotate_left
        · intro w hSw
          try dsimp only at hSw
          go_simp
          all_goals with_reducible rfl
        try simp only [Act.put, List.getElem_toArray, List.getElem_cons_succ, List.getElem_cons_zero, List.setIfInBounds_toArray, List.set_cons_zero, List.set_cons_succ]
        refine wpAnyH_take (i := 4) (v := ?_) rfl (by kernel_rfl) (by kernel_rfl) (by kernel_rfl) (fun _ _ _ h => h) (Or.inl ⟨by rfl, ?_⟩) (by assumption) ?_
        rotate_left
        · intro w hSw
          try dsimp only at hSw
          go_simp
          all_goals with_reducible rfl
        try simp only [Act.put, List.getElem_toArray, List.getElem_cons_succ, List.getElem_cons_zero, List.setIfInBounds_toArray, List.set_cons_zero, List.set_cons_succ]
        refine wpAnyH_take (i := 5) (v := ?_) rfl (by kernel_rfl) (by kernel_rfl) (by kernel_rfl) (fun _ _ _ h => h) (Or.inl ⟨by rfl, ?_⟩) (by assumption) ?_
        rotate_left
        · intro w hSw
          try dsimp only at hSw
          go_simp
          all_goals with_reducible rfl
        try simp only [Act.put, List.getElem_toArray, List.getElem_cons_succ, List.getElem_cons_zero, List.setIfInBounds_toArray, List.set_cons_zero, List.set_cons_succ]
        refine wpAnyH_take (i := 6) (v := ?_) rfl (by kernel_rfl) (by kernel_rfl) (by kernel_rfl) (fun _ _ _ h => h) (Or.inl ⟨by rfl, ?_⟩) (by assumption) ?_
        rotate_left
        · intro w hSw
          try dsimp only at hSw
          go_simp
          all_goals with_reducible rfl
        try simp only [Act.put, List.getElem_toArray, List.getElem_cons_succ, List.getElem_cons_zero, List.setIfInBounds_toArray, List.set_cons_zero, List.set_cons_succ]
        refine wpAnyH_take (i := 7) (v := ?_) rfl (by kernel_rfl) (by kernel_rfl) (by kernel_rfl) (fun _ _ _ h => h) (Or.inl ⟨by rfl, ?_⟩) (by assumption) ?_
        rotate_left
        · intro w hSw
          try dsimp only at hSw
          go_simp
          all_goals with_reducible rfl
        try simp only [Act.put, List.getElem_toArray, List.getElem_cons_succ, List.getElem_cons_zero, List.setIfInBounds_toArray, List.set_cons_zero, List.set_cons_succ]
        refine wpAnyH_take (i := 8) (v := ?_) rfl (by kernel_rfl) (by kernel_rfl) (by kernel_rfl) (fun _ _ _ h => h) (Or.inl ⟨by rfl, ?_⟩) (by assumption) ?_
        rotate_left
        · intro w hSw
          try dsimp only at hSw
          go_simp
          all_goals with_reducible rfl
        try simp only [Act.put, List.getElem_toArray, List.getElem_cons_succ, List.getElem_cons_zero, List.setIfInBounds_toArray, List.set_cons_zero, List.set_cons_succ]
        refine wpAnyH_ready (rs := [9]) (by kernel_rfl) (by simp) ?_
        refine AllReadyH.cons rfl (fun K hK => ?_) AllReadyH.nil
        go_simp
        go_at_call 63; refine (HFC.out _ hHeld.1).mono ?_; rintro e w' ⟨rfl, hb'⟩
        refine hK.out _ _ ?_ (fun hHeld2 => ?_)
        · exact HKS.out _ hb'
        clear hK K hHeld
        rename_i hHeld
        try simp only [Act.put, List.getElem_toArray, List.getElem_cons_succ, List.getElem_cons_zero, List.setIfInBounds_toArray, List.set_cons_zero, List.set_cons_succ]
        refine wpAnyH_take (i := 10) (v := ?_) rfl (by kernel_rfl) (by kernel_rfl) (by kernel_rfl) (fun _ _ _ h => h) (Or.inl ⟨by rfl, ?_⟩) (by assumption) ?_
        rotate_left
        · intro w hSw
          try dsimp only at hSw
          go_simp
          all_goals with_reducible rfl
        try simp only [Act.put, List.getElem_toArray, List.getElem_cons_succ, List.getElem_cons_zero, List.setIfInBounds_toArray, List.set_cons_zero, List.set_cons_succ]
        refine wpAnyH_take (i := 11) (v := ?_) rfl (by kernel_rfl) (by kernel_rfl) (by kernel_rfl) (fun _ _ _ h => h) (Or.inl ⟨by rfl, ?_⟩) (by assumption) ?_
        rotate_left
        · intro w hSw
          try dsimp only at hSw
          go_simp
          all_goals with_reducible rfl
        try simp only [Act.put, List.getElem_toArray, List.getElem_cons_succ, List.getElem_cons_zero, List.setIfInBounds_toArray, List.set_cons_zero, List.set_cons_succ]
        refine wpAnyH_take (i := 12) (v := ?_) rfl (by kernel_rfl) (by kernel_rfl) (by kernel_rfl) (fun _ _ _ h => h) (Or.inl ⟨by rfl, ?_⟩) (by assumption) ?_
        rotate_left
        · intro w hSw
          try dsimp only at hSw
          go_simp
          all_goals with_reducible rfl
        try simp only [Act.put, List.getElem_toArray, List.getElem_cons_succ, List.getElem_cons_zero, List.setIfInBounds_toArray, List.set_cons_zero, List.set_cons_succ]
        refine wpAnyH_take (i := 13) (v := ?_) rfl (by kernel_rfl) (by kernel_rfl) (by kernel_rfl) (fun _ _ _ h => h) (Or.inl ⟨by rfl, ?_⟩) (by assumption) ?_
        rotate_left
        · intro w hSw
          try dsimp only at hSw
          go_simp
          all_goals with_reducible rfl
        try simp only [Act.put, List.getElem_toArray, List.getElem_cons_succ, List.getElem_cons_zero, List.setIfInBounds_toArray, List.set_cons_zero, List.set_cons_succ]
        refine wpAnyH_take (i := 14) (v := ?_) rfl (by kernel_rfl) (by kernel_rfl) (by kernel_rfl) (fun _ _ _ h => h) (Or.inl ⟨by rfl, ?_⟩) (by assumption) ?_
        rotate_left
        · intro w hSw
          try dsimp only at hSw
          go_simp
          all_goals with_reducible rfl
        try simp only [Act.put, List.getElem_toArray, List.getElem_cons_succ, List.getElem_cons_zero, List.setIfInBounds_toArray, List.set_cons_zero, List.set_cons_succ]
        refine wpAnyH_take (i := 15) (v := ?_) rfl (by kernel_rfl) (by kernel_rfl) (by kernel_rfl) (fun _ _ _ h => h) (Or.inl ⟨by rfl, ?_⟩) (by assumption) ?_
        rotate_left
        · intro w hSw
          try dsimp only at hSw
          go_simp
          all_goals with_reducible rfl
        try simp only [Act.put, List.getElem_toArray, List.getElem_cons_succ, List.getElem_cons_zero, List.setIfInBounds_toArray, List.set_cons_zero, List.set_cons_succ]
        refine wpAnyH_take (i := 16) (v := undef) rfl (by kernel_rfl) (by kernel_rfl) (by kernel_rfl) (fun _ _ _ h => h) (Or.inr ⟨by rfl, rfl⟩) (by assumption) ?_
        try simp only [Act.put, List.getElem_toArray, List.getElem_cons_succ, List.getElem_cons_zero, List.setIfInBounds_toArray, List.set_cons_zero, List.set_cons_succ]
        refine wpAnyH_take (i := 17) (v := undef) rfl (by kernel_rfl) (by kernel_rfl) (by kernel_rfl) (fun _ _ _ h => h) (Or.inr ⟨by rfl, rfl⟩) (by assumption) ?_
        try simp only [Act.put, List.getElem_toArray, List.getElem_cons_succ, List.getElem_cons_zero, List.setIfInBounds_toArray, List.set_cons_zero, List.set_cons_succ]
        refine wpAnyH_take (i := 18) (v := undef) rfl (by kernel_rfl) (by kernel_rfl) (by kernel_rfl) (fun _ _ _ h => h) (Or.inr ⟨by rfl, rfl⟩) (by assumption) ?_
        try simp only [Act.put, List.getElem_toArray, List.getElem_cons_succ, List.getElem_cons_zero, List.setIfInBounds_toArray, List.set_cons_zero, List.set_cons_succ]
        refine wpAnyH_take (i := 19) (v := undef) rfl (by kernel_rfl) (by kernel_rfl) (by kernel_rfl) (fun _ _ _ h => h) (Or.inr ⟨by rfl, rfl⟩) (by assumption) ?_
        try simp only [Act.put, List.getElem_toArray, List.getElem_cons_succ, List.getElem_cons_zero, List.setIfInBounds_toArray, List.set_cons_zero, List.set_cons_succ]
        refine wpAnyH_take (i := 20) (v := undef) rfl (by kernel_rfl) (by kernel_rfl) (by kernel_rfl) (fun _ _ _ h => h) (Or.inr ⟨by rfl, rfl⟩) (by assumption) ?_
        try simp only [Act.put, List.getElem_toArray, List.getElem_cons_succ, List.getElem_cons_zero, List.setIfInBounds_toArray, List.set_cons_zero, List.set_cons_succ]
        refine wpAnyH_take (i := 21) (v := undef) rfl (by kernel_rfl) (by kernel_rfl) (by kernel_rfl) (fun _ _ _ h => h) (Or.inr ⟨by rfl, rfl⟩) (by assumption) ?_
        try simp only [Act.put, List.getElem_toArray, List.getElem_cons_succ, List.getElem_cons_zero, List.setIfInBounds_toArray, List.set_cons_zero, List.set_cons_succ]
        refine wpAnyH_take (i := 22) (v := undef) rfl (by kernel_rfl) (by kernel_rfl) (by kernel_rfl) (fun _ _ _ h => h) (Or.inr ⟨by rfl, rfl⟩) (by assumption) ?_
        try simp only [Act.put, List.getElem_toArray, List.getElem_cons_succ, List.getElem_cons_zero, List.setIfInBounds_toArray, List.set_cons_zero, List.set_cons_succ]
        refine wpAnyH_take (i := 23) (v := undef) rfl (by kernel_rfl) (by kernel_rfl) (by kernel_rfl) (fun _ _ _ h => h) (Or.inr ⟨by rfl, rfl⟩) (by assumption) ?_
        try simp only [Act.put, List.getElem_toArray, List.getElem_cons_succ, List.getElem_cons_zero, List.setIfInBounds_toArray, List.set_cons_zero, List.set_cons_succ]
        refine wpAnyH_take (i := 24) (v := undef) rfl (by kernel_rfl) (by kernel_rfl) (by kernel_rfl) (fun _ _ _ h => h) (Or.inr ⟨by rfl, rfl⟩) (by assumption) ?_
        try simp only [Act.put, List.getElem_toArray, List.getElem_cons_succ, List.getElem_cons_zero, List.setIfInBounds_toArray, List.set_cons_zero, List.set_cons_succ]
        refine wpAnyH_take (i := 25) (v := undef) rfl (by kernel_rfl) (by kernel_rfl) (by kernel_rfl) (fun _ _ _ h => h) (Or.inr ⟨by rfl, rfl⟩) (by assumption) ?_
        try simp only [Act.put, List.getElem_toArray, List.getElem_cons_succ, List.getElem_cons_zero, List.setIfInBounds_toArray, List.set_cons_zero, List.set_cons_succ]
        refine wpAnyH_take (i := 26) (v := undef) rfl (by kernel_rfl) (by kernel_rfl) (by kernel_rfl) (fun _ _ _ h => h) (Or.inr ⟨by rfl, rfl⟩) (by assumption) ?_
        try simp only [Act.put, List.getElem_toArray, List.getElem_cons_succ, List.getElem_cons_zero, List.setIfInBounds_toArray, List.set_cons_zero, List.set_cons_succ]
        refine wpAnyH_take (i := 27) (v := undef) rfl (by kernel_rfl) (by kernel_rfl) (by kernel_rfl) (fun _ _ _ h => h) (Or.inr ⟨by rfl, rfl⟩) (by assumption) ?_
        try simp only [Act.put, List.getElem_toArray, List.getElem_cons_succ, List.getElem_cons_zero, List.setIfInBounds_toArray, List.set_cons_zero, List.set_cons_succ]
        refine wpAnyH_take (i := 28) (v := undef) rfl (by kernel_rfl) (by kernel_rfl) (by kernel_rfl) (fun _ _ _ h => h) (Or.inr ⟨by rfl, rfl⟩) (by assumption) ?_
        try simp only [Act.put, List.getElem_toArray, List.getElem_cons_succ, List.getElem_cons_zero, List.setIfInBounds_toArray, List.set_cons_zero, List.set_cons_succ]
        refine wpAnyH_take (i := 29) (v := ?_) rfl (by kernel_rfl) (by kernel_rfl) (by kernel_rfl) (fun _ _ _ h => h) (Or.inl ⟨by rfl, ?_⟩) (by assumption) ?_
        rotate_left
        · intro w hSw
          try dsimp only at hSw
          go_simp
          all_goals with_reducible rfl
        try simp only [Act.put, List.getElem_toArray, List.getElem_cons_succ, List.getElem_cons_zero, List.setIfInBounds_toArray, List.set_cons_zero, List.set_cons_succ]
        refine wpAnyH_take (i := 30) (v := ?_) rfl (by kernel_rfl) (by kernel_rfl) (by kernel_rfl) (fun _ _ _ h => h) (Or.inl ⟨by rfl, ?_⟩) (by assumption) ?_
        rotate_left
        · intro w hSw
          try dsimp only at hSw
          go_simp
          all_goals with_reducible rfl
        try simp only [Act.put, List.getElem_toArray, List.getElem_cons_succ, List.getElem_cons_zero, List.setIfInBounds_toArray, List.set_cons_zero, List.set_cons_succ]
        refine wpAnyH_done (by kernel_rfl) ?_ _
        clear e1 e2 y0 y1 y2
        obtain ⟨w2, rfl⟩ : ∃ w2 : World, w2 = w' := ⟨_, rfl⟩
        have hB2 := HB.out.trans (hb'.mono HB.out.size)
        have hx2 := HX.out.below hb'
        have hr2 := ownP_below HROW.out hb'
        have hd2 := HRD.out.below hb'
        have hp2 := HPC.out.below hb'
        have hBw2 := hx2.lt
        have hBw0 := HX0.out.lt
        have hPw : P < w2.heap.size := cell_lt hp2.1
        have hbase2 : base ≤ w2.heap.size := Nat.le_trans hbw1 hb'.size
        clear HKS HFC hb'
        by_cases hk : p.kind = 2
        · have hkb : (p.kind == 2) = true := by simp [hk]
          have HK := Lib.hid hk
          have hof : within p.of 0 199 := by
            rcases HFM.out.2.2.2.2.2.2 with h | h
            · omega
            · exact h.2
          obtain ⟨j, hj⟩ : ∃ j : Nat, p.of = (j : Int) := ⟨p.of.toNat, by unfold within at hof; omega⟩
          have hj199 : j < 200 := by unfold within at hof; omega
          have HJ := Lib.hid hj
          have hjn : p.of.toNat = j := by omega
          have HJN := Lib.hid hjn
          obtain ⟨q0, q1, q2, q3, q4, q5, q6⟩ := hp2
          rw [hj] at q6
          clear hk hof hj hjn
          have v0 : (0 : Int) ≤ (j : Int) := by omega
          have v1 : (j : Int) < 200 := by omega
          by_cases hjlt : j < n
          · have e3 : decide ((n : Int) ≤ (j : Int)) = false := decide_eq_false (by omega)
            have e4 : decide (n ≤ j) = false := decide_eq_false (by omega)
            have v2 : (j : Int) < (n : Int) := by omega
            exact absurd hjlt (by have := HN0.out; omega)
          · have e3 : decide ((n : Int) ≤ (j : Int)) = true := decide_eq_true (by omega)
            have e4 : decide (n ≤ j) = true := decide_eq_true (by omega)
            obtain ⟨y0, y1, y2, y3⟩ := hx2.cells
            have yj := y3 j hj199
            obtain ⟨bj, hbj⟩ : ∃ b, bk j = b := ⟨_, rfl⟩
            rw [hbj] at yj
            have HKS2 := Lib.hid (fun W (hb : Below w2.heap.size w2 W) => (⟨hb, (hb.cell (p := ⟨P, 0, none⟩) hPw).trans q0, (hb.cell (p := ⟨P, 1, none⟩) hPw).trans q1, (hb.cell (p := ⟨P, 2, none⟩) hPw).trans q2, (hb.cell (p := ⟨P, 3, none⟩) hPw).trans q3, (hb.cell (p := ⟨P, 4, none⟩) hPw).trans q4, (hb.cell (p := ⟨P, 5, none⟩) hPw).trans q5, (hb.cell (p := ⟨P, 6, none⟩) hPw).trans q6, (hb.cell (p := ⟨B, 3 + j, none⟩) hBw2).trans yj⟩ : Below w2.heap.size w2 W ∧ W.cell? ⟨P, 0, none⟩ = some (.int .i64 p.kind) ∧ W.cell? ⟨P, 1, none⟩ = some (.int .i64 p.day) ∧ W.cell? ⟨P, 2, none⟩ = some (.int .i64 p.deb) ∧ W.cell? ⟨P, 3, none⟩ = some (.int .i64 p.cre) ∧ W.cell? ⟨P, 4, none⟩ = some (.int .i64 p.amt) ∧ W.cell? ⟨P, 5, none⟩ = some (.int .i64 p.sub) ∧ W.cell? ⟨P, 6, none⟩ = some (.int .i64 (j : Int)) ∧ W.cell? ⟨B, 3 + j, none⟩ = some (.bool bj)))
            clear hbj y3
            go_wp2_with fail
            refine wp_region_held_drew (S := (fun W => Below w2.heap.size w2 W ∧ W.cell? ⟨P, 0, none⟩ = some (.int .i64 p.kind) ∧ W.cell? ⟨P, 1, none⟩ = some (.int .i64 p.day) ∧ W.cell? ⟨P, 2, none⟩ = some (.int .i64 p.deb) ∧ W.cell? ⟨P, 3, none⟩ = some (.int .i64 p.cre) ∧ W.cell? ⟨P, 4, none⟩ = some (.int .i64 p.amt) ∧ W.cell? ⟨P, 5, none⟩ = some (.int .i64 p.sub) ∧ W.cell? ⟨P, 6, none⟩ = some (.int .i64 (j : Int)) ∧ W.cell? ⟨B, 3 + j, none⟩ = some (.bool bj))) (by kernel_rfl) ?_ (fun hHeld => ?_)
            · exact HKS2.out _ (Below.refl _ _).drew
            refine wpAnyH_take (i := 0) (v := ?_) rfl (by kernel_rfl) (by kernel_rfl) (by kernel_rfl) (fun _ _ _ h => h) (Or.inl ⟨by rfl, ?_⟩) (by assumption) ?_
            rotate_left
            · intro w hSw
              try dsimp only at hSw
              go_simp
              all_goals with_reducible rfl
            try simp only [Act.put, List.getElem_toArray, List.getElem_cons_zero, List.setIfInBounds_toArray, List.set_cons_zero, List.set_cons_succ]
            refine wpAnyH_take (i := 1) (v := ?_) rfl (by kernel_rfl) (by kernel_rfl) (by kernel_rfl) (fun _ _ _ h => h) (Or.inl ⟨by rfl, ?_⟩) (by assumption) ?_
            rotate_left
            · intro w hSw
              try dsimp only at hSw
              go_simp
              all_goals with_reducible rfl
            try simp only [Act.put, List.getElem_toArray, List.getElem_cons_succ, List.getElem_cons_zero, List.setIfInBounds_toArray, List.set_cons_zero, List.set_cons_succ]
            refine wpAnyH_take (i := 2) (v := ?_) rfl (by kernel_rfl) (by kernel_rfl) (by kernel_rfl) (fun _ _ _ h => h) (Or.inl ⟨by rfl, ?_⟩) (by assumption) ?_
            rotate_left
            · intro w hSw
              try dsimp only at hSw
              go_simp
              all_goals with_reducible rfl
            try simp only [Act.put, List.getElem_toArray, List.getElem_cons_succ, List.getElem_cons_zero, List.setIfInBounds_toArray, List.set_cons_zero, List.set_cons_succ]
            refine wpAnyH_take (i := 3) (v := ?_) rfl (by kernel_rfl) (by kernel_rfl) (by kernel_rfl) (fun _ _ _ h => h) (Or.inl ⟨by rfl, ?_⟩) (by assumption) ?_
            rotate_left
            · intro w hSw
              try dsimp only at hSw
              go_simp
              all_goals with_reducible rfl
            try simp only [Act.put, List.getElem_toArray, List.getElem_cons_succ, List.getElem_cons_zero, List.setIfInBounds_toArray, List.set_cons_zero, List.set_cons_succ]
            refine wpAnyH_take (i := 4) (v := ?_) rfl (by kernel_rfl) (by kernel_rfl) (by kernel_rfl) (fun _ _ _ h => h) (Or.inl ⟨by rfl, ?_⟩) (by assumption) ?_
            rotate_left
            · intro w hSw
              try dsimp only at hSw
              go_simp
              all_goals with_reducible rfl
            try simp only [Act.put, List.getElem_toArray, List.getElem_cons_succ, List.getElem_cons_zero, List.setIfInBounds_toArray, List.set_cons_zero, List.set_cons_succ]
            refine wpAnyH_take (i := 5) (v := undef) rfl (by kernel_rfl) (by kernel_rfl) (by kernel_rfl) (fun _ _ _ h => h) (Or.inr ⟨by rfl, rfl⟩) (by assumption) ?_
            try simp only [Act.put, List.getElem_toArray, List.getElem_cons_succ, List.getElem_cons_zero, List.setIfInBounds_toArray, List.set_cons_zero, List.set_cons_succ]
            refine wpAnyH_take (i := 6) (v := undef) rfl (by kernel_rfl) (by kernel_rfl) (by kernel_rfl) (fun _ _ _ h => h) (Or.inr ⟨by rfl, rfl⟩) (by assumption) ?_
            try simp only [Act.put, List.getElem_toArray, List.getElem_cons_succ, List.getElem_cons_zero, List.setIfInBounds_toArray, List.set_cons_zero, List.set_cons_succ]
            refine wpAnyH_take (i := 7) (v := undef) rfl (by kernel_rfl) (by kernel_rfl) (by kernel_rfl) (fun _ _ _ h => h) (Or.inr ⟨by rfl, rfl⟩) (by assumption) ?_
            try simp only [Act.put, List.getElem_toArray, List.getElem_cons_succ, List.getElem_cons_zero, List.setIfInBounds_toArray, List.set_cons_zero, List.set_cons_succ]
            refine wpAnyH_take (i := 8) (v := undef) rfl (by kernel_rfl) (by kernel_rfl) (by kernel_rfl) (fun _ _ _ h => h) (Or.inr ⟨by rfl, rfl⟩) (by assumption) ?_
            try simp only [Act.put, List.getElem_toArray, List.getElem_cons_succ, List.getElem_cons_zero, List.setIfInBounds_toArray, List.set_cons_zero, List.set_cons_succ]
            refine wpAnyH_take (i := 9) (v := undef) rfl (by kernel_rfl) (by kernel_rfl) (by kernel_rfl) (fun _ _ _ h => h) (Or.inr ⟨by rfl, rfl⟩) (by assumption) ?_
            try simp only [Act.put, List.getElem_toArray, List.getElem_cons_succ, List.getElem_cons_zero, List.setIfInBounds_toArray, List.set_cons_zero, List.set_cons_succ]
            refine wpAnyH_take (i := 10) (v := undef) rfl (by kernel_rfl) (by kernel_rfl) (by kernel_rfl) (fun _ _ _ h => h) (Or.inr ⟨by rfl, rfl⟩) (by assumption) ?_
            try simp only [Act.put, List.getElem_toArray, List.getElem_cons_succ, List.getElem_cons_zero, List.setIfInBounds_toArray, List.set_cons_zero, List.set_cons_succ]
            refine wpAnyH_take (i := 11) (v := undef) rfl (by kernel_rfl) (by kernel_rfl) (by kernel_rfl) (fun _ _ _ h => h) (Or.inr ⟨by rfl, rfl⟩) (by assumption) ?_
            try simp only [Act.put, List.getElem_toArray, List.getElem_cons_succ, List.getElem_cons_zero, List.setIfInBounds_toArray, List.set_cons_zero, List.set_cons_succ]
            refine wpAnyH_take (i := 12) (v := ?_) rfl (by kernel_rfl) (by kernel_rfl) (by kernel_rfl) (fun _ _ _ h => h) (Or.inl ⟨by rfl, ?_⟩) (by assumption) ?_
            rotate_left
            · intro w hSw
              try dsimp only at hSw
              go_simp
              all_goals with_reducible rfl
            try simp only [Act.put, List.getElem_toArray, List.getElem_cons_succ, List.getElem_cons_zero, List.setIfInBounds_toArray, List.set_cons_zero, List.set_cons_succ]
            refine wpAnyH_take (i := 13) (v := ?_) rfl (by kernel_rfl) (by kernel_rfl) (by kernel_rfl) (fun _ _ _ h => h) (Or.inl ⟨by rfl, ?_⟩) (by assumption) ?_
            rotate_left
            · intro w hSw
              try dsimp only at hSw
              go_simp
              all_goals with_reducible rfl
            try simp only [Act.put, List.getElem_toArray, List.getElem_cons_succ, List.getElem_cons_zero, List.setIfInBounds_toArray, List.set_cons_zero, List.set_cons_succ]
            refine wpAnyH_take (i := 14) (v := undef) rfl (by kernel_rfl) (by kernel_rfl) (by kernel_rfl) (fun _ _ _ h => h) (Or.inr ⟨by rfl, rfl⟩) (by assumption) ?_
            try simp only [Act.put, List.getElem_toArray, List.getElem_cons_succ, List.getElem_cons_zero, List.setIfInBounds_toArray, List.set_cons_zero, List.set_cons_succ]
            refine wpAnyH_take (i := 15) (v := undef) rfl (by kernel_rfl) (by kernel_rfl) (by kernel_rfl) (fun _ _ _ h => h) (Or.inr ⟨by rfl, rfl⟩) (by assumption) ?_
            try simp only [Act.put, List.getElem_toArray, List.getElem_cons_succ, List.getElem_cons_zero, List.setIfInBounds_toArray, List.set_cons_zero, List.set_cons_succ]
            refine wpAnyH_take (i := 16) (v := undef) rfl (by kernel_rfl) (by kernel_rfl) (by kernel_rfl) (fun _ _ _ h => h) (Or.inr ⟨by rfl, rfl⟩) (by assumption) ?_
            try simp only [Act.put, List.getElem_toArray, List.getElem_cons_succ, List.getElem_cons_zero, List.setIfInBounds_toArray, List.set_cons_zero, List.set_cons_succ]
            refine wpAnyH_take (i := 17) (v := undef) rfl (by kernel_rfl) (by kernel_rfl) (by kernel_rfl) (fun _ _ _ h => h) (Or.inr ⟨by rfl, rfl⟩) (by assumption) ?_
            try simp only [Act.put, List.getElem_toArray, List.getElem_cons_succ, List.getElem_cons_zero, List.setIfInBounds_toArray, List.set_cons_zero, List.set_cons_succ]
            refine wpAnyH_take (i := 18) (v := undef) rfl (by kernel_rfl) (by kernel_rfl) (by kernel_rfl) (fun _ _ _ h => h) (Or.inr ⟨by rfl, rfl⟩) (by assumption) ?_
            try simp only [Act.put, List.getElem_toArray, List.getElem_cons_succ, List.getElem_cons_zero, List.setIfInBounds_toArray, List.set_cons_zero, List.set_cons_succ]
            refine wpAnyH_take (i := 19) (v := undef) rfl (by kernel_rfl) (by kernel_rfl) (by kernel_rfl) (fun _ _ _ h => h) (Or.inr ⟨by rfl, rfl⟩) (by assumption) ?_
            try simp only [Act.put, List.getElem_toArray, List.getElem_cons_succ, List.getElem_cons_zero, List.setIfInBounds_toArray, List.set_cons_zero, List.set_cons_succ]
            refine wpAnyH_take (i := 20) (v := undef) rfl (by kernel_rfl) (by kernel_rfl) (by kernel_rfl) (fun _ _ _ h => h) (Or.inr ⟨by rfl, rfl⟩) (by assumption) ?_
            try simp only [Act.put, List.getElem_toArray, List.getElem_cons_succ, List.getElem_cons_zero, List.setIfInBounds_toArray, List.set_cons_zero, List.set_cons_succ]
            refine wpAnyH_take (i := 21) (v := undef) rfl (by kernel_rfl) (by kernel_rfl) (by kernel_rfl) (fun _ _ _ h => h) (Or.inr ⟨by rfl, rfl⟩) (by assumption) ?_
            try simp only [Act.put, List.getElem_toArray, List.getElem_cons_succ, List.getElem_cons_zero, List.setIfInBounds_toArray, List.set_cons_zero, List.set_cons_succ]
            refine wpAnyH_take (i := 22) (v := undef) rfl (by kernel_rfl) (by kernel_rfl) (by kernel_rfl) (fun _ _ _ h => h) (Or.inr ⟨by rfl, rfl⟩) (by assumption) ?_
            try simp only [Act.put, List.getElem_toArray, List.getElem_cons_succ, List.getElem_cons_zero, List.setIfInBounds_toArray, List.set_cons_zero, List.set_cons_succ]
            refine wpAnyH_take (i := 23) (v := undef) rfl (by kernel_rfl) (by kernel_rfl) (by kernel_rfl) (fun _ _ _ h => h) (Or.inr ⟨by rfl, rfl⟩) (by assumption) ?_
            try simp only [Act.put, List.getElem_toArray, List.getElem_cons_succ, List.getElem_cons_zero, List.setIfInBounds_toArray, List.set_cons_zero, List.set_cons_succ]
            refine wpAnyH_take (i := 24) (v := undef) rfl (by kernel_rfl) (by kernel_rfl) (by kernel_rfl) (fun _ _ _ h => h) (Or.inr ⟨by rfl, rfl⟩) (by assumption) ?_
            try simp only [Act.put, List.getElem_toArray, List.getElem_cons_succ, List.getElem_cons_zero, List.setIfInBounds_toArray, List.set_cons_zero, List.set_cons_succ]
            refine wpAnyH_take (i := 25) (v := undef) rfl (by kernel_rfl) (by kernel_rfl) (by kernel_rfl) (fun _ _ _ h => h) (Or.inr ⟨by rfl, rfl⟩) (by assumption) ?_
            try simp only [Act.put, List.getElem_toArray, List.getElem_cons_succ, List.getElem_cons_zero, List.setIfInBounds_toArray, List.set_cons_zero, List.set_cons_succ]
            refine wpAnyH_take (i := 26) (v := ?_) rfl (by kernel_rfl) (by kernel_rfl) (by kernel_rfl) (fun _ _ _ h => h) (Or.inl ⟨by rfl, ?_⟩) (by assumption) ?_
            rotate_left
            · intro w hSw
              try dsimp only at hSw
              go_simp
              all_goals with_reducible rfl
            try simp only [Act.put, List.getElem_toArray, List.getElem_cons_succ, List.getElem_cons_zero, List.setIfInBounds_toArray, List.set_cons_zero, List.set_cons_succ]
            refine wpAnyH_done (by kernel_rfl) ?_ _
            go_wp2_with fail
            go_ret
            exact IsTakes.no HX0.out (by rw [HTOP.out]; exact fun h => by have h2 := (h.2.2.2 HK.out).1; rw [HJ.out] at h2; omega) hB2.drew
        · have hkb : (p.kind == 2) = false := by simp [hk]
          have HK := Lib.hid hk
          clear hk
          have hx5 := hx2
          have hr5 := hr2
          have hp5 := hp2
          have hbase5 := hbase2
          have hB5 := hB2.mono (Nat.le_of_lt hBw0)
          have hK5 : ∀ b, b < w.heap.size → b ≠ B → w2.heap[b]? = w.heap[b]? := fun b hb _ => hB2.block b hb
          obtain ⟨w5, rfl⟩ : ∃ w5 : World, w5 = w2 := ⟨_, rfl⟩
          clear hx2 hp2 hB2 hd2
          obtain ⟨q0, q1, q2, q3, q4, q5, q6⟩ := hp5
          obtain ⟨y0, y1, y2, y3⟩ := hx5.cells
          have f1 := hx5.free 1
          have HX5 := Lib.hid hx5
          have HR5 := Lib.hid hr5
          have HB5 := Lib.hid hB5
          have HK5 := Lib.hid hK5
          have hB5l := hx5.lt
          clear hx5 y0 y2 y3 hB5 hK5
          go_wp2_with fail
          go_upto_region 8 with fail
          go_region_law (refine step_append_lies _ rfl (.tmp 84) (.tmp 86) 22 rfl base 27 i0 (.agg #[.int .i64 0, .int .i64 0, .int .i64 0, .int .i64 0, .int .i64 0, .int .i64 0, .int .i64 0]) 7 56 Tryd.underlying22 hi0 hj0 hj1 hj2 rfl (by decide) (.slice vp n vc) n _ rfl ((hr5.alloc (.cells p.cells 27)).drew) ⟨w5.heap.size, 0, none⟩ 1 1 p.cells.toList rfl rfl (cells_new w5 p _) (cells_one p) (hm := by decide) (h63 := by unfold maxLen; omega) (hbytes := by omega) (hbase := Nat.le_trans hbase5 (by show w5.heap.size ≤ (w5.alloc _).heap.size; simp)) (H := w5.heap.size + 1) (hH := by show (w5.alloc _).heap.size = _; simp) ?_; intro g2 cp2 w6 hown1 hgrow1 hat1 hlt1; have hx6 := ((HX5.out.alloc (.cells p.cells 27)).drew).kept hgrow1 (pown_ne HR5.out hBb); have f6 := hx6.free 1; have z1 := hx6.cells.2.1)
          all_goals (go_wp2_with fail)
          all_goals go_ret
          all_goals
            have hbf := Below_set (((HB5.out.alloc (by omega) (.cells p.cells 27)).drew).grown hgrow1 (by show B ≤ (w5.alloc _).heap.size; rw [World.size_alloc]; omega) (fun i e => by have := (HR5.out.lt i e).1; omega)) (b := B) (i := 1) (Nat.le_refl B) (.slice (some ⟨g2, 0, none⟩) (n + 1) cp2)
            exact ⟨true, rfl, ⟨fun _ => by rw [HTOP.out]; exact ⟨h200, HFM.out, HDAY.out, fun h => absurd h HK.out⟩, fun _ => rfl⟩, hbf, fun _ => ⟨_, (hx6.setV _).congr (fun i _ => by unfold bkNext; rw [if_neg (fun h => HK.out h.1)]), ownsRow_setCell_below hown1 (a := ⟨B, 1, none⟩) hBb _⟩, fun b hb hne ho => (Below.heap_setCell _ _ _ b (fun e => hne (by first | exact e | exact e.symm))).trans ((hgrow1.block b (by show b < (w5.alloc _).heap.size; rw [World.size_alloc]; have := HB5.out.size; omega) ho).trans ((((Below.refl w5.heap.size w5).alloc (Nat.le_refl _) (.cells p.cells 27)).block b (by have := HB5.out.size; omega)).trans (HK5.out b hb hne))), (hx6.setV _).cells.2.2.1⟩
      · obtain ⟨bp, op, rfl, hcs⟩ := HRD.out m (by omega)
        have hc := hcs m (by omega) 1 (by omega)
        have hbl := cell_lt hc
        have HKS := Lib.hid (fun W (hb : Below w1.heap.size w1 W) => (⟨hb, (hb.cell hBw).trans y0, (hb.cell (p := ⟨P, 0, none⟩) hPl).trans q0, (hb.cell (p := ⟨P, 1, none⟩) hPl).trans q1, (hb.cell (p := ⟨P, 2, none⟩) hPl).trans q2, (hb.cell (p := ⟨P, 3, none⟩) hPl).trans q3, (hb.cell (p := ⟨P, 4, none⟩) hPl).trans q4, (hb.cell (p := ⟨P, 5, none⟩) hPl).trans q5, (hb.cell (p := ⟨P, 6, none⟩) hPl).trans q6, (hb.cell (p := ⟨B, 1, none⟩) hBw).trans y1, (hb.cell (p := ⟨bp, op + m * 7 + 1, none⟩) hbl).trans hc⟩ : Below w1.heap.size w1 W ∧ W.cell? ⟨B, 0, none⟩ = some (.int .i64 teams) ∧ W.cell? ⟨P, 0, none⟩ = some (.int .i64 p.kind) ∧ W.cell? ⟨P, 1, none⟩ = some (.int .i64 p.day) ∧ W.cell? ⟨P, 2, none⟩ = some (.int .i64 p.deb) ∧ W.cell? ⟨P, 3, none⟩ = some (.int .i64 p.cre) ∧ W.cell? ⟨P, 4, none⟩ = some (.int .i64 p.amt) ∧ W.cell? ⟨P, 5, none⟩ = some (.int .i64 p.sub) ∧ W.cell? ⟨P, 6, none⟩ = some (.int .i64 p.of) ∧ W.cell? ⟨B, 1, none⟩ = some (.slice (some ⟨bp, op, none⟩) n vc) ∧ W.cell? ⟨bp, op + m * 7 + 1, none⟩ = some (.int .i64 (g m).day)))
        have e1 : decide (0 < (n : Int)) = true := decide_eq_true (by omega)
        have e2 : decide (0 < n) = true := decide_eq_true (by omega)
        have e3 : IntKind.i64.wrap ((n : Int) - 1) = (m : Int) := by rw [IntWalk.i64_in _ (by omega)]; omega
        have v0 : (0 : Int) ≤ (m : Int) := by omega
        have v1 : (m : Int) < (n : Int) := by omega
        obtain ⟨dl, hdl⟩ : ∃ b : Bool, decide (p.day < (g m).day) = b := ⟨_, rfl⟩
        have HN0 := Lib.hid hnm
        have HDL := Lib.hid hdl
        clear hnm q0 q1 q2 q3 q4 q5 q6 hcs hc
        go_wp2_with fail
        refine wp_region_held_drew (S := (fun W => Below w1.heap.size w1 W ∧ W.cell? ⟨B, 0, none⟩ = some (.int .i64 teams) ∧ W.cell? ⟨P, 0, none⟩ = some (.int .i64 p.kind) ∧ W.cell? ⟨P, 1, none⟩ = some (.int .i64 p.day) ∧ W.cell? ⟨P, 2, none⟩ = some (.int .i64 p.deb) ∧ W.cell? ⟨P, 3, none⟩ = some (.int .i64 p.cre) ∧ W.cell? ⟨P, 4, none⟩ = some (.int .i64 p.amt) ∧ W.cell? ⟨P, 5, none⟩ = some (.int .i64 p.sub) ∧ W.cell? ⟨P, 6, none⟩ = some (.int .i64 p.of) ∧ W.cell? ⟨B, 1, none⟩ = some (.slice (some ⟨bp, op, none⟩) n vc) ∧ W.cell? ⟨bp, op + m * 7 + 1, none⟩ = some (.int .i64 (g m).day))) (by kernel_rfl) ?_ (fun hHeld => ?_)
        · exact HKS.out _ (Below.refl _ _).drew
        refine wpAnyH_take (i := 0) (v := ?_) rfl (by kernel_rfl) (by kernel_rfl) (by kernel_rfl) (fun _ _ _ h => h) (Or.inl ⟨by rfl, ?_⟩) (by assumption) ?_
        rotate_left
        · intro w hSw
          try dsimp only at hSw
          go_simp
          all_goals with_reducible rfl
        try simp only [Act.put, List.getElem_toArray, List.getElem_cons_zero, List.setIfInBounds_toArray, List.set_cons_zero, List.set_cons_succ]
        refine wpAnyH_take (i := 1) (v := ?_) rfl (by kernel_rfl) (by kernel_rfl) (by kernel_rfl) (fun _ _ _ h => h) (Or.inl ⟨by rfl, ?_⟩) (by assumption) ?_
        rotate_left
        · intro w hSw
          try dsimp only at hSw
          go_simp
          all_goals with_reducible rfl
        try simp only [Act.put, List.getElem_toArray, List.getElem_cons_succ, List.getElem_cons_zero, List.setIfInBounds_toArray, List.set_cons_zero, List.set_cons_succ]
        refine wpAnyH_take (i := 2) (v := ?_) rfl (by kernel_rfl) (by kernel_rfl) (by kernel_rfl) (fun _ _ _ h => h) (Or.inl ⟨by rfl, ?_⟩) (by assumption) ?_
        rotate_left
        · intro w hSw
          try dsimp only at hSw
          go_simp
          all_goals with_reducible rfl
        try simp only [Act.put, List.getElem_toArray, List.getElem_cons_succ, List.getElem_cons_zero, List.setIfInBounds_toArray, List.set_cons_zero, List.set_cons_succ]
        refine wpAnyH_take (i := 3) (v := ?_) rfl (by kernel_rfl) (by kernel_rfl) (by kernel_rfl) (fun _ _ _ h => h) (Or.inl ⟨by rfl, ?_⟩) (by assumption) ?_
        rotate_left
        · intro w hSw
          try dsimp only at hSw
          go_simp
          all_goals with_reducible rfl
        try simp only [Act.put, List.getElem_toArray, List.getElem_cons_succ, List.getElem_cons_zero, List.setIfInBounds_toArray, List.set_cons_zero, List.set_cons_succ]
        refine wpAnyH_take (i := 4) (v := ?_) rfl (by kernel_rfl) (by kernel_rfl) (by kernel_rfl) (fun _ _ _ h => h) (Or.inl ⟨by rfl, ?_⟩) (by assumption) ?_
        rotate_left
        · intro w hSw
          try dsimp only at hSw
          go_simp
          all_goals with_reducible rfl
        try simp only [Act.put, List.getElem_toArray, List.getElem_cons_succ, List.getElem_cons_zero, List.setIfInBounds_toArray, List.set_cons_zero, List.set_cons_succ]
        refine wpAnyH_take (i := 5) (v := ?_) rfl (by kernel_rfl) (by kernel_rfl) (by kernel_rfl) (fun _ _ _ h => h) (Or.inl ⟨by rfl, ?_⟩) (by assumption) ?_
        rotate_left
        · intro w hSw
          try dsimp only at hSw
          go_simp
          all_goals with_reducible rfl
        try simp only [Act.put, List.getElem_toArray, List.getElem_cons_succ, List.getElem_cons_zero, List.setIfInBounds_toArray, List.set_cons_zero, List.set_cons_succ]
        refine wpAnyH_take (i := 6) (v := ?_) rfl (by kernel_rfl) (by kernel_rfl) (by kernel_rfl) (fun _ _ _ h => h) (Or.inl ⟨by rfl, ?_⟩) (by assumption) ?_
        rotate_left
        · intro w hSw
          try dsimp only at hSw
          go_simp
          all_goals with_reducible rfl
        try simp only [Act.put, List.getElem_toArray, List.getElem_cons_succ, List.getElem_cons_zero, List.setIfInBounds_toArray, List.set_cons_zero, List.set_cons_succ]
        refine wpAnyH_take (i := 7) (v := ?_) rfl (by kernel_rfl) (by kernel_rfl) (by kernel_rfl) (fun _ _ _ h => h) (Or.inl ⟨by rfl, ?_⟩) (by assumption) ?_
        rotate_left
        · intro w hSw
          try dsimp only at hSw
          go_simp
          all_goals with_reducible rfl
        try simp only [Act.put, List.getElem_toArray, List.getElem_cons_succ, List.getElem_cons_zero, List.setIfInBounds_toArray, List.set_cons_zero, List.set_cons_succ]
        refine wpAnyH_take (i := 8) (v := ?_) rfl (by kernel_rfl) (by kernel_rfl) (by kernel_rfl) (fun _ _ _ h => h) (Or.inl ⟨by rfl, ?_⟩) (by assumption) ?_
        rotate_left
        · intro w hSw
          try dsimp only at hSw
          go_simp
          all_goals with_reducible rfl
        try simp only [Act.put, List.getElem_toArray, List.getElem_cons_succ, List.getElem_cons_zero, List.setIfInBounds_toArray, List.set_cons_zero, List.set_cons_succ]
        refine wpAnyH_ready (rs := [9]) (by kernel_rfl) (by simp) ?_
        refine AllReadyH.cons rfl (fun K hK => ?_) AllReadyH.nil
        go_simp
        go_at_call 63; refine (HFC.out _ hHeld.1).mono ?_; rintro e w' ⟨rfl, hb'⟩
        refine hK.out _ _ ?_ (fun hHeld2 => ?_)
        · exact HKS.out _ hb'
        clear hK K hHeld
        rename_i hHeld
        try simp only [Act.put, List.getElem_toArray, List.getElem_cons_succ, List.getElem_cons_zero, List.setIfInBounds_toArray, List.set_cons_zero, List.set_cons_succ]
        refine wpAnyH_take (i := 10) (v := ?_) rfl (by kernel_rfl) (by kernel_rfl) (by kernel_rfl) (fun _ _ _ h => h) (Or.inl ⟨by rfl, ?_⟩) (by assumption) ?_
        rotate_left
        · intro w hSw
          try dsimp only at hSw
          go_simp
          all_goals with_reducible rfl
        try simp only [Act.put, List.getElem_toArray, List.getElem_cons_succ, List.getElem_cons_zero, List.setIfInBounds_toArray, List.set_cons_zero, List.set_cons_succ]
        refine wpAnyH_take (i := 11) (v := ?_) rfl (by kernel_rfl) (by kernel_rfl) (by kernel_rfl) (fun _ _ _ h => h) (Or.inl ⟨by rfl, ?_⟩) (by assumption) ?_
        rotate_left
        · intro w hSw
          try dsimp only at hSw
          go_simp
          all_goals with_reducible rfl
        try simp only [Act.put, List.getElem_toArray, List.getElem_cons_succ, List.getElem_cons_zero, List.setIfInBounds_toArray, List.set_cons_zero, List.set_cons_succ]
        refine wpAnyH_take (i := 12) (v := ?_) rfl (by kernel_rfl) (by kernel_rfl) (by kernel_rfl) (fun _ _ _ h => h) (Or.inl ⟨by rfl, ?_⟩) (by assumption) ?_
        rotate_left
        · intro w hSw
          try dsimp only at hSw
          go_simp
          all_goals with_reducible rfl
        try simp only [Act.put, List.getElem_toArray, List.getElem_cons_succ, List.getElem_cons_zero, List.setIfInBounds_toArray, List.set_cons_zero, List.set_cons_succ]
        refine wpAnyH_take (i := 13) (v := ?_) rfl (by kernel_rfl) (by kernel_rfl) (by kernel_rfl) (fun _ _ _ h => h) (Or.inl ⟨by rfl, ?_⟩) (by assumption) ?_
        rotate_left
        · intro w hSw
          try dsimp only at hSw
          go_simp
          all_goals with_reducible rfl
        try simp only [Act.put, List.getElem_toArray, List.getElem_cons_succ, List.getElem_cons_zero, List.setIfInBounds_toArray, List.set_cons_zero, List.set_cons_succ]
        refine wpAnyH_take (i := 14) (v := ?_) rfl (by kernel_rfl) (by kernel_rfl) (by kernel_rfl) (fun _ _ _ h => h) (Or.inl ⟨by rfl, ?_⟩) (by assumption) ?_
        rotate_left
        · intro w hSw
          try dsimp only at hSw
          go_simp
          all_goals with_reducible rfl
        try simp only [Act.put, List.getElem_toArray, List.getElem_cons_succ, List.getElem_cons_zero, List.setIfInBounds_toArray, List.set_cons_zero, List.set_cons_succ]
        refine wpAnyH_take (i := 15) (v := ?_) rfl (by kernel_rfl) (by kernel_rfl) (by kernel_rfl) (fun _ _ _ h => h) (Or.inl ⟨by rfl, ?_⟩) (by assumption) ?_
        rotate_left
        · intro w hSw
          try dsimp only at hSw
          go_simp
          all_goals with_reducible rfl
        try simp only [Act.put, List.getElem_toArray, List.getElem_cons_succ, List.getElem_cons_zero, List.setIfInBounds_toArray, List.set_cons_zero, List.set_cons_succ]
        refine wpAnyH_take (i := 16) (v := ?_) rfl (by kernel_rfl) (by kernel_rfl) (by kernel_rfl) (fun _ _ _ h => h) (Or.inl ⟨by rfl, ?_⟩) (by assumption) ?_
        rotate_left
        · intro w hSw
          try dsimp only at hSw
          go_simp
          all_goals with_reducible rfl
        try simp only [Act.put, List.getElem_toArray, List.getElem_cons_succ, List.getElem_cons_zero, List.setIfInBounds_toArray, List.set_cons_zero, List.set_cons_succ]
        refine wpAnyH_take (i := 17) (v := ?_) rfl (by kernel_rfl) (by kernel_rfl) (by kernel_rfl) (fun _ _ _ h => h) (Or.inl ⟨by rfl, ?_⟩) (by assumption) ?_
        rotate_left
        · intro w hSw
          try dsimp only at hSw
          go_simp
          all_goals with_reducible rfl
        try simp only [Act.put, List.getElem_toArray, List.getElem_cons_succ, List.getElem_cons_zero, List.setIfInBounds_toArray, List.set_cons_zero, List.set_cons_succ]
        refine wpAnyH_take (i := 18) (v := ?_) rfl (by kernel_rfl) (by kernel_rfl) (by kernel_rfl) (fun _ _ _ h => h) (Or.inl ⟨by rfl, ?_⟩) (by assumption) ?_
        rotate_left
        · intro w hSw
          try dsimp only at hSw
          go_simp
          all_goals with_reducible rfl
        try simp only [Act.put, List.getElem_toArray, List.getElem_cons_succ, List.getElem_cons_zero, List.setIfInBounds_toArray, List.set_cons_zero, List.set_cons_succ]
        refine wpAnyH_take (i := 19) (v := ?_) rfl (by kernel_rfl) (by kernel_rfl) (by kernel_rfl) (fun _ _ _ h => h) (Or.inl ⟨by rfl, ?_⟩) (by assumption) ?_
        rotate_left
        · intro w hSw
          try dsimp only at hSw
          go_simp
          all_goals with_reducible rfl
        try simp only [Act.put, List.getElem_toArray, List.getElem_cons_succ, List.getElem_cons_zero, List.setIfInBounds_toArray, List.set_cons_zero, List.set_cons_succ]
        refine wpAnyH_take (i := 20) (v := ?_) rfl (by kernel_rfl) (by kernel_rfl) (by kernel_rfl) (fun _ _ _ h => h) (Or.inl ⟨by rfl, ?_⟩) (by assumption) ?_
        rotate_left
        · intro w hSw
          try dsimp only at hSw
          go_simp
          all_goals with_reducible rfl
        try simp only [Act.put, List.getElem_toArray, List.getElem_cons_succ, List.getElem_cons_zero, List.setIfInBounds_toArray, List.set_cons_zero, List.set_cons_succ]
        refine wpAnyH_take (i := 21) (v := ?_) rfl (by kernel_rfl) (by kernel_rfl) (by kernel_rfl) (fun _ _ _ h => h) (Or.inl ⟨by rfl, ?_⟩) (by assumption) ?_
        rotate_left
        · intro w hSw
          try dsimp only at hSw
          go_simp
          all_goals with_reducible rfl
        try simp only [Act.put, List.getElem_toArray, List.getElem_cons_succ, List.getElem_cons_zero, List.setIfInBounds_toArray, List.set_cons_zero, List.set_cons_succ]
        refine wpAnyH_take (i := 22) (v := ?_) rfl (by kernel_rfl) (by kernel_rfl) (by kernel_rfl) (fun _ _ _ h => h) (Or.inl ⟨by rfl, ?_⟩) (by assumption) ?_
        rotate_left
        · intro w hSw
          try dsimp only at hSw
          go_simp
          all_goals with_reducible rfl
        try simp only [Act.put, List.getElem_toArray, List.getElem_cons_succ, List.getElem_cons_zero, List.setIfInBounds_toArray, List.set_cons_zero, List.set_cons_succ]
        refine wpAnyH_take (i := 23) (v := ?_) rfl (by kernel_rfl) (by kernel_rfl) (by kernel_rfl) (fun _ _ _ h => h) (Or.inl ⟨by rfl, ?_⟩) (by assumption) ?_
        rotate_left
        · intro w hSw
          try dsimp only at hSw
          go_simp
          all_goals with_reducible rfl
        try simp only [Act.put, List.getElem_toArray, List.getElem_cons_succ, List.getElem_cons_zero, List.setIfInBounds_toArray, List.set_cons_zero, List.set_cons_succ]
        refine wpAnyH_take (i := 24) (v := ?_) rfl (by kernel_rfl) (by kernel_rfl) (by kernel_rfl) (fun _ _ _ h => h) (Or.inl ⟨by rfl, ?_⟩) (by assumption) ?_
        rotate_left
        · intro w hSw
          try dsimp only at hSw
          go_simp
          all_goals with_reducible rfl
        try simp only [Act.put, List.getElem_toArray, List.getElem_cons_succ, List.getElem_cons_zero, List.setIfInBounds_toArray, List.set_cons_zero, List.set_cons_succ]
        refine wpAnyH_take (i := 25) (v := ?_) rfl (by kernel_rfl) (by kernel_rfl) (by kernel_rfl) (fun _ _ _ h => h) (Or.inl ⟨by rfl, ?_⟩) (by assumption) ?_
        rotate_left
        · intro w hSw
          try dsimp only at hSw
          go_simp
          all_goals with_reducible rfl
        try simp only [Act.put, List.getElem_toArray, List.getElem_cons_succ, List.getElem_cons_zero, List.setIfInBounds_toArray, List.set_cons_zero, List.set_cons_succ]
        refine wpAnyH_take (i := 26) (v := ?_) rfl (by kernel_rfl) (by kernel_rfl) (by kernel_rfl) (fun _ _ _ h => h) (Or.inl ⟨by rfl, ?_⟩) (by assumption) ?_
        rotate_left
        · intro w hSw
          try dsimp only at hSw
          go_simp
          all_goals with_reducible rfl
        try simp only [Act.put, List.getElem_toArray, List.getElem_cons_succ, List.getElem_cons_zero, List.setIfInBounds_toArray, List.set_cons_zero, List.set_cons_succ]
        refine wpAnyH_take (i := 27) (v := ?_) rfl (by kernel_rfl) (by kernel_rfl) (by kernel_rfl) (fun _ _ _ h => h) (Or.inl ⟨by rfl, ?_⟩) (by assumption) ?_
        rotate_left
        · intro w hSw
          try dsimp only at hSw
          go_simp
          all_goals with_reducible rfl
        try simp only [Act.put, List.getElem_toArray, List.getElem_cons_succ, List.getElem_cons_zero, List.setIfInBounds_toArray, List.set_cons_zero, List.set_cons_succ]
        refine wpAnyH_take (i := 28) (v := ?_) rfl (by kernel_rfl) (by kernel_rfl) (by kernel_rfl) (fun _ _ _ h => h) (Or.inl ⟨by rfl, ?_⟩) (by assumption) ?_
        rotate_left
        · intro w hSw
          try dsimp only at hSw
          go_simp
          all_goals with_reducible rfl
        try simp only [Act.put, List.getElem_toArray, List.getElem_cons_succ, List.getElem_cons_zero, List.setIfInBounds_toArray, List.set_cons_zero, List.set_cons_succ]
        refine wpAnyH_take (i := 29) (v := ?_) rfl (by kernel_rfl) (by kernel_rfl) (by kernel_rfl) (fun _ _ _ h => h) (Or.inl ⟨by rfl, ?_⟩) (by assumption) ?_
        rotate_left
        · intro w hSw
          try dsimp only at hSw
          go_simp
          all_goals with_reducible rfl
        try simp only [Act.put, List.getElem_toArray, List.getElem_cons_succ, List.getElem_cons_zero, List.setIfInBounds_toArray, List.set_cons_zero, List.set_cons_succ]
        refine wpAnyH_take (i := 30) (v := ?_) rfl (by kernel_rfl) (by kernel_rfl) (by kernel_rfl) (fun _ _ _ h => h) (Or.inl ⟨by rfl, ?_⟩) (by assumption) ?_
        rotate_left
        · intro w hSw
          try dsimp only at hSw
          go_simp
          all_goals with_reducible rfl
        try simp only [Act.put, List.getElem_toArray, List.getElem_cons_succ, List.getElem_cons_zero, List.setIfInBounds_toArray, List.set_cons_zero, List.set_cons_succ]
        refine wpAnyH_done (by kernel_rfl) ?_ _
        cases dl with
        | true =>
          go_wp2_with fail
          go_ret
          exact IsTakes.no HX0.out (by rw [HTOP.out]; exact day_no HN0.out HDL.out) (HB.out.trans (hb'.mono HB.out.size))
        | false =>
          have HDAY : Hid (0 < n → (g (n - 1)).day ≤ p.day) := Lib.hid (fun _ => by have := of_decide_eq_false HDL.out; rw [show n - 1 = m by have := HN0.out; omega]; omega)
          clear e1 e2 e3 v0 v1 y0 y1 y2 hbl hdl
          obtain ⟨w2, rfl⟩ : ∃ w2 : World, w2 = w' := ⟨_, rfl⟩
          have hB2 := HB.out.trans (hb'.mono HB.out.size)
          have hx2 := HX.out.below hb'
          have hr2 := ownP_below HROW.out hb'
          have hd2 := HRD.out.below hb'
          have hp2 := HPC.out.below hb'
          have hBw2 := hx2.lt
          have hBw0 := HX0.out.lt
          have hPw : P < w2.heap.size := cell_lt hp2.1
          have hbase2 : base ≤ w2.heap.size := Nat.le_trans hbw1 hb'.size
          clear HKS HFC hb'
          by_cases hk : p.kind = 2
          · have hkb : (p.kind == 2) = true := by simp [hk]
            have HK := Lib.hid hk
            have hof : within p.of 0 199 := by
              rcases HFM.out.2.2.2.2.2.2 with h | h
              · omega
              · exact h.2
            obtain ⟨j, hj⟩ : ∃ j : Nat, p.of = (j : Int) := ⟨p.of.toNat, by unfold within at hof; omega⟩
            have hj199 : j < 200 := by unfold within at hof; omega
            have HJ := Lib.hid hj
            have hjn : p.of.toNat = j := by omega
            have HJN := Lib.hid hjn
            obtain ⟨q0, q1, q2, q3, q4, q5, q6⟩ := hp2
            rw [hj] at q6
            clear hk hof hj hjn
            have v0 : (0 : Int) ≤ (j : Int) := by omega
            have v1 : (j : Int) < 200 := by omega
            by_cases hjlt : j < n
            · have e3 : decide ((n : Int) ≤ (j : Int)) = false := decide_eq_false (by omega)
              have e4 : decide (n ≤ j) = false := decide_eq_false (by omega)
              have v2 : (j : Int) < (n : Int) := by omega
              obtain ⟨y0, y1, y2, y3⟩ := hx2.cells
              have yj := y3 j hj199
              cases hbj : bk j with
              | true =>
                rw [hbj] at yj
                have HBJ := Lib.hid hbj
                have HKS2 := Lib.hid (fun W (hb : Below w2.heap.size w2 W) => (⟨hb, (hb.cell (p := ⟨P, 0, none⟩) hPw).trans q0, (hb.cell (p := ⟨P, 1, none⟩) hPw).trans q1, (hb.cell (p := ⟨P, 2, none⟩) hPw).trans q2, (hb.cell (p := ⟨P, 3, none⟩) hPw).trans q3, (hb.cell (p := ⟨P, 4, none⟩) hPw).trans q4, (hb.cell (p := ⟨P, 5, none⟩) hPw).trans q5, (hb.cell (p := ⟨P, 6, none⟩) hPw).trans q6, (hb.cell (p := ⟨B, 3 + j, none⟩) hBw2).trans yj⟩ : Below w2.heap.size w2 W ∧ W.cell? ⟨P, 0, none⟩ = some (.int .i64 p.kind) ∧ W.cell? ⟨P, 1, none⟩ = some (.int .i64 p.day) ∧ W.cell? ⟨P, 2, none⟩ = some (.int .i64 p.deb) ∧ W.cell? ⟨P, 3, none⟩ = some (.int .i64 p.cre) ∧ W.cell? ⟨P, 4, none⟩ = some (.int .i64 p.amt) ∧ W.cell? ⟨P, 5, none⟩ = some (.int .i64 p.sub) ∧ W.cell? ⟨P, 6, none⟩ = some (.int .i64 (j : Int)) ∧ W.cell? ⟨B, 3 + j, none⟩ = some (.bool true)))
                clear hbj y3
                go_wp2_with fail
                refine wp_region_held_drew (S := (fun W => Below w2.heap.size w2 W ∧ W.cell? ⟨P, 0, none⟩ = some (.int .i64 p.kind) ∧ W.cell? ⟨P, 1, none⟩ = some (.int .i64 p.day) ∧ W.cell? ⟨P, 2, none⟩ = some (.int .i64 p.deb) ∧ W.cell? ⟨P, 3, none⟩ = some (.int .i64 p.cre) ∧ W.cell? ⟨P, 4, none⟩ = some (.int .i64 p.amt) ∧ W.cell? ⟨P, 5, none⟩ = some (.int .i64 p.sub) ∧ W.cell? ⟨P, 6, none⟩ = some (.int .i64 (j : Int)) ∧ W.cell? ⟨B, 3 + j, none⟩ = some (.bool true))) (by kernel_rfl) ?_ (fun hHeld => ?_)
                · exact HKS2.out _ (Below.refl _ _).drew
                refine wpAnyH_take (i := 0) (v := ?_) rfl (by kernel_rfl) (by kernel_rfl) (by kernel_rfl) (fun _ _ _ h => h) (Or.inl ⟨by rfl, ?_⟩) (by assumption) ?_
                rotate_left
                · intro w hSw
                  try dsimp only at hSw
                  go_simp
                  all_goals with_reducible rfl
                try simp only [Act.put, List.getElem_toArray, List.getElem_cons_zero, List.setIfInBounds_toArray, List.set_cons_zero, List.set_cons_succ]
                refine wpAnyH_take (i := 1) (v := ?_) rfl (by kernel_rfl) (by kernel_rfl) (by kernel_rfl) (fun _ _ _ h => h) (Or.inl ⟨by rfl, ?_⟩) (by assumption) ?_
                rotate_left
                · intro w hSw
                  try dsimp only at hSw
                  go_simp
                  all_goals with_reducible rfl
                try simp only [Act.put, List.getElem_toArray, List.getElem_cons_succ, List.getElem_cons_zero, List.setIfInBounds_toArray, List.set_cons_zero, List.set_cons_succ]
                refine wpAnyH_take (i := 2) (v := ?_) rfl (by kernel_rfl) (by kernel_rfl) (by kernel_rfl) (fun _ _ _ h => h) (Or.inl ⟨by rfl, ?_⟩) (by assumption) ?_
                rotate_left
                · intro w hSw
                  try dsimp only at hSw
                  go_simp
                  all_goals with_reducible rfl
                try simp only [Act.put, List.getElem_toArray, List.getElem_cons_succ, List.getElem_cons_zero, List.setIfInBounds_toArray, List.set_cons_zero, List.set_cons_succ]
                refine wpAnyH_take (i := 3) (v := ?_) rfl (by kernel_rfl) (by kernel_rfl) (by kernel_rfl) (fun _ _ _ h => h) (Or.inl ⟨by rfl, ?_⟩) (by assumption) ?_
                rotate_left
                · intro w hSw
                  try dsimp only at hSw
                  go_simp
                  all_goals with_reducible rfl
                try simp only [Act.put, List.getElem_toArray, List.getElem_cons_succ, List.getElem_cons_zero, List.setIfInBounds_toArray, List.set_cons_zero, List.set_cons_succ]
                refine wpAnyH_take (i := 4) (v := ?_) rfl (by kernel_rfl) (by kernel_rfl) (by kernel_rfl) (fun _ _ _ h => h) (Or.inl ⟨by rfl, ?_⟩) (by assumption) ?_
                rotate_left
                · intro w hSw
                  try dsimp only at hSw
                  go_simp
                  all_goals with_reducible rfl
                try simp only [Act.put, List.getElem_toArray, List.getElem_cons_succ, List.getElem_cons_zero, List.setIfInBounds_toArray, List.set_cons_zero, List.set_cons_succ]
                refine wpAnyH_take (i := 5) (v := ?_) rfl (by kernel_rfl) (by kernel_rfl) (by kernel_rfl) (fun _ _ _ h => h) (Or.inl ⟨by rfl, ?_⟩) (by assumption) ?_
                rotate_left
                · intro w hSw
                  try dsimp only at hSw
                  go_simp
                  all_goals with_reducible rfl
                try simp only [Act.put, List.getElem_toArray, List.getElem_cons_succ, List.getElem_cons_zero, List.setIfInBounds_toArray, List.set_cons_zero, List.set_cons_succ]
                refine wpAnyH_take (i := 6) (v := ?_) rfl (by kernel_rfl) (by kernel_rfl) (by kernel_rfl) (fun _ _ _ h => h) (Or.inl ⟨by rfl, ?_⟩) (by assumption) ?_
                rotate_left
                · intro w hSw
                  try dsimp only at hSw
                  go_simp
                  all_goals with_reducible rfl
                try simp only [Act.put, List.getElem_toArray, List.getElem_cons_succ, List.getElem_cons_zero, List.setIfInBounds_toArray, List.set_cons_zero, List.set_cons_succ]
                refine wpAnyH_take (i := 7) (v := ?_) rfl (by kernel_rfl) (by kernel_rfl) (by kernel_rfl) (fun _ _ _ h => h) (Or.inl ⟨by rfl, ?_⟩) (by assumption) ?_
                rotate_left
                · intro w hSw
                  try dsimp only at hSw
                  go_simp
                  all_goals with_reducible rfl
                try simp only [Act.put, List.getElem_toArray, List.getElem_cons_succ, List.getElem_cons_zero, List.setIfInBounds_toArray, List.set_cons_zero, List.set_cons_succ]
                refine wpAnyH_take (i := 8) (v := ?_) rfl (by kernel_rfl) (by kernel_rfl) (by kernel_rfl) (fun _ _ _ h => h) (Or.inl ⟨by rfl, ?_⟩) (by assumption) ?_
                rotate_left
                · intro w hSw
                  try dsimp only at hSw
                  go_simp
                  all_goals with_reducible rfl
                try simp only [Act.put, List.getElem_toArray, List.getElem_cons_succ, List.getElem_cons_zero, List.setIfInBounds_toArray, List.set_cons_zero, List.set_cons_succ]
                refine wpAnyH_take (i := 9) (v := ?_) rfl (by kernel_rfl) (by kernel_rfl) (by kernel_rfl) (fun _ _ _ h => h) (Or.inl ⟨by rfl, ?_⟩) (by assumption) ?_
                rotate_left
                · intro w hSw
                  try dsimp only at hSw
                  go_simp
                  all_goals with_reducible rfl
                try simp only [Act.put, List.getElem_toArray, List.getElem_cons_succ, List.getElem_cons_zero, List.setIfInBounds_toArray, List.set_cons_zero, List.set_cons_succ]
                refine wpAnyH_take (i := 10) (v := ?_) rfl (by kernel_rfl) (by kernel_rfl) (by kernel_rfl) (fun _ _ _ h => h) (Or.inl ⟨by rfl, ?_⟩) (by assumption) ?_
                rotate_left
                · intro w hSw
                  try dsimp only at hSw
                  go_simp
                  all_goals with_reducible rfl
                try simp only [Act.put, List.getElem_toArray, List.getElem_cons_succ, List.getElem_cons_zero, List.setIfInBounds_toArray, List.set_cons_zero, List.set_cons_succ]
                refine wpAnyH_take (i := 11) (v := ?_) rfl (by kernel_rfl) (by kernel_rfl) (by kernel_rfl) (fun _ _ _ h => h) (Or.inl ⟨by rfl, ?_⟩) (by assumption) ?_
                rotate_left
                · intro w hSw
                  try dsimp only at hSw
                  go_simp
                  all_goals with_reducible rfl
                try simp only [Act.put, List.getElem_toArray, List.getElem_cons_succ, List.getElem_cons_zero, List.setIfInBounds_toArray, List.set_cons_zero, List.set_cons_succ]
                refine wpAnyH_take (i := 12) (v := ?_) rfl (by kernel_rfl) (by kernel_rfl) (by kernel_rfl) (fun _ _ _ h => h) (Or.inl ⟨by rfl, ?_⟩) (by assumption) ?_
                rotate_left
                · intro w hSw
                  try dsimp only at hSw
                  go_simp
                  all_goals with_reducible rfl
                try simp only [Act.put, List.getElem_toArray, List.getElem_cons_succ, List.getElem_cons_zero, List.setIfInBounds_toArray, List.set_cons_zero, List.set_cons_succ]
                refine wpAnyH_take (i := 13) (v := ?_) rfl (by kernel_rfl) (by kernel_rfl) (by kernel_rfl) (fun _ _ _ h => h) (Or.inl ⟨by rfl, ?_⟩) (by assumption) ?_
                rotate_left
                · intro w hSw
                  try dsimp only at hSw
                  go_simp
                  all_goals with_reducible rfl
                try simp only [Act.put, List.getElem_toArray, List.getElem_cons_succ, List.getElem_cons_zero, List.setIfInBounds_toArray, List.set_cons_zero, List.set_cons_succ]
                refine wpAnyH_take (i := 14) (v := undef) rfl (by kernel_rfl) (by kernel_rfl) (by kernel_rfl) (fun _ _ _ h => h) (Or.inr ⟨by rfl, rfl⟩) (by assumption) ?_
                try simp only [Act.put, List.getElem_toArray, List.getElem_cons_succ, List.getElem_cons_zero, List.setIfInBounds_toArray, List.set_cons_zero, List.set_cons_succ]
                refine wpAnyH_take (i := 15) (v := undef) rfl (by kernel_rfl) (by kernel_rfl) (by kernel_rfl) (fun _ _ _ h => h) (Or.inr ⟨by rfl, rfl⟩) (by assumption) ?_
                try simp only [Act.put, List.getElem_toArray, List.getElem_cons_succ, List.getElem_cons_zero, List.setIfInBounds_toArray, List.set_cons_zero, List.set_cons_succ]
                refine wpAnyH_take (i := 16) (v := undef) rfl (by kernel_rfl) (by kernel_rfl) (by kernel_rfl) (fun _ _ _ h => h) (Or.inr ⟨by rfl, rfl⟩) (by assumption) ?_
                try simp only [Act.put, List.getElem_toArray, List.getElem_cons_succ, List.getElem_cons_zero, List.setIfInBounds_toArray, List.set_cons_zero, List.set_cons_succ]
                refine wpAnyH_take (i := 17) (v := undef) rfl (by kernel_rfl) (by kernel_rfl) (by kernel_rfl) (fun _ _ _ h => h) (Or.inr ⟨by rfl, rfl⟩) (by assumption) ?_
                try simp only [Act.put, List.getElem_toArray, List.getElem_cons_succ, List.getElem_cons_zero, List.setIfInBounds_toArray, List.set_cons_zero, List.set_cons_succ]
                refine wpAnyH_take (i := 18) (v := undef) rfl (by kernel_rfl) (by kernel_rfl) (by kernel_rfl) (fun _ _ _ h => h) (Or.inr ⟨by rfl, rfl⟩) (by assumption) ?_
                try simp only [Act.put, List.getElem_toArray, List.getElem_cons_succ, List.getElem_cons_zero, List.setIfInBounds_toArray, List.set_cons_zero, List.set_cons_succ]
                refine wpAnyH_take (i := 19) (v := undef) rfl (by kernel_rfl) (by kernel_rfl) (by kernel_rfl) (fun _ _ _ h => h) (Or.inr ⟨by rfl, rfl⟩) (by assumption) ?_
                try simp only [Act.put, List.getElem_toArray, List.getElem_cons_succ, List.getElem_cons_zero, List.setIfInBounds_toArray, List.set_cons_zero, List.set_cons_succ]
                refine wpAnyH_take (i := 20) (v := undef) rfl (by kernel_rfl) (by kernel_rfl) (by kernel_rfl) (fun _ _ _ h => h) (Or.inr ⟨by rfl, rfl⟩) (by assumption) ?_
                try simp only [Act.put, List.getElem_toArray, List.getElem_cons_succ, List.getElem_cons_zero, List.setIfInBounds_toArray, List.set_cons_zero, List.set_cons_succ]
                refine wpAnyH_take (i := 21) (v := undef) rfl (by kernel_rfl) (by kernel_rfl) (by kernel_rfl) (fun _ _ _ h => h) (Or.inr ⟨by rfl, rfl⟩) (by assumption) ?_
                try simp only [Act.put, List.getElem_toArray, List.getElem_cons_succ, List.getElem_cons_zero, List.setIfInBounds_toArray, List.set_cons_zero, List.set_cons_succ]
                refine wpAnyH_take (i := 22) (v := undef) rfl (by kernel_rfl) (by kernel_rfl) (by kernel_rfl) (fun _ _ _ h => h) (Or.inr ⟨by rfl, rfl⟩) (by assumption) ?_
                try simp only [Act.put, List.getElem_toArray, List.getElem_cons_succ, List.getElem_cons_zero, List.setIfInBounds_toArray, List.set_cons_zero, List.set_cons_succ]
                refine wpAnyH_take (i := 23) (v := undef) rfl (by kernel_rfl) (by kernel_rfl) (by kernel_rfl) (fun _ _ _ h => h) (Or.inr ⟨by rfl, rfl⟩) (by assumption) ?_
                try simp only [Act.put, List.getElem_toArray, List.getElem_cons_succ, List.getElem_cons_zero, List.setIfInBounds_toArray, List.set_cons_zero, List.set_cons_succ]
                refine wpAnyH_take (i := 24) (v := undef) rfl (by kernel_rfl) (by kernel_rfl) (by kernel_rfl) (fun _ _ _ h => h) (Or.inr ⟨by rfl, rfl⟩) (by assumption) ?_
                try simp only [Act.put, List.getElem_toArray, List.getElem_cons_succ, List.getElem_cons_zero, List.setIfInBounds_toArray, List.set_cons_zero, List.set_cons_succ]
                refine wpAnyH_take (i := 25) (v := undef) rfl (by kernel_rfl) (by kernel_rfl) (by kernel_rfl) (fun _ _ _ h => h) (Or.inr ⟨by rfl, rfl⟩) (by assumption) ?_
                try simp only [Act.put, List.getElem_toArray, List.getElem_cons_succ, List.getElem_cons_zero, List.setIfInBounds_toArray, List.set_cons_zero, List.set_cons_succ]
                refine wpAnyH_take (i := 26) (v := ?_) rfl (by kernel_rfl) (by kernel_rfl) (by kernel_rfl) (fun _ _ _ h => h) (Or.inl ⟨by rfl, ?_⟩) (by assumption) ?_
                rotate_left
                · intro w hSw
                  try dsimp only at hSw
                  go_simp
                  all_goals with_reducible rfl
                try simp only [Act.put, List.getElem_toArray, List.getElem_cons_succ, List.getElem_cons_zero, List.setIfInBounds_toArray, List.set_cons_zero, List.set_cons_succ]
                refine wpAnyH_done (by kernel_rfl) ?_ _
                go_wp2_with fail
                go_ret
                exact IsTakes.no HX0.out (by rw [HTOP.out]; exact fun h => by have h2 := (h.2.2.2 HK.out).2.1; rw [HJN.out, HBJ.out] at h2; cases h2) hB2.drew
              | false =>
                rw [hbj] at yj
                have HBJ := Lib.hid hbj
                obtain ⟨bp2, op2, he, hcs⟩ := hd2 j hjlt
                cases he
                obtain ⟨c0, c1, c2, c3, c4, c5, c6⟩ := pcells_of (hcs j hjlt)
                have hbl := cell_lt c0
                have HKS2 := Lib.hid (fun W (hb : Below w2.heap.size w2 W) => (⟨hb, (hb.cell (p := ⟨P, 0, none⟩) hPw).trans q0, (hb.cell (p := ⟨P, 1, none⟩) hPw).trans q1, (hb.cell (p := ⟨P, 2, none⟩) hPw).trans q2, (hb.cell (p := ⟨P, 3, none⟩) hPw).trans q3, (hb.cell (p := ⟨P, 4, none⟩) hPw).trans q4, (hb.cell (p := ⟨P, 5, none⟩) hPw).trans q5, (hb.cell (p := ⟨P, 6, none⟩) hPw).trans q6, (hb.cell (p := ⟨B, 3 + j, none⟩) hBw2).trans yj, (hb.cell (p := ⟨B, 1, none⟩) hBw2).trans y1, (hb.cell (p := ⟨bp, op + j * 7, none⟩) hbl).trans c0, (hb.cell (p := ⟨bp, op + j * 7 + 1, none⟩) hbl).trans c1, (hb.cell (p := ⟨bp, op + j * 7 + 2, none⟩) hbl).trans c2, (hb.cell (p := ⟨bp, op + j * 7 + 3, none⟩) hbl).trans c3, (hb.cell (p := ⟨bp, op + j * 7 + 4, none⟩) hbl).trans c4, (hb.cell (p := ⟨bp, op + j * 7 + 5, none⟩) hbl).trans c5, (hb.cell (p := ⟨bp, op + j * 7 + 6, none⟩) hbl).trans c6⟩ : Below w2.heap.size w2 W ∧ W.cell? ⟨P, 0, none⟩ = some (.int .i64 p.kind) ∧ W.cell? ⟨P, 1, none⟩ = some (.int .i64 p.day) ∧ W.cell? ⟨P, 2, none⟩ = some (.int .i64 p.deb) ∧ W.cell? ⟨P, 3, none⟩ = some (.int .i64 p.cre) ∧ W.cell? ⟨P, 4, none⟩ = some (.int .i64 p.amt) ∧ W.cell? ⟨P, 5, none⟩ = some (.int .i64 p.sub) ∧ W.cell? ⟨P, 6, none⟩ = some (.int .i64 (j : Int)) ∧ W.cell? ⟨B, 3 + j, none⟩ = some (.bool false) ∧ W.cell? ⟨B, 1, none⟩ = some (.slice (some ⟨bp, op, none⟩) n vc) ∧ W.cell? ⟨bp, op + j * 7, none⟩ = some (.int .i64 (g j).kind) ∧ W.cell? ⟨bp, op + j * 7 + 1, none⟩ = some (.int .i64 (g j).day) ∧ W.cell? ⟨bp, op + j * 7 + 2, none⟩ = some (.int .i64 (g j).deb) ∧ W.cell? ⟨bp, op + j * 7 + 3, none⟩ = some (.int .i64 (g j).cre) ∧ W.cell? ⟨bp, op + j * 7 + 4, none⟩ = some (.int .i64 (g j).amt) ∧ W.cell? ⟨bp, op + j * 7 + 5, none⟩ = some (.int .i64 (g j).sub) ∧ W.cell? ⟨bp, op + j * 7 + 6, none⟩ = some (.int .i64 (g j).of)))
                have hFb : ∃ r : Bool, r = true ↔ Back p (g j) := by
                  by_cases h : Back p (g j)
                  · exact ⟨true, by simp [h]⟩
                  · exact ⟨false, by simp [h]⟩
                obtain ⟨rb, hrb⟩ := hFb
                have HRB := Lib.hid hrb
                have HBC := Lib.hid (fun W (hb : Below w2.heap.size w2 W) => by
                  have h := isBack_any p (g j) W
                  unfold Pst.cells at h
                  rw [HJ.out, show decide (Back p (g j)) = rb by rw [Bool.eq_iff_iff, decide_eq_true_iff]; exact hrb.symm] at h
                  exact h.mono fun e w' (h : e = Ending.returned (.bool rb) ∧ Below W.heap.size W w') => (⟨h.1, hb.trans (h.2.mono hb.size)⟩ : e = Ending.returned (.bool rb) ∧ Below w2.heap.size w2 w'))
                clear hbj y3 hrb hcs
                go_wp2_with fail
                refine wp_region_held_drew (S := (fun W => Below w2.heap.size w2 W ∧ W.cell? ⟨P, 0, none⟩ = some (.int .i64 p.kind) ∧ W.cell? ⟨P, 1, none⟩ = some (.int .i64 p.day) ∧ W.cell? ⟨P, 2, none⟩ = some (.int .i64 p.deb) ∧ W.cell? ⟨P, 3, none⟩ = some (.int .i64 p.cre) ∧ W.cell? ⟨P, 4, none⟩ = some (.int .i64 p.amt) ∧ W.cell? ⟨P, 5, none⟩ = some (.int .i64 p.sub) ∧ W.cell? ⟨P, 6, none⟩ = some (.int .i64 (j : Int)) ∧ W.cell? ⟨B, 3 + j, none⟩ = some (.bool false) ∧ W.cell? ⟨B, 1, none⟩ = some (.slice (some ⟨bp, op, none⟩) n vc) ∧ W.cell? ⟨bp, op + j * 7, none⟩ = some (.int .i64 (g j).kind) ∧ W.cell? ⟨bp, op + j * 7 + 1, none⟩ = some (.int .i64 (g j).day) ∧ W.cell? ⟨bp, op + j * 7 + 2, none⟩ = some (.int .i64 (g j).deb) ∧ W.cell? ⟨bp, op + j * 7 + 3, none⟩ = some (.int .i64 (g j).cre) ∧ W.cell? ⟨bp, op + j * 7 + 4, none⟩ = some (.int .i64 (g j).amt) ∧ W.cell? ⟨bp, op + j * 7 + 5, none⟩ = some (.int .i64 (g j).sub) ∧ W.cell? ⟨bp, op + j * 7 + 6, none⟩ = some (.int .i64 (g j).of))) (by kernel_rfl) ?_ (fun hHeld => ?_)
                · exact HKS2.out _ (Below.refl _ _).drew
                refine wpAnyH_take (i := 0) (v := ?_) rfl (by kernel_rfl) (by kernel_rfl) (by kernel_rfl) (fun _ _ _ h => h) (Or.inl ⟨by rfl, ?_⟩) (by assumption) ?_
                rotate_left
                · intro w hSw
                  try dsimp only at hSw
                  go_simp
                  all_goals with_reducible rfl
                try simp only [Act.put, List.getElem_toArray, List.getElem_cons_zero, List.setIfInBounds_toArray, List.set_cons_zero, List.set_cons_succ]
                refine wpAnyH_take (i := 1) (v := ?_) rfl (by kernel_rfl) (by kernel_rfl) (by kernel_rfl) (fun _ _ _ h => h) (Or.inl ⟨by rfl, ?_⟩) (by assumption) ?_
                rotate_left
                · intro w hSw
                  try dsimp only at hSw
                  go_simp
                  all_goals with_reducible rfl
                try simp only [Act.put, List.getElem_toArray, List.getElem_cons_succ, List.getElem_cons_zero, List.setIfInBounds_toArray, List.set_cons_zero, List.set_cons_succ]
                refine wpAnyH_take (i := 2) (v := ?_) rfl (by kernel_rfl) (by kernel_rfl) (by kernel_rfl) (fun _ _ _ h => h) (Or.inl ⟨by rfl, ?_⟩) (by assumption) ?_
                rotate_left
                · intro w hSw
                  try dsimp only at hSw
                  go_simp
                  all_goals with_reducible rfl
                try simp only [Act.put, List.getElem_toArray, List.getElem_cons_succ, List.getElem_cons_zero, List.setIfInBounds_toArray, List.set_cons_zero, List.set_cons_succ]
                refine wpAnyH_take (i := 3) (v := ?_) rfl (by kernel_rfl) (by kernel_rfl) (by kernel_rfl) (fun _ _ _ h => h) (Or.inl ⟨by rfl, ?_⟩) (by assumption) ?_
                rotate_left
                · intro w hSw
                  try dsimp only at hSw
                  go_simp
                  all_goals with_reducible rfl
                try simp only [Act.put, List.getElem_toArray, List.getElem_cons_succ, List.getElem_cons_zero, List.setIfInBounds_toArray, List.set_cons_zero, List.set_cons_succ]
                refine wpAnyH_take (i := 4) (v := ?_) rfl (by kernel_rfl) (by kernel_rfl) (by kernel_rfl) (fun _ _ _ h => h) (Or.inl ⟨by rfl, ?_⟩) (by assumption) ?_
                rotate_left
                · intro w hSw
                  try dsimp only at hSw
                  go_simp
                  all_goals with_reducible rfl
                try simp only [Act.put, List.getElem_toArray, List.getElem_cons_succ, List.getElem_cons_zero, List.setIfInBounds_toArray, List.set_cons_zero, List.set_cons_succ]
                refine wpAnyH_take (i := 5) (v := ?_) rfl (by kernel_rfl) (by kernel_rfl) (by kernel_rfl) (fun _ _ _ h => h) (Or.inl ⟨by rfl, ?_⟩) (by assumption) ?_
                rotate_left
                · intro w hSw
                  try dsimp only at hSw
                  go_simp
                  all_goals with_reducible rfl
                try simp only [Act.put, List.getElem_toArray, List.getElem_cons_succ, List.getElem_cons_zero, List.setIfInBounds_toArray, List.set_cons_zero, List.set_cons_succ]
                refine wpAnyH_take (i := 6) (v := ?_) rfl (by kernel_rfl) (by kernel_rfl) (by kernel_rfl) (fun _ _ _ h => h) (Or.inl ⟨by rfl, ?_⟩) (by assumption) ?_
                rotate_left
                · intro w hSw
                  try dsimp only at hSw
                  go_simp
                  all_goals with_reducible rfl
                try simp only [Act.put, List.getElem_toArray, List.getElem_cons_succ, List.getElem_cons_zero, List.setIfInBounds_toArray, List.set_cons_zero, List.set_cons_succ]
                refine wpAnyH_take (i := 7) (v := ?_) rfl (by kernel_rfl) (by kernel_rfl) (by kernel_rfl) (fun _ _ _ h => h) (Or.inl ⟨by rfl, ?_⟩) (by assumption) ?_
                rotate_left
                · intro w hSw
                  try dsimp only at hSw
                  go_simp
                  all_goals with_reducible rfl
                try simp only [Act.put, List.getElem_toArray, List.getElem_cons_succ, List.getElem_cons_zero, List.setIfInBounds_toArray, List.set_cons_zero, List.set_cons_succ]
                refine wpAnyH_take (i := 8) (v := ?_) rfl (by kernel_rfl) (by kernel_rfl) (by kernel_rfl) (fun _ _ _ h => h) (Or.inl ⟨by rfl, ?_⟩) (by assumption) ?_
                rotate_left
                · intro w hSw
                  try dsimp only at hSw
                  go_simp
                  all_goals with_reducible rfl
                try simp only [Act.put, List.getElem_toArray, List.getElem_cons_succ, List.getElem_cons_zero, List.setIfInBounds_toArray, List.set_cons_zero, List.set_cons_succ]
                refine wpAnyH_take (i := 9) (v := ?_) rfl (by kernel_rfl) (by kernel_rfl) (by kernel_rfl) (fun _ _ _ h => h) (Or.inl ⟨by rfl, ?_⟩) (by assumption) ?_
                rotate_left
                · intro w hSw
                  try dsimp only at hSw
                  go_simp
                  all_goals with_reducible rfl
                try simp only [Act.put, List.getElem_toArray, List.getElem_cons_succ, List.getElem_cons_zero, List.setIfInBounds_toArray, List.set_cons_zero, List.set_cons_succ]
                refine wpAnyH_take (i := 10) (v := ?_) rfl (by kernel_rfl) (by kernel_rfl) (by kernel_rfl) (fun _ _ _ h => h) (Or.inl ⟨by rfl, ?_⟩) (by assumption) ?_
                rotate_left
                · intro w hSw
                  try dsimp only at hSw
                  go_simp
                  all_goals with_reducible rfl
                try simp only [Act.put, List.getElem_toArray, List.getElem_cons_succ, List.getElem_cons_zero, List.setIfInBounds_toArray, List.set_cons_zero, List.set_cons_succ]
                refine wpAnyH_take (i := 11) (v := ?_) rfl (by kernel_rfl) (by kernel_rfl) (by kernel_rfl) (fun _ _ _ h => h) (Or.inl ⟨by rfl, ?_⟩) (by assumption) ?_
                rotate_left
                · intro w hSw
                  try dsimp only at hSw
                  go_simp
                  all_goals with_reducible rfl
                try simp only [Act.put, List.getElem_toArray, List.getElem_cons_succ, List.getElem_cons_zero, List.setIfInBounds_toArray, List.set_cons_zero, List.set_cons_succ]
                refine wpAnyH_take (i := 12) (v := ?_) rfl (by kernel_rfl) (by kernel_rfl) (by kernel_rfl) (fun _ _ _ h => h) (Or.inl ⟨by rfl, ?_⟩) (by assumption) ?_
                rotate_left
                · intro w hSw
                  try dsimp only at hSw
                  go_simp
                  all_goals with_reducible rfl
                try simp only [Act.put, List.getElem_toArray, List.getElem_cons_succ, List.getElem_cons_zero, List.setIfInBounds_toArray, List.set_cons_zero, List.set_cons_succ]
                refine wpAnyH_take (i := 13) (v := ?_) rfl (by kernel_rfl) (by kernel_rfl) (by kernel_rfl) (fun _ _ _ h => h) (Or.inl ⟨by rfl, ?_⟩) (by assumption) ?_
                rotate_left
                · intro w hSw
                  try dsimp only at hSw
                  go_simp
                  all_goals with_reducible rfl
                try simp only [Act.put, List.getElem_toArray, List.getElem_cons_succ, List.getElem_cons_zero, List.setIfInBounds_toArray, List.set_cons_zero, List.set_cons_succ]
                refine wpAnyH_take (i := 14) (v := ?_) rfl (by kernel_rfl) (by kernel_rfl) (by kernel_rfl) (fun _ _ _ h => h) (Or.inl ⟨by rfl, ?_⟩) (by assumption) ?_
                rotate_left
                · intro w hSw
                  try dsimp only at hSw
                  go_simp
                  all_goals with_reducible rfl
                try simp only [Act.put, List.getElem_toArray, List.getElem_cons_succ, List.getElem_cons_zero, List.setIfInBounds_toArray, List.set_cons_zero, List.set_cons_succ]
                refine wpAnyH_take (i := 15) (v := ?_) rfl (by kernel_rfl) (by kernel_rfl) (by kernel_rfl) (fun _ _ _ h => h) (Or.inl ⟨by rfl, ?_⟩) (by assumption) ?_
                rotate_left
                · intro w hSw
                  try dsimp only at hSw
                  go_simp
                  all_goals with_reducible rfl
                try simp only [Act.put, List.getElem_toArray, List.getElem_cons_succ, List.getElem_cons_zero, List.setIfInBounds_toArray, List.set_cons_zero, List.set_cons_succ]
                refine wpAnyH_take (i := 16) (v := ?_) rfl (by kernel_rfl) (by kernel_rfl) (by kernel_rfl) (fun _ _ _ h => h) (Or.inl ⟨by rfl, ?_⟩) (by assumption) ?_
                rotate_left
                · intro w hSw
                  try dsimp only at hSw
                  go_simp
                  all_goals with_reducible rfl
                try simp only [Act.put, List.getElem_toArray, List.getElem_cons_succ, List.getElem_cons_zero, List.setIfInBounds_toArray, List.set_cons_zero, List.set_cons_succ]
                refine wpAnyH_take (i := 17) (v := ?_) rfl (by kernel_rfl) (by kernel_rfl) (by kernel_rfl) (fun _ _ _ h => h) (Or.inl ⟨by rfl, ?_⟩) (by assumption) ?_
                rotate_left
                · intro w hSw
                  try dsimp only at hSw
                  go_simp
                  all_goals with_reducible rfl
                try simp only [Act.put, List.getElem_toArray, List.getElem_cons_succ, List.getElem_cons_zero, List.setIfInBounds_toArray, List.set_cons_zero, List.set_cons_succ]
                refine wpAnyH_take (i := 18) (v := ?_) rfl (by kernel_rfl) (by kernel_rfl) (by kernel_rfl) (fun _ _ _ h => h) (Or.inl ⟨by rfl, ?_⟩) (by assumption) ?_
                rotate_left
                · intro w hSw
                  try dsimp only at hSw
                  go_simp
                  all_goals with_reducible rfl
                try simp only [Act.put, List.getElem_toArray, List.getElem_cons_succ, List.getElem_cons_zero, List.setIfInBounds_toArray, List.set_cons_zero, List.set_cons_succ]
                refine wpAnyH_take (i := 19) (v := ?_) rfl (by kernel_rfl) (by kernel_rfl) (by kernel_rfl) (fun _ _ _ h => h) (Or.inl ⟨by rfl, ?_⟩) (by assumption) ?_
                rotate_left
                · intro w hSw
                  try dsimp only at hSw
                  go_simp
                  all_goals with_reducible rfl
                try simp only [Act.put, List.getElem_toArray, List.getElem_cons_succ, List.getElem_cons_zero, List.setIfInBounds_toArray, List.set_cons_zero, List.set_cons_succ]
                refine wpAnyH_take (i := 20) (v := ?_) rfl (by kernel_rfl) (by kernel_rfl) (by kernel_rfl) (fun _ _ _ h => h) (Or.inl ⟨by rfl, ?_⟩) (by assumption) ?_
                rotate_left
                · intro w hSw
                  try dsimp only at hSw
                  go_simp
                  all_goals with_reducible rfl
                try simp only [Act.put, List.getElem_toArray, List.getElem_cons_succ, List.getElem_cons_zero, List.setIfInBounds_toArray, List.set_cons_zero, List.set_cons_succ]
                refine wpAnyH_take (i := 21) (v := ?_) rfl (by kernel_rfl) (by kernel_rfl) (by kernel_rfl) (fun _ _ _ h => h) (Or.inl ⟨by rfl, ?_⟩) (by assumption) ?_
                rotate_left
                · intro w hSw
                  try dsimp only at hSw
                  go_simp
                  all_goals with_reducible rfl
                try simp only [Act.put, List.getElem_toArray, List.getElem_cons_succ, List.getElem_cons_zero, List.setIfInBounds_toArray, List.set_cons_zero, List.set_cons_succ]
                refine wpAnyH_take (i := 22) (v := ?_) rfl (by kernel_rfl) (by kernel_rfl) (by kernel_rfl) (fun _ _ _ h => h) (Or.inl ⟨by rfl, ?_⟩) (by assumption) ?_
                rotate_left
                · intro w hSw
                  try dsimp only at hSw
                  go_simp
                  all_goals with_reducible rfl
                try simp only [Act.put, List.getElem_toArray, List.getElem_cons_succ, List.getElem_cons_zero, List.setIfInBounds_toArray, List.set_cons_zero, List.set_cons_succ]
                refine wpAnyH_take (i := 23) (v := ?_) rfl (by kernel_rfl) (by kernel_rfl) (by kernel_rfl) (fun _ _ _ h => h) (Or.inl ⟨by rfl, ?_⟩) (by assumption) ?_
                rotate_left
                · intro w hSw
                  try dsimp only at hSw
                  go_simp
                  all_goals with_reducible rfl
                try simp only [Act.put, List.getElem_toArray, List.getElem_cons_succ, List.getElem_cons_zero, List.setIfInBounds_toArray, List.set_cons_zero, List.set_cons_succ]
                refine wpAnyH_ready (rs := [24]) (by kernel_rfl) (by simp) ?_
                refine AllReadyH.cons rfl (fun K hK => ?_) AllReadyH.nil
                go_simp
                go_at_call 64; refine (HBC.out _ hHeld.1).mono ?_; rintro e w' ⟨rfl, hb'⟩
                refine hK.out _ _ ?_ (fun hHeld2 => ?_)
                · exact HKS2.out _ hb'
                clear hK K hHeld
                rename_i hHeld
                try simp only [Act.put, List.getElem_toArray, List.getElem_cons_succ, List.getElem_cons_zero, List.setIfInBounds_toArray, List.set_cons_zero, List.set_cons_succ]
                refine wpAnyH_take (i := 25) (v := ?_) rfl (by kernel_rfl) (by kernel_rfl) (by kernel_rfl) (fun _ _ _ h => h) (Or.inl ⟨by rfl, ?_⟩) (by assumption) ?_
                rotate_left
                · intro w hSw
                  try dsimp only at hSw
                  go_simp
                  all_goals with_reducible rfl
                try simp only [Act.put, List.getElem_toArray, List.getElem_cons_succ, List.getElem_cons_zero, List.setIfInBounds_toArray, List.set_cons_zero, List.set_cons_succ]
                refine wpAnyH_take (i := 26) (v := ?_) rfl (by kernel_rfl) (by kernel_rfl) (by kernel_rfl) (fun _ _ _ h => h) (Or.inl ⟨by rfl, ?_⟩) (by assumption) ?_
                rotate_left
                · intro w hSw
                  try dsimp only at hSw
                  go_simp
                  all_goals with_reducible rfl
                try simp only [Act.put, List.getElem_toArray, List.getElem_cons_succ, List.getElem_cons_zero, List.setIfInBounds_toArray, List.set_cons_zero, List.set_cons_succ]
                refine wpAnyH_done (by kernel_rfl) ?_ _
                cases rb with
                | false =>
                  go_wp2_with fail
                  go_ret
                  exact IsTakes.no HX0.out (by rw [HTOP.out]; exact fun h => by have h2 := (h.2.2.2 HK.out).2.2; rw [HJN.out] at h2; have := HRB.out.2 h2; cases this) (hB2.trans (hb'.mono hB2.size))
                | true =>
                  have hx3 := hx2.below hb'
                  have hr3 := ownP_below hr2 hb'
                  have hp3' : PCells w2 P 0 p := ⟨q0, q1, q2, q3, q4, q5, by rw [HJ.out]; exact q6⟩
                  have hp3 := hp3'.below hb'
                  have hbase3 := Nat.le_trans hbase2 hb'.size
                  have hB3 := hB2.trans (hb'.mono hB2.size)
                  obtain ⟨z0, z1, z2, z3⟩ := hx3.cells
                  have zj := z3 j hj199
                  have fj := hx3.free (3 + j)
                  have q6' := (hb'.cell (p := ⟨P, 6, none⟩) hPw).trans q6
                  have hx5' := (hx3.setB j hj199 true).drew
                  have hr5' := (ownsRow_setCell_below hr3 (a := ⟨B, 3 + j, none⟩) hBb (.bool true)).drew
                  have hp5' := hp3.far (B := B) (by omega) (3 + j) (.bool true)
                  have hB5' := (Below_set (hB3.mono (Nat.le_of_lt hBw0)) (b := B) (i := 3 + j) (Nat.le_refl B) (.bool true)).drew
                  have hK5' : ∀ b, b < w.heap.size → b ≠ B → (w'.setCell ⟨B, 3 + j, none⟩ (.bool true)).drew.heap[b]? = w.heap[b]? := fun b hb hne => (Below.heap_setCell _ _ _ b (fun e => hne (by first | exact e | exact e.symm))).trans (hB3.block b hb)
                  have hz5' : base ≤ (w'.setCell ⟨B, 3 + j, none⟩ (.bool true)).drew.heap.size := by show base ≤ (w'.setCell ⟨B, 3 + j, none⟩ (.bool true)).heap.size; rw [World.size_setCell]; exact hbase3
                  clear z0 z1 z2 z3 y0 y1 y2 yj c0 c1 c2 c3 c4 c5 c6 q0 q1 q2 q3 q4 q5 q6 hx3 hr3 hp3 hB3
                  go_wp2_with fail
                  go_region
                  all_goals (try go_wp2_with fail)
                  obtain ⟨w5, hw5⟩ : ∃ w5, (w'.setCell ⟨B, 3 + j, none⟩ (.bool true)).drew = w5 := ⟨_, rfl⟩
                  have hx5 := hw5 ▸ hx5'
                  have hr5 := hw5 ▸ hr5'
                  have hp5 : PCells w5 P 0 p := hw5 ▸ hp5'
                  have hB5 := hw5 ▸ hB5'
                  have hK5 : ∀ b, b < w.heap.size → b ≠ B → w5.heap[b]? = w.heap[b]? := hw5 ▸ hK5'
                  have hbase5 := hw5 ▸ hz5'
                  rw [hw5]
                  clear hx5' hr5' hp5' hB5' hK5' hz5' hw5 zj fj q6'
                  obtain ⟨q0, q1, q2, q3, q4, q5, q6⟩ := hp5
                  obtain ⟨y0, y1, y2, y3⟩ := hx5.cells
                  have f1 := hx5.free 1
                  have HX5 := Lib.hid hx5
                  have HR5 := Lib.hid hr5
                  have HB5 := Lib.hid hB5
                  have HK5 := Lib.hid hK5
                  have hB5l := hx5.lt
                  clear hx5 y0 y2 y3 hB5 hK5
                  go_wp2_with fail
                  go_upto_region 8 with fail
                  go_region_law (refine step_append_lies _ rfl (.tmp 84) (.tmp 86) 22 rfl base 27 i0 (.agg #[.int .i64 0, .int .i64 0, .int .i64 0, .int .i64 0, .int .i64 0, .int .i64 0, .int .i64 0]) 7 56 Tryd.underlying22 hi0 hj0 hj1 hj2 rfl (by decide) (.slice (some ⟨bp, op, none⟩) n vc) n _ rfl ((hr5.alloc (.cells p.cells 27)).drew) ⟨w5.heap.size, 0, none⟩ 1 1 p.cells.toList rfl rfl (cells_new w5 p _) (cells_one p) (hm := by decide) (h63 := by unfold maxLen; omega) (hbytes := by omega) (hbase := Nat.le_trans hbase5 (by show w5.heap.size ≤ (w5.alloc _).heap.size; simp)) (H := w5.heap.size + 1) (hH := by show (w5.alloc _).heap.size = _; simp) ?_; intro g2 cp2 w6 hown1 hgrow1 hat1 hlt1; have hx6 := ((HX5.out.alloc (.cells p.cells 27)).drew).kept hgrow1 (pown_ne HR5.out hBb); have f6 := hx6.free 1; have z1 := hx6.cells.2.1)
                  all_goals (go_wp2_with fail)
                  all_goals go_ret
                  all_goals
                    have hbf := Below_set (((HB5.out.alloc (by omega) (.cells p.cells 27)).drew).grown hgrow1 (by show B ≤ (w5.alloc _).heap.size; rw [World.size_alloc]; omega) (fun i e => by have := (HR5.out.lt i e).1; omega)) (b := B) (i := 1) (Nat.le_refl B) (.slice (some ⟨g2, 0, none⟩) (n + 1) cp2)
                    exact ⟨true, rfl, ⟨fun _ => by rw [HTOP.out]; exact ⟨h200, HFM.out, HDAY.out, fun _ => ⟨by rw [HJ.out]; omega, by rw [HJN.out]; exact HBJ.out, by rw [HJN.out]; exact HRB.out.1 (by trivial)⟩⟩, fun _ => rfl⟩, hbf, fun _ => ⟨_, (hx6.setV _).congr (fun i _ => by unfold bkNext; rw [HJN.out]; simp [HK.out]), ownsRow_setCell_below hown1 (a := ⟨B, 1, none⟩) hBb _⟩, fun b hb hne ho => (Below.heap_setCell _ _ _ b (fun e => hne (by first | exact e | exact e.symm))).trans ((hgrow1.block b (by show b < (w5.alloc _).heap.size; rw [World.size_alloc]; have := HB5.out.size; omega) ho).trans ((((Below.refl w5.heap.size w5).alloc (Nat.le_refl _) (.cells p.cells 27)).block b (by have := HB5.out.size; omega)).trans (HK5.out b hb hne))), (hx6.setV _).cells.2.2.1⟩
            · have e3 : decide ((n : Int) ≤ (j : Int)) = true := decide_eq_true (by omega)
              have e4 : decide (n ≤ j) = true := decide_eq_true (by omega)
              obtain ⟨y0, y1, y2, y3⟩ := hx2.cells
              have yj := y3 j hj199
              obtain ⟨bj, hbj⟩ : ∃ b, bk j = b := ⟨_, rfl⟩
              rw [hbj] at yj
              have HKS2 := Lib.hid (fun W (hb : Below w2.heap.size w2 W) => (⟨hb, (hb.cell (p := ⟨P, 0, none⟩) hPw).trans q0, (hb.cell (p := ⟨P, 1, none⟩) hPw).trans q1, (hb.cell (p := ⟨P, 2, none⟩) hPw).trans q2, (hb.cell (p := ⟨P, 3, none⟩) hPw).trans q3, (hb.cell (p := ⟨P, 4, none⟩) hPw).trans q4, (hb.cell (p := ⟨P, 5, none⟩) hPw).trans q5, (hb.cell (p := ⟨P, 6, none⟩) hPw).trans q6, (hb.cell (p := ⟨B, 3 + j, none⟩) hBw2).trans yj⟩ : Below w2.heap.size w2 W ∧ W.cell? ⟨P, 0, none⟩ = some (.int .i64 p.kind) ∧ W.cell? ⟨P, 1, none⟩ = some (.int .i64 p.day) ∧ W.cell? ⟨P, 2, none⟩ = some (.int .i64 p.deb) ∧ W.cell? ⟨P, 3, none⟩ = some (.int .i64 p.cre) ∧ W.cell? ⟨P, 4, none⟩ = some (.int .i64 p.amt) ∧ W.cell? ⟨P, 5, none⟩ = some (.int .i64 p.sub) ∧ W.cell? ⟨P, 6, none⟩ = some (.int .i64 (j : Int)) ∧ W.cell? ⟨B, 3 + j, none⟩ = some (.bool bj)))
              clear hbj y3
              go_wp2_with fail
              refine wp_region_held_drew (S := (fun W => Below w2.heap.size w2 W ∧ W.cell? ⟨P, 0, none⟩ = some (.int .i64 p.kind) ∧ W.cell? ⟨P, 1, none⟩ = some (.int .i64 p.day) ∧ W.cell? ⟨P, 2, none⟩ = some (.int .i64 p.deb) ∧ W.cell? ⟨P, 3, none⟩ = some (.int .i64 p.cre) ∧ W.cell? ⟨P, 4, none⟩ = some (.int .i64 p.amt) ∧ W.cell? ⟨P, 5, none⟩ = some (.int .i64 p.sub) ∧ W.cell? ⟨P, 6, none⟩ = some (.int .i64 (j : Int)) ∧ W.cell? ⟨B, 3 + j, none⟩ = some (.bool bj))) (by kernel_rfl) ?_ (fun hHeld => ?_)
              · exact HKS2.out _ (Below.refl _ _).drew
              refine wpAnyH_take (i := 0) (v := ?_) rfl (by kernel_rfl) (by kernel_rfl) (by kernel_rfl) (fun _ _ _ h => h) (Or.inl ⟨by rfl, ?_⟩) (by assumption) ?_
              rotate_left
              · intro w hSw
                try dsimp only at hSw
                go_simp
                all_goals with_reducible rfl
              try simp only [Act.put, List.getElem_toArray, List.getElem_cons_zero, List.setIfInBounds_toArray, List.set_cons_zero, List.set_cons_succ]
              refine wpAnyH_take (i := 1) (v := ?_) rfl (by kernel_rfl) (by kernel_rfl) (by kernel_rfl) (fun _ _ _ h => h) (Or.inl ⟨by rfl, ?_⟩) (by assumption) ?_
              rotate_left
              · intro w hSw
                try dsimp only at hSw
                go_simp
                all_goals with_reducible rfl
              try simp only [Act.put, List.getElem_toArray, List.getElem_cons_succ, List.getElem_cons_zero, List.setIfInBounds_toArray, List.set_cons_zero, List.set_cons_succ]
              refine wpAnyH_take (i := 2) (v := ?_) rfl (by kernel_rfl) (by kernel_rfl) (by kernel_rfl) (fun _ _ _ h => h) (Or.inl ⟨by rfl, ?_⟩) (by assumption) ?_
              rotate_left
              · intro w hSw
                try dsimp only at hSw
                go_simp
                all_goals with_reducible rfl
              try simp only [Act.put, List.getElem_toArray, List.getElem_cons_succ, List.getElem_cons_zero, List.setIfInBounds_toArray, List.set_cons_zero, List.set_cons_succ]
              refine wpAnyH_take (i := 3) (v := ?_) rfl (by kernel_rfl) (by kernel_rfl) (by kernel_rfl) (fun _ _ _ h => h) (Or.inl ⟨by rfl, ?_⟩) (by assumption) ?_
              rotate_left
              · intro w hSw
                try dsimp only at hSw
                go_simp
                all_goals with_reducible rfl
              try simp only [Act.put, List.getElem_toArray, List.getElem_cons_succ, List.getElem_cons_zero, List.setIfInBounds_toArray, List.set_cons_zero, List.set_cons_succ]
              refine wpAnyH_take (i := 4) (v := ?_) rfl (by kernel_rfl) (by kernel_rfl) (by kernel_rfl) (fun _ _ _ h => h) (Or.inl ⟨by rfl, ?_⟩) (by assumption) ?_
              rotate_left
              · intro w hSw
                try dsimp only at hSw
                go_simp
                all_goals with_reducible rfl
              try simp only [Act.put, List.getElem_toArray, List.getElem_cons_succ, List.getElem_cons_zero, List.setIfInBounds_toArray, List.set_cons_zero, List.set_cons_succ]
              refine wpAnyH_take (i := 5) (v := undef) rfl (by kernel_rfl) (by kernel_rfl) (by kernel_rfl) (fun _ _ _ h => h) (Or.inr ⟨by rfl, rfl⟩) (by assumption) ?_
              try simp only [Act.put, List.getElem_toArray, List.getElem_cons_succ, List.getElem_cons_zero, List.setIfInBounds_toArray, List.set_cons_zero, List.set_cons_succ]
              refine wpAnyH_take (i := 6) (v := undef) rfl (by kernel_rfl) (by kernel_rfl) (by kernel_rfl) (fun _ _ _ h => h) (Or.inr ⟨by rfl, rfl⟩) (by assumption) ?_
              try simp only [Act.put, List.getElem_toArray, List.getElem_cons_succ, List.getElem_cons_zero, List.setIfInBounds_toArray, List.set_cons_zero, List.set_cons_succ]
              refine wpAnyH_take (i := 7) (v := undef) rfl (by kernel_rfl) (by kernel_rfl) (by kernel_rfl) (fun _ _ _ h => h) (Or.inr ⟨by rfl, rfl⟩) (by assumption) ?_
              try simp only [Act.put, List.getElem_toArray, List.getElem_cons_succ, List.getElem_cons_zero, List.setIfInBounds_toArray, List.set_cons_zero, List.set_cons_succ]
              refine wpAnyH_take (i := 8) (v := undef) rfl (by kernel_rfl) (by kernel_rfl) (by kernel_rfl) (fun _ _ _ h => h) (Or.inr ⟨by rfl, rfl⟩) (by assumption) ?_
              try simp only [Act.put, List.getElem_toArray, List.getElem_cons_succ, List.getElem_cons_zero, List.setIfInBounds_toArray, List.set_cons_zero, List.set_cons_succ]
              refine wpAnyH_take (i := 9) (v := undef) rfl (by kernel_rfl) (by kernel_rfl) (by kernel_rfl) (fun _ _ _ h => h) (Or.inr ⟨by rfl, rfl⟩) (by assumption) ?_
              try simp only [Act.put, List.getElem_toArray, List.getElem_cons_succ, List.getElem_cons_zero, List.setIfInBounds_toArray, List.set_cons_zero, List.set_cons_succ]
              refine wpAnyH_take (i := 10) (v := undef) rfl (by kernel_rfl) (by kernel_rfl) (by kernel_rfl) (fun _ _ _ h => h) (Or.inr ⟨by rfl, rfl⟩) (by assumption) ?_
              try simp only [Act.put, List.getElem_toArray, List.getElem_cons_succ, List.getElem_cons_zero, List.setIfInBounds_toArray, List.set_cons_zero, List.set_cons_succ]
              refine wpAnyH_take (i := 11) (v := undef) rfl (by kernel_rfl) (by kernel_rfl) (by kernel_rfl) (fun _ _ _ h => h) (Or.inr ⟨by rfl, rfl⟩) (by assumption) ?_
              try simp only [Act.put, List.getElem_toArray, List.getElem_cons_succ, List.getElem_cons_zero, List.setIfInBounds_toArray, List.set_cons_zero, List.set_cons_succ]
              refine wpAnyH_take (i := 12) (v := ?_) rfl (by kernel_rfl) (by kernel_rfl) (by kernel_rfl) (fun _ _ _ h => h) (Or.inl ⟨by rfl, ?_⟩) (by assumption) ?_
              rotate_left
              · intro w hSw
                try dsimp only at hSw
                go_simp
                all_goals with_reducible rfl
              try simp only [Act.put, List.getElem_toArray, List.getElem_cons_succ, List.getElem_cons_zero, List.setIfInBounds_toArray, List.set_cons_zero, List.set_cons_succ]
              refine wpAnyH_take (i := 13) (v := ?_) rfl (by kernel_rfl) (by kernel_rfl) (by kernel_rfl) (fun _ _ _ h => h) (Or.inl ⟨by rfl, ?_⟩) (by assumption) ?_
              rotate_left
              · intro w hSw
                try dsimp only at hSw
                go_simp
                all_goals with_reducible rfl
              try simp only [Act.put, List.getElem_toArray, List.getElem_cons_succ, List.getElem_cons_zero, List.setIfInBounds_toArray, List.set_cons_zero, List.set_cons_succ]
              refine wpAnyH_take (i := 14) (v := undef) rfl (by kernel_rfl) (by kernel_rfl) (by kernel_rfl) (fun _ _ _ h => h) (Or.inr ⟨by rfl, rfl⟩) (by assumption) ?_
              try simp only [Act.put, List.getElem_toArray, List.getElem_cons_succ, List.getElem_cons_zero, List.setIfInBounds_toArray, List.set_cons_zero, List.set_cons_succ]
              refine wpAnyH_take (i := 15) (v := undef) rfl (by kernel_rfl) (by kernel_rfl) (by kernel_rfl) (fun _ _ _ h => h) (Or.inr ⟨by rfl, rfl⟩) (by assumption) ?_
              try simp only [Act.put, List.getElem_toArray, List.getElem_cons_succ, List.getElem_cons_zero, List.setIfInBounds_toArray, List.set_cons_zero, List.set_cons_succ]
              refine wpAnyH_take (i := 16) (v := undef) rfl (by kernel_rfl) (by kernel_rfl) (by kernel_rfl) (fun _ _ _ h => h) (Or.inr ⟨by rfl, rfl⟩) (by assumption) ?_
              try simp only [Act.put, List.getElem_toArray, List.getElem_cons_succ, List.getElem_cons_zero, List.setIfInBounds_toArray, List.set_cons_zero, List.set_cons_succ]
              refine wpAnyH_take (i := 17) (v := undef) rfl (by kernel_rfl) (by kernel_rfl) (by kernel_rfl) (fun _ _ _ h => h) (Or.inr ⟨by rfl, rfl⟩) (by assumption) ?_
              try simp only [Act.put, List.getElem_toArray, List.getElem_cons_succ, List.getElem_cons_zero, List.setIfInBounds_toArray, List.set_cons_zero, List.set_cons_succ]
              refine wpAnyH_take (i := 18) (v := undef) rfl (by kernel_rfl) (by kernel_rfl) (by kernel_rfl) (fun _ _ _ h => h) (Or.inr ⟨by rfl, rfl⟩) (by assumption) ?_
              try simp only [Act.put, List.getElem_toArray, List.getElem_cons_succ, List.getElem_cons_zero, List.setIfInBounds_toArray, List.set_cons_zero, List.set_cons_succ]
              refine wpAnyH_take (i := 19) (v := undef) rfl (by kernel_rfl) (by kernel_rfl) (by kernel_rfl) (fun _ _ _ h => h) (Or.inr ⟨by rfl, rfl⟩) (by assumption) ?_
              try simp only [Act.put, List.getElem_toArray, List.getElem_cons_succ, List.getElem_cons_zero, List.setIfInBounds_toArray, List.set_cons_zero, List.set_cons_succ]
              refine wpAnyH_take (i := 20) (v := undef) rfl (by kernel_rfl) (by kernel_rfl) (by kernel_rfl) (fun _ _ _ h => h) (Or.inr ⟨by rfl, rfl⟩) (by assumption) ?_
              try simp only [Act.put, List.getElem_toArray, List.getElem_cons_succ, List.getElem_cons_zero, List.setIfInBounds_toArray, List.set_cons_zero, List.set_cons_succ]
              refine wpAnyH_take (i := 21) (v := undef) rfl (by kernel_rfl) (by kernel_rfl) (by kernel_rfl) (fun _ _ _ h => h) (Or.inr ⟨by rfl, rfl⟩) (by assumption) ?_
              try simp only [Act.put, List.getElem_toArray, List.getElem_cons_succ, List.getElem_cons_zero, List.setIfInBounds_toArray, List.set_cons_zero, List.set_cons_succ]
              refine wpAnyH_take (i := 22) (v := undef) rfl (by kernel_rfl) (by kernel_rfl) (by kernel_rfl) (fun _ _ _ h => h) (Or.inr ⟨by rfl, rfl⟩) (by assumption) ?_
              try simp only [Act.put, List.getElem_toArray, List.getElem_cons_succ, List.getElem_cons_zero, List.setIfInBounds_toArray, List.set_cons_zero, List.set_cons_succ]
              refine wpAnyH_take (i := 23) (v := undef) rfl (by kernel_rfl) (by kernel_rfl) (by kernel_rfl) (fun _ _ _ h => h) (Or.inr ⟨by rfl, rfl⟩) (by assumption) ?_
              try simp only [Act.put, List.getElem_toArray, List.getElem_cons_succ, List.getElem_cons_zero, List.setIfInBounds_toArray, List.set_cons_zero, List.set_cons_succ]
              refine wpAnyH_take (i := 24) (v := undef) rfl (by kernel_rfl) (by kernel_rfl) (by kernel_rfl) (fun _ _ _ h => h) (Or.inr ⟨by rfl, rfl⟩) (by assumption) ?_
              try simp only [Act.put, List.getElem_toArray, List.getElem_cons_succ, List.getElem_cons_zero, List.setIfInBounds_toArray, List.set_cons_zero, List.set_cons_succ]
              refine wpAnyH_take (i := 25) (v := undef) rfl (by kernel_rfl) (by kernel_rfl) (by kernel_rfl) (fun _ _ _ h => h) (Or.inr ⟨by rfl, rfl⟩) (by assumption) ?_
              try simp only [Act.put, List.getElem_toArray, List.getElem_cons_succ, List.getElem_cons_zero, List.setIfInBounds_toArray, List.set_cons_zero, List.set_cons_succ]
              refine wpAnyH_take (i := 26) (v := ?_) rfl (by kernel_rfl) (by kernel_rfl) (by kernel_rfl) (fun _ _ _ h => h) (Or.inl ⟨by rfl, ?_⟩) (by assumption) ?_
              rotate_left
              · intro w hSw
                try dsimp only at hSw
                go_simp
                all_goals with_reducible rfl
              try simp only [Act.put, List.getElem_toArray, List.getElem_cons_succ, List.getElem_cons_zero, List.setIfInBounds_toArray, List.set_cons_zero, List.set_cons_succ]
              refine wpAnyH_done (by kernel_rfl) ?_ _
              go_wp2_with fail
              go_ret
              exact IsTakes.no HX0.out (by rw [HTOP.out]; exact fun h => by have h2 := (h.2.2.2 HK.out).1; rw [HJ.out] at h2; omega) hB2.drew
          · have hkb : (p.kind == 2) = false := by simp [hk]
            have HK := Lib.hid hk
            clear hk
            have hx5 := hx2
            have hr5 := hr2
            have hp5 := hp2
            have hbase5 := hbase2
            have hB5 := hB2.mono (Nat.le_of_lt hBw0)
            have hK5 : ∀ b, b < w.heap.size → b ≠ B → w2.heap[b]? = w.heap[b]? := fun b hb _ => hB2.block b hb
            obtain ⟨w5, rfl⟩ : ∃ w5 : World, w5 = w2 := ⟨_, rfl⟩
            clear hx2 hp2 hB2 hd2
            obtain ⟨q0, q1, q2, q3, q4, q5, q6⟩ := hp5
            obtain ⟨y0, y1, y2, y3⟩ := hx5.cells
            have f1 := hx5.free 1
            have HX5 := Lib.hid hx5
            have HR5 := Lib.hid hr5
            have HB5 := Lib.hid hB5
            have HK5 := Lib.hid hK5
            have hB5l := hx5.lt
            clear hx5 y0 y2 y3 hB5 hK5
            go_wp2_with fail
            go_upto_region 8 with fail
            go_region_law (refine step_append_lies _ rfl (.tmp 84) (.tmp 86) 22 rfl base 27 i0 (.agg #[.int .i64 0, .int .i64 0, .int .i64 0, .int .i64 0, .int .i64 0, .int .i64 0, .int .i64 0]) 7 56 Tryd.underlying22 hi0 hj0 hj1 hj2 rfl (by decide) (.slice (some ⟨bp, op, none⟩) n vc) n _ rfl ((hr5.alloc (.cells p.cells 27)).drew) ⟨w5.heap.size, 0, none⟩ 1 1 p.cells.toList rfl rfl (cells_new w5 p _) (cells_one p) (hm := by decide) (h63 := by unfold maxLen; omega) (hbytes := by omega) (hbase := Nat.le_trans hbase5 (by show w5.heap.size ≤ (w5.alloc _).heap.size; simp)) (H := w5.heap.size + 1) (hH := by show (w5.alloc _).heap.size = _; simp) ?_; intro g2 cp2 w6 hown1 hgrow1 hat1 hlt1; have hx6 := ((HX5.out.alloc (.cells p.cells 27)).drew).kept hgrow1 (pown_ne HR5.out hBb); have f6 := hx6.free 1; have z1 := hx6.cells.2.1)
            all_goals (go_wp2_with fail)
            all_goals go_ret
            all_goals
              have hbf := Below_set (((HB5.out.alloc (by omega) (.cells p.cells 27)).drew).grown hgrow1 (by show B ≤ (w5.alloc _).heap.size; rw [World.size_alloc]; omega) (fun i e => by have := (HR5.out.lt i e).1; omega)) (b := B) (i := 1) (Nat.le_refl B) (.slice (some ⟨g2, 0, none⟩) (n + 1) cp2)
              exact ⟨true, rfl, ⟨fun _ => by rw [HTOP.out]; exact ⟨h200, HFM.out, HDAY.out, fun h => absurd h HK.out⟩, fun _ => rfl⟩, hbf, fun _ => ⟨_, (hx6.setV _).congr (fun i _ => by unfold bkNext; rw [if_neg (fun h => HK.out h.1)]), ownsRow_setCell_below hown1 (a := ⟨B, 1, none⟩) hBb _⟩, fun b hb hne ho => (Below.heap_setCell _ _ _ b (fun e => hne (by first | exact e | exact e.symm))).trans ((hgrow1.block b (by show b < (w5.alloc _).heap.size; rw [World.size_alloc]; have := HB5.out.size; omega) ho).trans ((((Below.refl w5.heap.size w5).alloc (Nat.le_refl _) (.cells p.cells 27)).block b (by have := HB5.out.size; omega)).trans (HK5.out b hb hne))), (hx6.setV _).cells.2.2.1⟩
  · have d1 : decide (200 ≤ (n : Int)) = true := decide_eq_true (by omega)
    have d2 : decide (200 ≤ n) = true := decide_eq_true (by omega)
    go_wp2_with fail
    go_quiet (fail)
    go_wp2_with fail
    go_ret
    exact IsTakes.no HX0.out (fun h => h200 h.1) (Below_drewN' HB.out _)
end Go.Proofs.YtcfplkbbgjiocaaDoor
