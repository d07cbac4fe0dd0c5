/- Package book: post, Post, Close, Dispute. Conditions: those of takes. -/
import Derived.Test.YtcfplkbbgjiocaaDoorBookOpen
namespace Go.Proofs.YtcfplkbbgjiocaaDoor
open Go Go.RowKit Go.Shelf
/-- What post does. -/
def IsPost (w : World) (B base : Nat) (teams closed : Int) (v : Value) (n : Nat) (g : Nat → Pst) (bk : Nat → Bool) (p : Pst) (e : Ending) (w' : World) : Prop :=
  ∃ r : Bool, e = .returned (.bool r) ∧ (r = true ↔ 30 * closed ≤ p.day ∧ TakesOk g n bk (IntKind.i64.wrap (teams - 1)) p) ∧ Below B w w' ∧
    (r = true → ∃ v', LBox w' B teams v' closed (bkNext bk p) ∧ w'.ownsRow base 27 7 v' (n + 1) (flatP g n ++ p.cells.toList)) ∧
    (∀ b, b < w.heap.size → b ≠ B → some b ≠ v.ownBlock → w'.heap[b]? = w.heap[b]?)
set_option maxRecDepth 100000 in
set_option maxHeartbeats 4000000 in
theorem post_any (B base : Nat) (teams closed : Int) (v : Value) (n : Nat) (g : Nat → Pst) (bk : Nat → Bool) (p : Pst) (w : World) (hx : LBox w B teams v closed bk) (hrow : w.ownsRow base 27 7 v n (flatP g n)) (hBb : B < base) (hbs : base ≤ w.heap.size) (hn : n ≤ 200) (hcl : within closed 0 12) :
    Calls Tryd.prog 40 #[.pointer (some ⟨B, 0, none⟩), .agg p.cells] w (IsPost w B base teams closed v n g bk p) := by
  have hBl := hx.lt
  have hal : Below w.heap.size w (w.alloc (.cells p.cells 27)) := (Below.refl _ _).alloc (Nat.le_refl _) _
  have hx1 := hx.alloc (.cells p.cells 27)
  have hr1 := hrow.alloc (.cells p.cells 27)
  have hp1 := PCells.new w p 27
  have hown := hrow.lt
  have hPw : w.heap.size < (w.alloc (.cells p.cells 27)).heap.size := by simp
  have hPo : some w.heap.size ≠ v.ownBlock := fun e => by have := (hown w.heap.size e.symm).2; omega
  obtain ⟨P, hP⟩ : ∃ P, w.heap.size = P := ⟨_, rfl⟩
  have HP := Lib.hid hP
  obtain ⟨w1, hw1⟩ : ∃ w1, w.alloc (.cells p.cells 27) = w1 := ⟨_, rfl⟩
  have HW1 := Lib.hid hw1
  rw [hw1] at hal hx1 hr1 hp1 hPw
  rw [hP] at hp1 hPw hPo hBl
  obtain ⟨q0, q1, q2, q3, q4, q5, q6⟩ := hp1
  obtain ⟨y0, y1, y2, y3⟩ := hx1.cells
  have HX := Lib.hid hx1
  have HR := Lib.hid hr1
  have HAL := Lib.hid hal
  have hbs1 : base ≤ w1.heap.size := by omega
  have hm : IntKind.i64.wrap (30 * closed) = 30 * closed := by unfold within at hcl; exact IntWalk.i64_in _ (by omega)
  have HTA := Lib.hid (fun _ : Unit => takes_any B base teams closed v n g bk p w1.drew hx1.drew hr1 hBb (show base ≤ w1.drew.heap.size from hbs1) hn)
  clear hx hrow hown hx1 hr1 hal hw1 hP y0 y1 y3 hcl
  go_enter Tryd.func40, Tryd.ntmps40
  go_upto_region 1 with fail
  rw [HW1.out, HP.out]
  clear HW1
  by_cases hd : 30 * closed ≤ p.day
  · have e1 : decide (30 * closed ≤ p.day) = true := decide_eq_true hd
    have HD := Lib.hid hd
    clear hd
    refine wp_region_held_drew (S := (fun W => W.cell? ⟨P, 0, none⟩ = some (.int .i64 p.kind) ∧ W.cell? ⟨P, 1, none⟩ = some (.int .i64 p.day) ∧ W.cell? ⟨P, 2, none⟩ = some (.int .i64 p.deb) ∧ W.cell? ⟨P, 3, none⟩ = some (.int .i64 p.cre) ∧ W.cell? ⟨P, 4, none⟩ = some (.int .i64 p.amt) ∧ W.cell? ⟨P, 5, none⟩ = some (.int .i64 p.sub) ∧ W.cell? ⟨P, 6, none⟩ = some (.int .i64 p.of) ∧ W.cell? ⟨B, 2, none⟩ = some (.int .i64 closed))) (by kernel_rfl) ?_ (fun hHeld => ?_)
    · exact ⟨q0, q1, q2, q3, q4, q5, q6, y2⟩
    refine wpAnyH_take (i := 0) (v := ?_) rfl (by kernel_rfl) (by kernel_rfl) (by kernel_rfl) (fun _ _ _ h => h) (Or.inl ⟨by rfl, ?_⟩) (by assumption) ?_
    rotate_left
    · intro w hSw
      try dsimp only at hSw
      go_simp
      all_goals with_reducible rfl
    try simp only [Act.put, List.getElem_toArray, List.getElem_cons_zero, List.setIfInBounds_toArray, List.set_cons_zero, List.set_cons_succ]
    refine wpAnyH_take (i := 1) (v := ?_) rfl (by kernel_rfl) (by kernel_rfl) (by kernel_rfl) (fun _ _ _ h => h) (Or.inl ⟨by rfl, ?_⟩) (by assumption) ?_
    rotate_left
    · intro w hSw
      try dsimp only at hSw
      go_simp
      all_goals with_reducible rfl
    try simp only [Act.put, List.getElem_toArray, List.getElem_cons_succ, List.getElem_cons_zero, List.setIfInBounds_toArray, List.set_cons_zero, List.set_cons_succ]
    refine wpAnyH_take (i := 2) (v := ?_) rfl (by kernel_rfl) (by kernel_rfl) (by kernel_rfl) (fun _ _ _ h => h) (Or.inl ⟨by rfl, ?_⟩) (by assumption) ?_
    rotate_left
    · intro w hSw
      try dsimp only at hSw
      go_simp
      all_goals with_reducible rfl
    try simp only [Act.put, List.getElem_toArray, List.getElem_cons_succ, List.getElem_cons_zero, List.setIfInBounds_toArray, List.set_cons_zero, List.set_cons_succ]
    refine wpAnyH_take (i := 3) (v := ?_) rfl (by kernel_rfl) (by kernel_rfl) (by kernel_rfl) (fun _ _ _ h => h) (Or.inl ⟨by rfl, ?_⟩) (by assumption) ?_
    rotate_left
    · intro w hSw
      try dsimp only at hSw
      go_simp
      all_goals with_reducible rfl
    try simp only [Act.put, List.getElem_toArray, List.getElem_cons_succ, List.getElem_cons_zero, List.setIfInBounds_toArray, List.set_cons_zero, List.set_cons_succ]
    refine wpAnyH_take (i := 4) (v := ?_) rfl (by kernel_rfl) (by kernel_rfl) (by kernel_rfl) (fun _ _ _ h => h) (Or.inl ⟨by rfl, ?_⟩) (by assumption) ?_
    rotate_left
    · intro w hSw
      try dsimp only at hSw
      go_simp
      all_goals with_reducible rfl
    try simp only [Act.put, List.getElem_toArray, List.getElem_cons_succ, List.getElem_cons_zero, List.setIfInBounds_toArray, List.set_cons_zero, List.set_cons_succ]
    refine wpAnyH_take (i := 5) (v := ?_) rfl (by kernel_rfl) (by kernel_rfl) (by kernel_rfl) (fun _ _ _ h => h) (Or.inl ⟨by rfl, ?_⟩) (by assumption) ?_
    rotate_left
    · intro w hSw
      try dsimp only at hSw
      go_simp
      all_goals with_reducible rfl
    try simp only [Act.put, List.getElem_toArray, List.getElem_cons_succ, List.getElem_cons_zero, List.setIfInBounds_toArray, List.set_cons_zero, List.set_cons_succ]
    refine wpAnyH_take (i := 6) (v := ?_) rfl (by kernel_rfl) (by kernel_rfl) (by kernel_rfl) (fun _ _ _ h => h) (Or.inl ⟨by rfl, ?_⟩) (by assumption) ?_
    rotate_left
    · intro w hSw
      try dsimp only at hSw
      go_simp
      all_goals with_reducible rfl
    try simp only [Act.put, List.getElem_toArray, List.getElem_cons_succ, List.getElem_cons_zero, List.setIfInBounds_toArray, List.set_cons_zero, List.set_cons_succ]
    refine wpAnyH_take (i := 7) (v := ?_) rfl (by kernel_rfl) (by kernel_rfl) (by kernel_rfl) (fun _ _ _ h => h) (Or.inl ⟨by rfl, ?_⟩) (by assumption) ?_
    rotate_left
    · intro w hSw
      try dsimp only at hSw
      go_simp
      all_goals with_reducible rfl
    try simp only [Act.put, List.getElem_toArray, List.getElem_cons_succ, List.getElem_cons_zero, List.setIfInBounds_toArray, List.set_cons_zero, List.set_cons_succ]
    refine wpAnyH_take (i := 8) (v := ?_) rfl (by kernel_rfl) (by kernel_rfl) (by kernel_rfl) (fun _ _ _ h => h) (Or.inl ⟨by rfl, ?_⟩) (by assumption) ?_
    rotate_left
    · intro w hSw
      try dsimp only at hSw
      go_simp
      all_goals with_reducible rfl
    try simp only [Act.put, List.getElem_toArray, List.getElem_cons_succ, List.getElem_cons_zero, List.setIfInBounds_toArray, List.set_cons_zero, List.set_cons_succ]
    refine wpAnyH_take (i := 9) (v := ?_) rfl (by kernel_rfl) (by kernel_rfl) (by kernel_rfl) (fun _ _ _ h => h) (Or.inl ⟨by rfl, ?_⟩) (by assumption) ?_
    rotate_left
    · intro w hSw
      try dsimp only at hSw
      go_simp
      all_goals with_reducible rfl
    try simp only [Act.put, List.getElem_toArray, List.getElem_cons_succ, List.getElem_cons_zero, List.setIfInBounds_toArray, List.set_cons_zero, List.set_cons_succ]
    refine wpAnyH_take (i := 10) (v := ?_) rfl (by kernel_rfl) (by kernel_rfl) (by kernel_rfl) (fun _ _ _ h => h) (Or.inl ⟨by rfl, ?_⟩) (by assumption) ?_
    rotate_left
    · intro w hSw
      try dsimp only at hSw
      go_simp
      all_goals with_reducible rfl
    try simp only [Act.put, List.getElem_toArray, List.getElem_cons_succ, List.getElem_cons_zero, List.setIfInBounds_toArray, List.set_cons_zero, List.set_cons_succ]
    refine wpAnyH_take (i := 11) (v := ?_) rfl (by kernel_rfl) (by kernel_rfl) (by kernel_rfl) (fun _ _ _ h => h) (Or.inl ⟨by rfl, ?_⟩) (by assumption) ?_
    rotate_left
    · intro w hSw
      try dsimp only at hSw
      go_simp
      all_goals with_reducible rfl
    try simp only [Act.put, List.getElem_toArray, List.getElem_cons_succ, List.getElem_cons_zero, List.setIfInBounds_toArray, List.set_cons_zero, List.set_cons_succ]
    refine wpAnyH_ready (rs := [12]) (by kernel_rfl) (by simp) ?_
    refine AllReadyH.cons rfl (fun K hK => ?_) AllReadyH.nil
    go_simp
    go_at_call 51; refine (HTA.out ()).mono ?_; rintro e w' ⟨r, rfl, hiff, hbw, hst, hkp, hcl⟩
    refine hK.out _ _ ?_ (fun hHeld2 => ?_)
    · exact ⟨(World.cell?_of_block (w := w1.drew) (w' := w') (a := ⟨P, 0, none⟩) (hkp P hPw (by omega) hPo)).trans q0, (World.cell?_of_block (w := w1.drew) (w' := w') (a := ⟨P, 1, none⟩) (hkp P hPw (by omega) hPo)).trans q1, (World.cell?_of_block (w := w1.drew) (w' := w') (a := ⟨P, 2, none⟩) (hkp P hPw (by omega) hPo)).trans q2, (World.cell?_of_block (w := w1.drew) (w' := w') (a := ⟨P, 3, none⟩) (hkp P hPw (by omega) hPo)).trans q3, (World.cell?_of_block (w := w1.drew) (w' := w') (a := ⟨P, 4, none⟩) (hkp P hPw (by omega) hPo)).trans q4, (World.cell?_of_block (w := w1.drew) (w' := w') (a := ⟨P, 5, none⟩) (hkp P hPw (by omega) hPo)).trans q5, (World.cell?_of_block (w := w1.drew) (w' := w') (a := ⟨P, 6, none⟩) (hkp P hPw (by omega) hPo)).trans q6, hcl⟩
    clear hK K hHeld
    rename_i hHeld
    try simp only [Act.put, List.getElem_toArray, List.getElem_cons_succ, List.getElem_cons_zero, List.setIfInBounds_toArray, List.set_cons_zero, List.set_cons_succ]
    refine wpAnyH_take (i := 13) (v := ?_) rfl (by kernel_rfl) (by kernel_rfl) (by kernel_rfl) (fun _ _ _ h => h) (Or.inl ⟨by rfl, ?_⟩) (by assumption) ?_
    rotate_left
    · intro w hSw
      try dsimp only at hSw
      go_simp
      all_goals with_reducible rfl
    try simp only [Act.put, List.getElem_toArray, List.getElem_cons_succ, List.getElem_cons_zero, List.setIfInBounds_toArray, List.set_cons_zero, List.set_cons_succ]
    refine wpAnyH_take (i := 14) (v := ?_) rfl (by kernel_rfl) (by kernel_rfl) (by kernel_rfl) (fun _ _ _ h => h) (Or.inl ⟨by rfl, ?_⟩) (by assumption) ?_
    rotate_left
    · intro w hSw
      try dsimp only at hSw
      go_simp
      all_goals with_reducible rfl
    try simp only [Act.put, List.getElem_toArray, List.getElem_cons_succ, List.getElem_cons_zero, List.setIfInBounds_toArray, List.set_cons_zero, List.set_cons_succ]
    refine wpAnyH_done (by kernel_rfl) ?_ _
    go_wp2_with fail
    go_ret
    exact ⟨r, rfl, by rw [hiff]; exact ⟨fun h => ⟨HD.out, h⟩, fun h => h.2⟩, (HAL.out.mono (by have := HP.out; omega)).drew.trans hbw, hst, fun b hb hne ho => (hkp b (Nat.lt_of_lt_of_le hb HAL.out.size) hne ho).trans (HAL.out.block b hb)⟩
  · have e1 : decide (30 * closed ≤ p.day) = false := decide_eq_false hd
    have HD := Lib.hid hd
    clear hd
    refine wp_region_held_drew (S := (fun W => W.cell? ⟨P, 0, none⟩ = some (.int .i64 p.kind) ∧ W.cell? ⟨P, 1, none⟩ = some (.int .i64 p.day) ∧ W.cell? ⟨P, 2, none⟩ = some (.int .i64 p.deb) ∧ W.cell? ⟨P, 3, none⟩ = some (.int .i64 p.cre) ∧ W.cell? ⟨P, 4, none⟩ = some (.int .i64 p.amt) ∧ W.cell? ⟨P, 5, none⟩ = some (.int .i64 p.sub) ∧ W.cell? ⟨P, 6, none⟩ = some (.int .i64 p.of) ∧ W.cell? ⟨B, 2, none⟩ = some (.int .i64 closed))) (by kernel_rfl) ?_ (fun hHeld => ?_)
    · exact ⟨q0, q1, q2, q3, q4, q5, q6, y2⟩
    refine wpAnyH_take (i := 0) (v := ?_) rfl (by kernel_rfl) (by kernel_rfl) (by kernel_rfl) (fun _ _ _ h => h) (Or.inl ⟨by rfl, ?_⟩) (by assumption) ?_
    rotate_left
    · intro w hSw
      try dsimp only at hSw
      go_simp
      all_goals with_reducible rfl
    try simp only [Act.put, List.getElem_toArray, List.getElem_cons_zero, List.setIfInBounds_toArray, List.set_cons_zero, List.set_cons_succ]
    refine wpAnyH_take (i := 1) (v := ?_) rfl (by kernel_rfl) (by kernel_rfl) (by kernel_rfl) (fun _ _ _ h => h) (Or.inl ⟨by rfl, ?_⟩) (by assumption) ?_
    rotate_left
    · intro w hSw
      try dsimp only at hSw
      go_simp
      all_goals with_reducible rfl
    try simp only [Act.put, List.getElem_toArray, List.getElem_cons_succ, List.getElem_cons_zero, List.setIfInBounds_toArray, List.set_cons_zero, List.set_cons_succ]
    refine wpAnyH_take (i := 2) (v := ?_) rfl (by kernel_rfl) (by kernel_rfl) (by kernel_rfl) (fun _ _ _ h => h) (Or.inl ⟨by rfl, ?_⟩) (by assumption) ?_
    rotate_left
    · intro w hSw
      try dsimp only at hSw
      go_simp
      all_goals with_reducible rfl
    try simp only [Act.put, List.getElem_toArray, List.getElem_cons_succ, List.getElem_cons_zero, List.setIfInBounds_toArray, List.set_cons_zero, List.set_cons_succ]
    refine wpAnyH_take (i := 3) (v := ?_) rfl (by kernel_rfl) (by kernel_rfl) (by kernel_rfl) (fun _ _ _ h => h) (Or.inl ⟨by rfl, ?_⟩) (by assumption) ?_
    rotate_left
    · intro w hSw
      try dsimp only at hSw
      go_simp
      all_goals with_reducible rfl
    try simp only [Act.put, List.getElem_toArray, List.getElem_cons_succ, List.getElem_cons_zero, List.setIfInBounds_toArray, List.set_cons_zero, List.set_cons_succ]
    refine wpAnyH_take (i := 4) (v := ?_) rfl (by kernel_rfl) (by kernel_rfl) (by kernel_rfl) (fun _ _ _ h => h) (Or.inl ⟨by rfl, ?_⟩) (by assumption) ?_
    rotate_left
    · intro w hSw
      try dsimp only at hSw
      go_simp
      all_goals with_reducible rfl
    try simp only [Act.put, List.getElem_toArray, List.getElem_cons_succ, List.getElem_cons_zero, List.setIfInBounds_toArray, List.set_cons_zero, List.set_cons_succ]
    refine wpAnyH_take (i := 5) (v := ?_) rfl (by kernel_rfl) (by kernel_rfl) (by kernel_rfl) (fun _ _ _ h => h) (Or.inl ⟨by rfl, ?_⟩) (by assumption) ?_
    rotate_left
    · intro w hSw
      try dsimp only at hSw
      go_simp
      all_goals with_reducible rfl
    try simp only [Act.put, List.getElem_toArray, List.getElem_cons_succ, List.getElem_cons_zero, List.setIfInBounds_toArray, List.set_cons_zero, List.set_cons_succ]
    refine wpAnyH_take (i := 6) (v := ?_) rfl (by kernel_rfl) (by kernel_rfl) (by kernel_rfl) (fun _ _ _ h => h) (Or.inl ⟨by rfl, ?_⟩) (by assumption) ?_
    rotate_left
    · intro w hSw
      try dsimp only at hSw
      go_simp
      all_goals with_reducible rfl
    try simp only [Act.put, List.getElem_toArray, List.getElem_cons_succ, List.getElem_cons_zero, List.setIfInBounds_toArray, List.set_cons_zero, List.set_cons_succ]
    refine wpAnyH_take (i := 7) (v := ?_) rfl (by kernel_rfl) (by kernel_rfl) (by kernel_rfl) (fun _ _ _ h => h) (Or.inl ⟨by rfl, ?_⟩) (by assumption) ?_
    rotate_left
    · intro w hSw
      try dsimp only at hSw
      go_simp
      all_goals with_reducible rfl
    try simp only [Act.put, List.getElem_toArray, List.getElem_cons_succ, List.getElem_cons_zero, List.setIfInBounds_toArray, List.set_cons_zero, List.set_cons_succ]
    refine wpAnyH_take (i := 8) (v := ?_) rfl (by kernel_rfl) (by kernel_rfl) (by kernel_rfl) (fun _ _ _ h => h) (Or.inl ⟨by rfl, ?_⟩) (by assumption) ?_
    rotate_left
    · intro w hSw
      try dsimp only at hSw
      go_simp
      all_goals with_reducible rfl
    try simp only [Act.put, List.getElem_toArray, List.getElem_cons_succ, List.getElem_cons_zero, List.setIfInBounds_toArray, List.set_cons_zero, List.set_cons_succ]
    refine wpAnyH_take (i := 9) (v := ?_) rfl (by kernel_rfl) (by kernel_rfl) (by kernel_rfl) (fun _ _ _ h => h) (Or.inl ⟨by rfl, ?_⟩) (by assumption) ?_
    rotate_left
    · intro w hSw
      try dsimp only at hSw
      go_simp
      all_goals with_reducible rfl
    try simp only [Act.put, List.getElem_toArray, List.getElem_cons_succ, List.getElem_cons_zero, List.setIfInBounds_toArray, List.set_cons_zero, List.set_cons_succ]
    refine wpAnyH_take (i := 10) (v := undef) rfl (by kernel_rfl) (by kernel_rfl) (by kernel_rfl) (fun _ _ _ h => h) (Or.inr ⟨by rfl, rfl⟩) (by assumption) ?_
    try simp only [Act.put, List.getElem_toArray, List.getElem_cons_succ, List.getElem_cons_zero, List.setIfInBounds_toArray, List.set_cons_zero, List.set_cons_succ]
    refine wpAnyH_take (i := 11) (v := undef) rfl (by kernel_rfl) (by kernel_rfl) (by kernel_rfl) (fun _ _ _ h => h) (Or.inr ⟨by rfl, rfl⟩) (by assumption) ?_
    try simp only [Act.put, List.getElem_toArray, List.getElem_cons_succ, List.getElem_cons_zero, List.setIfInBounds_toArray, List.set_cons_zero, List.set_cons_succ]
    refine wpAnyH_take (i := 12) (v := undef) rfl (by kernel_rfl) (by kernel_rfl) (by kernel_rfl) (fun _ _ _ h => h) (Or.inr ⟨by rfl, rfl⟩) (by assumption) ?_
    try simp only [Act.put, List.getElem_toArray, List.getElem_cons_succ, List.getElem_cons_zero, List.setIfInBounds_toArray, List.set_cons_zero, List.set_cons_succ]
    refine wpAnyH_take (i := 13) (v := ?_) rfl (by kernel_rfl) (by kernel_rfl) (by kernel_rfl) (fun _ _ _ h => h) (Or.inl ⟨by rfl, ?_⟩) (by assumption) ?_
    rotate_left
    · intro w hSw
      try dsimp only at hSw
      go_simp
      all_goals with_reducible rfl
    try simp only [Act.put, List.getElem_toArray, List.getElem_cons_succ, List.getElem_cons_zero, List.setIfInBounds_toArray, List.set_cons_zero, List.set_cons_succ]
    refine wpAnyH_take (i := 14) (v := ?_) rfl (by kernel_rfl) (by kernel_rfl) (by kernel_rfl) (fun _ _ _ h => h) (Or.inl ⟨by rfl, ?_⟩) (by assumption) ?_
    rotate_left
    · intro w hSw
      try dsimp only at hSw
      go_simp
      all_goals with_reducible rfl
    try simp only [Act.put, List.getElem_toArray, List.getElem_cons_succ, List.getElem_cons_zero, List.setIfInBounds_toArray, List.set_cons_zero, List.set_cons_succ]
    refine wpAnyH_done (by kernel_rfl) ?_ _
    go_wp2_with fail
    go_ret
    exact ⟨false, rfl, ⟨(fun h => by cases h), (fun h => by have h1 := h.1; have h2 := HD.out; omega)⟩, (HAL.out.mono (by have := HP.out; omega)).drew, by simp, fun b hb _ _ => HAL.out.block b hb⟩
/-- A book in a box. -/
def BkBox (W : World) (B : Nat) (t : Int) (v : Value) (c : Int) : Prop := W.heap[B]? = some (.cells #[.int .i64 t, v, .int .i64 c] 24 (0, 0))
section
variable {W W' : World} {B : Nat} {t c : Int} {v : Value}
theorem BkBox.lt (h : BkBox W B t v c) : B < W.heap.size := (Array.getElem?_eq_some_iff.1 h).1
theorem BkBox.cells (h : BkBox W B t v c) : W.cell? ⟨B, 0, none⟩ = some (.int .i64 t) ∧ W.cell? ⟨B, 1, none⟩ = some v ∧ W.cell? ⟨B, 2, none⟩ = some (.int .i64 c) := by
  simp [World.cell?, show W.heap[B]? = _ from h]
theorem BkBox.free (h : BkBox W B t v c) (i : Nat) : W.frozen? ⟨B, i, none⟩ = false := by
  unfold World.frozen?
  rw [show W.heap[B]? = _ from h]
  simp
theorem BkBox.below (h : BkBox W B t v c) (hb : Below W.heap.size W W') : BkBox W' B t v c := (hb.block _ h.lt).trans h
theorem BkBox.low {F : Nat} (h : BkBox W B t v c) (hb : Below F W W') (hF : B < F) : BkBox W' B t v c := (hb.block _ hF).trans h
theorem BkBox.new (W : World) (t c : Int) (v : Value) : BkBox (W.alloc (.cells #[.int .i64 t, v, .int .i64 c] 24)) W.heap.size t v c := World.alloc_heap_new W _
end
theorem readsP_far {W : World} {p : Option Addr} {n : Nat} {g : Nat → Pst} (h : ReadsP W p n g) {b : Nat} (hb : ∀ a, p = some a → b < a.block) (i : Nat) (v : Value) : ReadsP (W.setCell ⟨b, i, none⟩ v) p n g := fun j hj => by
  obtain ⟨b', off, hp, hc⟩ := h j hj
  have hne : b < b' := hb _ hp
  exact ⟨b', off, hp, fun l hl c hc' => (World.cell?_setCell_far W ⟨b, i, none⟩ ⟨b', off + l * 7 + c, none⟩ v (by show b ≠ b'; omega)).trans (hc l hl c hc')⟩
theorem readsP_three {W : World} {p : Option Addr} {n : Nat} {g : Nat → Pst} (h : ReadsP W p n g) {b : Nat} (hb : ∀ a, p = some a → b < a.block) (v0 v1 v2 : Value) :
    ReadsP (((W.setCell ⟨b, 0, none⟩ v0).setCell ⟨b, 1, none⟩ v1).setCell ⟨b, 2, none⟩ v2) p n g := readsP_far (readsP_far (readsP_far h hb 0 v0) hb 1 v1) hb 2 v2
theorem below_three {B : Nat} {w W : World} (h : Below B w W) {b : Nat} (hb : B ≤ b) (v0 v1 v2 : Value) : Below B w (((W.setCell ⟨b, 0, none⟩ v0).setCell ⟨b, 1, none⟩ v1).setCell ⟨b, 2, none⟩ v2) := Below_set (Below_set (Below_set h hb v0) hb v1) hb v2
def snocP (g : Nat → Pst) (n : Nat) (p : Pst) : Nat → Pst := fun i => if i = n then p else g i
theorem snocP_flat (g : Nat → Pst) (n : Nat) (p : Pst) : flatP (snocP g n p) (n + 1) = flatP g n ++ p.cells.toList := by
  rw [flatP_succ, show snocP g n p n = p from if_pos rfl]
  congr 1
  exact flatP_congr n fun i hi => if_neg (by omega)
theorem TakesOk.congr {f g : Nat → Pst} {n : Nat} {bk bk' : Nat → Bool} {top : Int} {p : Pst} (h : TakesOk f n bk top p) (e : ∀ i, i < n → g i = f i) (eb : bk' = bk) : TakesOk g n bk' top p := by
  subst eb
  refine ⟨h.1, h.2.1, fun hn => by rw [e (n - 1) (by omega)]; exact h.2.2.1 hn, fun hk => ?_⟩
  obtain ⟨h1, h2, h3⟩ := h.2.2.2 hk
  refine ⟨h1, h2, ?_⟩
  have ho : within p.of 0 199 := by
    rcases h.2.1.2.2.2.2.2.2 with hh | hh
    · omega
    · exact hh.2
  unfold within at ho
  rw [e _ (by omega)]
  exact h3
theorem bkOf_congr {f g : Nat → Pst} : ∀ n, (∀ i, i < n → g i = f i) → bkOf g n = bkOf f n
  | 0, _ => rfl
  | n + 1, h => by
    show bkNext (bkOf g n) (g n) = bkNext (bkOf f n) (f n)
    rw [bkOf_congr n (fun i hi => h i (by omega)), h n (by omega)]
theorem BookOk.congr {teams closed : Int} {n : Nat} {f g : Nat → Pst} (h : BookOk teams closed n f) (e : ∀ i, i < n → g i = f i) : BookOk teams closed n g :=
  ⟨h.1, fun i hi => by rw [e i hi]; exact (h.2 i hi).congr (fun j hj => e j (by omega)) (bkOf_congr i fun j hj => e j (by omega))⟩
theorem bookOk_snoc {teams closed : Int} {n : Nat} {g : Nat → Pst} {p : Pst} : BookOk teams closed (n + 1) (snocP g n p) ↔ BookOk teams closed n g ∧ TakesOk g n (bkOf g n) (teams - 1) p := by
  have e : ∀ i, i < n → snocP g n p i = g i := fun i hi => if_neg (by omega)
  constructor
  · intro h
    refine ⟨(show BookOk teams closed n (snocP g n p) from ⟨h.1, fun i hi => h.2 i (by omega)⟩).congr (fun i hi => (e i hi).symm), ?_⟩
    have h1 := h.2 n (by omega)
    rw [show snocP g n p n = p from if_pos rfl] at h1
    exact h1.congr (fun j hj => (e j hj).symm) (bkOf_congr n fun j hj => (e j hj).symm)
  · rintro ⟨h1, h2⟩
    refine ⟨h1.1, fun i hi => ?_⟩
    by_cases hin : i = n
    · subst hin
      rw [show snocP g i p i = p from if_pos rfl]
      exact h2.congr (fun j hj => e j hj) (bkOf_congr i fun j hj => e j hj)
    · exact (h1.congr e).2 i (by omega)
def PostGood (teams closed : Int) (n : Nat) (g : Nat → Pst) (p : Pst) : Prop := BookOk teams closed n g ∧ 30 * closed ≤ p.day ∧ TakesOk g n (bkOf g n) (teams - 1) p
/-- What Post answers. -/
def PostSpec (teams closed : Int) (n : Nat) (g : Nat → Pst) (p : Pst) (t' c' : Int) (k : Nat) (g' : Nat → Pst) (idx er : Int) : Prop :=
  (PostGood teams closed n g p ∧ er = 0 ∧ idx = n ∧ k = n + 1 ∧ t' = teams ∧ c' = closed ∧ ∀ i, i < n + 1 → g' i = snocP g n p i) ∨ (¬ PostGood teams closed n g p ∧ er = 270 ∧ idx = 0 ∧ k = 0 ∧ t' = 0 ∧ c' = 0)
theorem own_capP {W : World} {base e size n c : Nat} {p : Option Addr} {xs : List Value} (h : W.ownsRow base e size (.slice p n c) n xs) : n ≤ c := by
  rcases h.2 with ⟨h1, h2⟩ | ⟨G, cap, cur, h1, _, _, h2, _⟩
  · cases h1
    exact Nat.le_refl _
  · cases h1
    exact h2
/-- A call that answers as Post does; the postings have room. -/
def IsPostC (w : World) (teams closed : Int) (n : Nat) (g : Nat → Pst) (p : Pst) (e : Ending) (w' : World) : Prop :=
  ∃ (t' c' : Int) (q : Option Addr) (k kc : Nat) (g' : Nat → Pst) (idx er : Int), e = .returned (.tuple #[.agg #[.int .i64 t', .slice q k kc, .int .i64 c'], .int .i64 idx, .int .i64 er]) ∧
    PostSpec teams closed n g p t' c' k g' idx er ∧ ReadsP w' q k g' ∧ (∀ a, q = some a → w.heap.size ≤ a.block) ∧ k ≤ kc ∧ Below w.heap.size w w'
theorem IsPostC.bad {w w' : World} {teams closed : Int} {n : Nat} {g : Nat → Pst} {p : Pst} {e : Ending} (h : ¬ PostGood teams closed n g p) (he : e = .returned (.tuple #[.agg #[.int .i64 0, .slice none 0 0, .int .i64 0], .int .i64 0, .int .i64 270])) (hb : Below w.heap.size w w') : IsPostC w teams closed n g p e w' :=
  ⟨0, 0, none, 0, 0, g, 0, 270, he, .inr ⟨h, rfl, rfl, rfl, rfl, rfl⟩, fun i hi => by omega, nofun, Nat.le_refl _, hb⟩
/-- A call that answers as Post does. -/
def IsPostA (w : World) (teams closed : Int) (n : Nat) (g : Nat → Pst) (p : Pst) (e : Ending) (w' : World) : Prop :=
  ∃ (t' c' : Int) (q : Option Addr) (k kc : Nat) (g' : Nat → Pst) (idx er : Int), e = .returned (.tuple #[.agg #[.int .i64 t', .slice q k kc, .int .i64 c'], .int .i64 idx, .int .i64 er]) ∧
    PostSpec teams closed n g p t' c' k g' idx er ∧ ReadsP w' q k g' ∧ (∀ a, q = some a → w.heap.size ≤ a.block) ∧ Below w.heap.size w w'
theorem IsPostA.bad {w w' : World} {teams closed : Int} {n : Nat} {g : Nat → Pst} {p : Pst} {e : Ending} (h : ¬ PostGood teams closed n g p) (he : e = .returned (.tuple #[.agg #[.int .i64 0, .slice none 0 0, .int .i64 0], .int .i64 0, .int .i64 270])) (hb : Below w.heap.size w w') : IsPostA w teams closed n g p e w' :=
  ⟨0, 0, none, 0, 0, g, 0, 270, he, .inr ⟨h, rfl, rfl, rfl, rfl, rfl⟩, fun i hi => by omega, nofun, hb⟩
set_option maxRecDepth 100000 in
set_option maxHeartbeats 4000000 in
theorem Post_cap (teams closed : Int) (q : Option Addr) (n c : Nat) (g : Nat → Pst) (p : Pst) (w : World) (hn : n ≤ maxLen) (hr : ReadsP w q n g) :
    Calls Tryd.prog 17 #[.agg #[.int .i64 teams, .slice q n c, .int .i64 closed], .agg p.cells] w (IsPostC w teams closed n g p) := by
  have hb1 := BkBox.new w teams closed (.slice q n c)
  have hal1 : Below w.heap.size w (w.alloc (.cells #[.int .i64 teams, .slice q n c, .int .i64 closed] 24)) := (Below.refl _ _).alloc (Nat.le_refl _) _
  obtain ⟨w1, hw1⟩ : ∃ w1, w.alloc (.cells #[.int .i64 teams, .slice q n c, .int .i64 closed] 24) = w1 := ⟨_, rfl⟩
  have hz1 : w1.heap.size = w.heap.size + 1 := by rw [← hw1, World.size_alloc]
  rw [hw1] at hb1 hal1
  have hal2 : Below w1.heap.size w1 (w1.alloc (.cells p.cells 27)) := (Below.refl _ _).alloc (Nat.le_refl _) _
  have hp2 := PCells.new w1 p 27
  obtain ⟨w2, hw2⟩ : ∃ w2, w1.alloc (.cells p.cells 27) = w2 := ⟨_, rfl⟩
  have hz2 : w2.heap.size = w.heap.size + 2 := by rw [← hw2, World.size_alloc, hz1]
  rw [hw2] at hal2 hp2
  rw [hz1] at hp2
  have hal3 : Below w2.heap.size w2 (w2.alloc (.cells #[.int .i64 0, .slice none 0 0, .int .i64 0] 24)) := (Below.refl _ _).alloc (Nat.le_refl _) _
  have hr3 := BkBox.new w2 0 0 (.slice none 0 0)
  obtain ⟨w3, hw3⟩ : ∃ w3, w2.alloc (.cells #[.int .i64 0, .slice none 0 0, .int .i64 0] 24) = w3 := ⟨_, rfl⟩
  have hz3 : w3.heap.size = w.heap.size + 3 := by rw [← hw3, World.size_alloc, hz2]
  rw [hw3] at hal3 hr3
  rw [hz2] at hr3
  have hb3 := (hb1.below hal2).below hal3
  have hp3 := hp2.below hal3
  have hB3 : Below w.heap.size w w3 := (hal1.trans (hal2.mono hal1.size)).trans (hal3.mono (Nat.le_trans hal1.size hal2.size))
  have hW : ((w.alloc (.cells #[.int .i64 teams, .slice q n c, .int .i64 closed] 24)).alloc (.cells p.cells 27)).alloc (.cells #[.int .i64 0, .slice none 0 0, .int .i64 0] 24) = w3 := by rw [hw1, hw2, hw3]
  have HW := Lib.hid hW
  have HO := Lib.hid (open_any teams closed q n c g w3 hn (hr.below hB3))
  have HB3 := Lib.hid hB3
  have HZ3 := Lib.hid hz3
  have HR3 := Lib.hid hr3
  have HBK3 := Lib.hid hb3
  have HP3 := Lib.hid hp3
  obtain ⟨b0, b1, b2⟩ := hb3.cells
  clear hr hb1 hal1 hw1 hz1 hal2 hp2 hw2 hz2 hal3 hr3 hw3 hz3 hb3 hp3 hB3 hW
  go_enter Tryd.func17, Tryd.ntmps17
  go_upto_region 1 with fail
  obtain ⟨S, hS⟩ : ∃ S, w.heap.size = S := ⟨_, rfl⟩
  have HS := Lib.hid hS
  rw [hS] at HR3 HBK3 HP3 HZ3 b0 b1 b2
  rw [HW.out, hS]
  clear hS HW
  go_wp2_with fail
  refine HO.out.mono ?_
  rintro e w4 ⟨qq, r, rfl, hiff, hb4, hst⟩
  have hr4 := HR3.out.below hb4
  have hbk4 := HBK3.out.below hb4
  have hp4 := HP3.out.below hb4
  have HB4 := Lib.hid (HB3.out.trans (hb4.mono HB3.out.size))
  have HIFF := Lib.hid hiff
  obtain ⟨r0, r1, r2⟩ := hr4.cells
  have f0 := hr4.free 0
  have f1 := hr4.free 1
  have f2 := hr4.free 2
  clear b0 b1 b2 hiff
  cases r with
  | false =>
    have HNO : Hid (¬ PostGood teams closed n g p) := Lib.hid (fun h => by have := HIFF.out.2 h.1; simp at this)
    have hBf := Below_set (Below_set (Below_set HB4.out (b := S + 2) (i := 0) (by have := HS.out; omega) (.int .i64 0)) (b := S + 2) (i := 1) (by have := HS.out; omega) (.slice none 0 0)) (b := S + 2) (i := 2) (by have := HS.out; omega) (.int .i64 0)
    have HBF := Lib.hid hBf
    clear hst hb4 hBf
    go_wp2_with fail
    refine bodyPost_ret (v := .tuple #[.agg #[.int .i64 0, .slice none 0 0, .int .i64 0], .int .i64 0, .int .i64 270]) (by simp [results, Tryd.results17, go_sem, r0, r1, r2]) rfl ?_
    exact IsPostC.bad HNO.out rfl HBF.out
  | true =>
    obtain ⟨B, base, v, rfl, hBb, hbs, hBl, hx, hrow⟩ := hst rfl
    have hok : BookOk teams closed n g := HIFF.out.1 (by trivial)
    have HOK := Lib.hid hok
    have htop : IntKind.i64.wrap (teams - 1) = teams - 1 := by
      have := hok.1.1
      unfold within at this
      exact IntWalk.i64_in _ (by omega)
    have HTOP := Lib.hid htop
    have HPO := Lib.hid (post_any B base teams closed v n g (bkOf g n) p w4 hx hrow hBb hbs hok.small hok.1.2)
    have HR4 := Lib.hid hr4
    have HBK4 := Lib.hid hbk4
    obtain ⟨q0, q1, q2, q3, q4, q5, q6⟩ := hp4
    have hSB : S + 2 < B := by have := HZ3.out; omega
    clear hst hb4 hok htop hx hrow hr4 hbk4
    go_wp2_with fail
    refine HPO.out.mono ?_
    rintro e w5 ⟨r, rfl, hiff5, hb5, hst5, _⟩
    rw [HTOP.out] at hiff5
    have hr5 := HR4.out.low hb5 hSB
    have hbk5 := HBK4.out.low hb5 (by omega)
    have hB5 := HB4.out.trans (hb5.mono (by have := HS.out; omega))
    clear r0 r1 r2 f0 f1 f2
    obtain ⟨r0, r1, r2⟩ := hr5.cells
    obtain ⟨b0, b1, b2⟩ := hbk5.cells
    have f0 := hr5.free 0
    have f1 := hr5.free 1
    have f2 := hr5.free 2
    clear q0 q1 q2 q3 q4 q5 q6
    cases r with
    | false =>
      have HNO : Hid (¬ PostGood teams closed n g p) := Lib.hid (fun h => by have := hiff5.2 h.2; simp at this)
      have HBF := Lib.hid (below_three hB5 (b := S + 2) (by have := HS.out; omega) (.int .i64 0) (.slice none 0 0) (.int .i64 0))
      clear hst5 hb5 hiff5
      go_wp2_with fail
      refine bodyPost_ret (v := .tuple #[.agg #[.int .i64 0, .slice none 0 0, .int .i64 0], .int .i64 0, .int .i64 270]) (by simp [results, Tryd.results17, go_sem, r0, r1, r2]) rfl ?_
      exact IsPostC.bad HNO.out rfl HBF.out
    | true =>
      obtain ⟨v', hx5, hrow5⟩ := hst5 rfl
      rw [← snocP_flat] at hrow5
      obtain ⟨pp, cc, rfl, hrd5, hpb⟩ := own_readsP hrow5
      have HCP := Lib.hid (own_capP hrow5)
      have HPG : Hid (PostGood teams closed n g p) := Lib.hid ⟨HOK.out, hiff5.1 (by trivial)⟩
      have HRD5 := Lib.hid (readsP_three hrd5 (b := S + 2) (fun a h => by have := hpb a h; omega) (.int .i64 teams) (.slice pp (n + 1) cc) (.int .i64 closed))
      have HBF := Lib.hid (below_three hB5 (b := S + 2) (by have := HS.out; omega) (.int .i64 teams) (.slice pp (n + 1) cc) (.int .i64 closed))
      have HPB : Hid (∀ a, pp = some a → w.heap.size ≤ a.block) := Lib.hid (fun a h => by have := hpb a h; have := HS.out; omega)
      obtain ⟨l0, l1, l2, _⟩ := hx5.cells
      clear hst5 hb5 hiff5 hx5 hrow5 hrd5 hpb
      go_wp2_with fail
      go_region
      all_goals (try go_wp2_with fail)
      refine bodyPost_ret (v := .tuple #[.agg #[.int .i64 teams, .slice pp (n + 1) cc, .int .i64 closed], .int .i64 n, .int .i64 0]) (by simp [results, Tryd.results17, go_sem, r0, r1, r2]) rfl ?_
      exact ⟨teams, closed, pp, n + 1, cc, snocP g n p, n, 0, rfl, .inl ⟨HPG.out, rfl, rfl, rfl, rfl, rfl, fun i _ => rfl⟩, HRD5.out, HPB.out, HCP.out, HBF.out.drew⟩
theorem Post_any (teams closed : Int) (q : Option Addr) (n c : Nat) (g : Nat → Pst) (p : Pst) (w : World) (hn : n ≤ maxLen) (hr : ReadsP w q n g) :
    Calls Tryd.prog 17 #[.agg #[.int .i64 teams, .slice q n c, .int .i64 closed], .agg p.cells] w (IsPostA w teams closed n g p) :=
  (Post_cap teams closed q n c g p w hn hr).mono fun _ _ ⟨t', c', q', k, kc, g', idx, er, h1, h2, h3, h4, _, h6⟩ => ⟨t', c', q', k, kc, g', idx, er, h1, h2, h3, h4, h6⟩
end Go.Proofs.YtcfplkbbgjiocaaDoor
