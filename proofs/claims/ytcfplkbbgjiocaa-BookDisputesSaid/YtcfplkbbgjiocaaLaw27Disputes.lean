/- BookDisputes: the law's body returns true. Conditions: deeds that can be read; numbers of 64 bits. -/
import Derived.Test.YtcfplkbbgjiocaaBookKeepLaw
import Derived.Deep.DeepCutAuto
namespace Go.Proofs.Ytcfplkbbgjiocaa
open Go Go.RowKit Go.Shelf
theorem bk_step {g : Nat → Pst} {top : Int} {k i : Nat} (h : Formed (g k) top) : bkOf g (k + 1) i = (bkOf g k i || decide ((g k).of = (i : Int))) := by
  have hf := h.2.2.2.2.2.2
  unfold within at hf
  show bkNext (bkOf g k) (g k) i = _
  unfold bkNext
  by_cases e : (g k).kind = 2 ∧ i = (g k).of.toNat
  · rw [if_pos e, show decide ((g k).of = (i : Int)) = true from decide_eq_true (by omega)]
    simp
  · rw [if_neg e, show decide ((g k).of = (i : Int)) = false from decide_eq_false (by omega)]
    simp
theorem readsI_set {W : World} {b o n c : Nat} {f : Nat → Int} (h : ReadsI W (some ⟨b, o, none⟩) n f) (hc : c < n) (v : Int) : ReadsI (W.setCell ⟨b, o + c, none⟩ (.int .i64 v)) (some ⟨b, o, none⟩) n (fun j => if j = c then v else f j) := fun i hi => by
  obtain ⟨b', o', hp, hcs⟩ := h i hi
  cases hp
  refine ⟨b, o, rfl, fun j hj => ?_⟩
  show _ = some (Value.int .i64 (if j = c then v else f j))
  by_cases e : j = c
  · subst e
    rw [if_pos rfl]
    exact World.cell?_setCell_same W _ _ (hcs j hj)
  · rw [if_neg e]
    exact (World.cell?_setCell_other W ⟨b, o + c, none⟩ ⟨b, o + j, none⟩ _ (by intro x; injection x; omega)).trans (hcs j hj)
theorem free_at {W : World} {b o : Nat} (h : FreeAt W (some ⟨b, o, none⟩)) (i : Nat) : W.frozen? ⟨b, i, none⟩ = false := by
  obtain ⟨cs, t, h⟩ := h _ rfl
  have h2 : W.heap[b]? = some (.cells cs t (0, 0)) := h
  unfold World.frozen?
  rw [h2]
  simp
theorem FreeAt.set {W : World} {b o : Nat} (h : FreeAt W (some ⟨b, o, none⟩)) (i : Nat) (v : Value) : FreeAt (W.setCell ⟨b, i, none⟩ v) (some ⟨b, o, none⟩) := fun a ha => by
  obtain ⟨cs, t, h⟩ := h a ha
  cases ha
  exact ⟨_, t, heap_set h v⟩
theorem readsI_off {W : World} {p : Option Addr} {n : Nat} {f : Nat → Int} (h : ReadsI W p n f) {b : Nat} (hb : 0 < n → ∀ a, p = some a → a.block ≠ b) (i : Nat) (v : Value) : ReadsI (W.setCell ⟨b, i, none⟩ v) p n f := fun j hj => by
  obtain ⟨B, off, hp, hc⟩ := h j hj
  have := hb (by omega) _ hp
  exact ⟨B, off, hp, fun k hk => (World.cell?_setCell_far W ⟨b, i, none⟩ ⟨B, off + k, none⟩ v (fun e => this e.symm)).trans (hc k hk)⟩
/-- What is owed before and behind a dispute. -/
structure Moved (tn : Nat) (yes : Prop) (cn dn : Nat) (a ap : Int) (f f' : Nat → Int) : Prop where
  bd : ∀ j, j < tn → -50000000000 ≤ f j ∧ f j ≤ 50000000000
  off : ¬ yes → ∀ j, j < tn → f j = f' j
  on : yes → ∀ j, j < tn → (if j = dn then f dn + a - ap else if j = cn then f cn - a + ap else f j) = f' j
theorem moved_of {tn : Nat} {yes : Prop} [Decidable yes] {p : Pst} {cn dn : Nat} {dy ap : Int} {f f' : Nat → Int} (hc : p.cre = (cn : Int)) (hd : p.deb = (dn : Int)) (hcd : cn ≠ dn) (hb : ∀ j, j < tn → -50000000000 ≤ f j ∧ f j ≤ 50000000000)
    (h : ∀ j : Nat, j < tn → f' j = f j + if yes then instead p dy ap j else 0) : Moved tn yes cn dn p.amt ap f f' := by
  refine ⟨hb, fun hn j hj => by rw [h j hj, if_neg hn]; omega, fun hy j hj => ?_⟩
  rw [h j hj, if_pos hy]
  unfold instead eff newP
  show _ = f j + (((if p.cre = (j : Int) then ap else 0) - (if p.deb = (j : Int) then ap else 0)) - ((if p.cre = (j : Int) then p.amt else 0) - (if p.deb = (j : Int) then p.amt else 0)))
  rw [hc, hd]
  by_cases e1 : j = dn
  · subst e1
    rw [if_pos rfl, if_neg (by omega), if_pos rfl, if_neg (by omega), if_pos rfl]
    omega
  · rw [if_neg e1]
    by_cases e2 : j = cn
    · subst e2
      rw [if_pos rfl, if_pos rfl, if_neg (by omega), if_pos rfl, if_neg (by omega)]
      omega
    · rw [if_neg e2, if_neg (by omega), if_neg (by omega), if_neg (by omega), if_neg (by omega)]
      omega
theorem disp_no {tn n k i : Nat} {closed day amount : Int} {g g2 : Nat → Pst} (h : Disputed n i k g g2 day amount) (hk : (g i).kind = 1) : ¬ DispGood (tn : Int) closed k g2 (i : Int) day amount := fun hg => by
  have h1 := ((hg.2.2.2.2.1).2.2.2 rfl).2.1
  rw [show ((backP (g2 (i : Int).toNat) (i : Int) day).of).toNat = i from rfl, disp_bk h hk i, if_pos rfl] at h1
  cases h1
theorem stat_good' {tn n k : Nat} {closed month er : Int} {g : Nat → Pst} {f : Nat → Int} (h : StatSpec (tn : Int) closed n g month k f er) (hok : BookOk (tn : Int) closed n g) (hm : 0 ≤ month ∧ month ≤ 11) : er = 0 ∧ k = tn ∧ ∀ i, i < tn → f i = balF g month i n := by
  rcases h with ⟨_, h1, h2, h3⟩ | ⟨hno, _⟩
  · obtain rfl : k = tn := by omega
    exact ⟨h1, rfl, h3⟩
  · exact absurd ⟨hok, hm⟩ hno
theorem owed_good' {tn n k : Nat} {closed sub er : Int} {g : Nat → Pst} {f : Nat → Int} (h : OwedSpec (tn : Int) closed n g sub k f er) (hok : BookOk (tn : Int) closed n g) (hm : 0 ≤ sub ∧ sub ≤ 999) : er = 0 ∧ k = tn ∧ ∀ i, i < tn → f i = sumD (owedD g n sub) g i n := by
  rcases h with ⟨_, h1, h2, h3⟩ | ⟨hno, _⟩
  · obtain rfl : k = tn := by omega
    exact ⟨h1, rfl, h3⟩
  · exact absurd ⟨hok, hm⟩ hno
set_option maxRecDepth 100000 in
set_option maxHeartbeats 8000000 in
theorem bookDisputes_any (x : Int) (q0 : Option Addr) (m0 c0 : Nat) (h : Nat → Nat → Int) (wh lt am : Int) (w : World) (hin : ArrsIn w q0 m0 h) (bx : -9223372036854775808 ≤ x ∧ x ≤ 9223372036854775807)
    (bw : -9223372036854775808 ≤ wh ∧ wh ≤ 9223372036854775807) (bl : -9223372036854775808 ≤ lt ∧ lt ≤ 9223372036854775807) (ba : -9223372036854775808 ≤ am ∧ am ≤ 9223372036854775807) :
    Calls Try.prog 6 #[.int .i64 x, .slice q0 m0 c0, .int .i64 wh, .int .i64 lt, .int .i64 am] w fun e w' => e = .returned (.bool true) ∧ Below w.heap.size w w' := by
  have HIN := Lib.hid hin
  have HBX := Lib.hid bx
  have BW := Lib.hid bw
  have BL := Lib.hid bl
  have BA := Lib.hid ba
  clear hin bx bw bl ba
  go_enter Try.func6, Try.ntmps6
  go_wp2_with fail
  refine (sane_any _).mono ?_
  rintro e w1 ⟨rfl, hb1⟩
  go_wp2_with fail
  refine (Made_any x q0 m0 c0 h w1 (HIN.out.below hb1) HBX.out).mono ?_
  rintro e w2 ⟨tn, n, c, closed, q, g, rfl, hok, hn48, hsub, hrd2, _, hb2⟩
  have hal3 : Below w2.heap.size w2 (w2.alloc (.cells #[.int .i64 (tn : Int), .slice q n c, .int .i64 closed] 24)) := (Below.refl _ _).alloc (Nat.le_refl _) _
  have hx3 := BkBox.new w2 (tn : Int) closed (.slice q n c)
  obtain ⟨w3, hw3⟩ : ∃ w3, w2.alloc (.cells #[.int .i64 (tn : Int), .slice q n c, .int .i64 closed] 24) = w3 := ⟨_, rfl⟩
  have HW3 := Lib.hid hw3
  rw [hw3] at hal3 hx3
  have HB3 := Lib.hid ((hb1.trans (hb2.mono hb1.size)).trans (hal3.mono (Nat.le_trans hb1.size hb2.size)))
  have HX3 := Lib.hid hx3
  have HR3 := Lib.hid (hrd2.below hal3)
  have HOK := Lib.hid hok
  have htn := hok.1.1
  unfold within at htn
  have HTB : Hid (2 ≤ tn ∧ tn ≤ 4) := Lib.hid (by omega)
  have HCL : Hid (0 ≤ closed ∧ closed ≤ 12) := Lib.hid hok.1.2
  have hf48 : Hid (∀ i, i < n → Formed (g i) ((tn : Int) - 1)) := Lib.hid (fun i hi => (hok.2 i hi).2.1)
  clear hb1 hb2 hal3 hx3 hw3 hrd2 hok hsub htn
  go_upto_region 3 with fail
  rw [HW3.out]
  obtain ⟨A, hA⟩ : ∃ A, w2.heap.size = A := ⟨_, rfl⟩
  rw [hA] at HX3
  rw [hA]
  clear HW3 hA
  obtain ⟨a0, a1, a2⟩ := HX3.out.cells
  by_cases hn0 : n = 0
  · subst hn0
    go_wp2_with fail
    refine bodyPost_ret (v := .bool true) (by simp [results, Try.results6, go_sem]) rfl ⟨rfl, HB3.out⟩
  · have np : ¬ (n : Int) = 0 := by omega
    have nb : ((n : Int) == 0) = false := by simp [hn0]
    have hp1 := pickN_lt wh (show 0 < n by omega)
    have HP1 := Lib.hid (fun W => pick_any wh (n : Int) n W rfl BW.out.1 BW.out.2 (by omega) (by omega))
    have HP2 := Lib.hid (fun W => pick_any lt 60 60 W rfl BL.out.1 BL.out.2 (by omega) (by omega))
    have HP3 := Lib.hid (fun W => pick_any am 1000 1000 W rfl BA.out.1 BA.out.2 (by omega) (by omega))
    have hp2 := pickN_lt lt (show 0 < 60 by omega)
    have hp3 := pickN_lt am (show 0 < 1000 by omega)
    obtain ⟨i, hi⟩ : ∃ i, pickN wh n = i := ⟨_, rfl⟩
    obtain ⟨lp, hlp⟩ : ∃ i, pickN lt 60 = i := ⟨_, rfl⟩
    obtain ⟨ap, hap⟩ : ∃ i, pickN am 1000 = i := ⟨_, rfl⟩
    rw [hi] at hp1 HP1
    rw [hlp] at hp2 HP2
    rw [hap] at hp3 HP3
    clear hi hlp hap
    obtain ⟨bq, oq, rfl, hcs⟩ := HR3.out i hp1
    have hpc : PCells w3 bq (oq + i * 7) (g i) := pcells_of (hcs i hp1)
    obtain ⟨p0, p1, p2, p3, p4, p5, p6⟩ := hpc
    clear hcs
    have v1 : (i : Int) < (n : Int) := by omega
    have v2 : (0 : Int) ≤ (i : Int) := by omega
    obtain ⟨cn, dn, e1, e2, hc4, hd4, hcd, hct, hdt, ha0, ha1⟩ := formed_teams (hf48.out i hp1) HTB.out.2
    have HE1 := Lib.hid e1
    have HE2 := Lib.hid e2
    clear e1 e2
    have hal : Below w3.heap.size w3 (w3.alloc (.cells (g i).cells 27)) := (Below.refl _ _).alloc (Nat.le_refl _) _
    have hpb := PBox.new w3 (g i)
    obtain ⟨w4, hw4⟩ : ∃ w4, w3.alloc (.cells (g i).cells 27) = w4 := ⟨_, rfl⟩
    have HW4 := Lib.hid (show w3.alloc (.cells #[.int .i64 (g i).kind, .int .i64 (g i).day, .int .i64 (g i).deb, .int .i64 (g i).cre, .int .i64 (g i).amt, .int .i64 (g i).sub, .int .i64 (g i).of] 27) = w4 from hw4)
    rw [hw4] at hal hpb
    have HR4 := Lib.hid (HR3.out.below hal)
    have HX4 := Lib.hid (HX3.out.below hal)
    have HB4 := Lib.hid (HB3.out.trans (hal.mono HB3.out.size))
    clear hal hw4
    go_upto_region 7 with (go_at_call 14; refine (HP1.out _).mono ?_; rintro e w1 ⟨rfl, rfl⟩)
    rw [HW4.out]
    obtain ⟨P, hP⟩ : ∃ P, w3.heap.size = P := ⟨_, rfl⟩
    rw [hP] at hpb
    rw [hP]
    have HPB4 := Lib.hid hpb
    clear hP HW4 hpb p0 p1 p2 p3 p4 p5 p6 a0 a1 a2 HX3 HR3
    obtain ⟨a0, a1, a2⟩ := HX4.out.cells
    obtain ⟨nl, hnl⟩ : ∃ nl : Nat, n = nl + 1 := ⟨n - 1, by omega⟩
    have gL : IntKind.i64.wrap ((n : Int) - 1) = (nl : Int) := by
      rw [hnl]
      rw [IntWalk.i64_in _ (by omega)]
      omega
    have v3 : (nl : Int) < (n : Int) := by omega
    have v4 : (0 : Int) ≤ (nl : Int) := by omega
    have HNL := Lib.hid hnl
    obtain ⟨dl, hdl⟩ : ∃ dl, (g nl).day = dl := ⟨_, rfl⟩
    have hday : 0 ≤ dl ∧ dl ≤ 359 := by
      have := (hf48.out nl (by omega)).1
      unfold within at this
      omega
    have hcl := HCL.out
    have gM : IntKind.i64.wrap (30 * closed) = 30 * closed := IntWalk.i64_in _ (by omega)
    obtain ⟨mx, hmx, hm1, hm2⟩ : ∃ mx : Int, (if dl < 30 * closed then 30 * closed else dl) = mx ∧ dl ≤ mx ∧ 30 * closed ≤ mx ∧ mx ≤ 360 := ⟨_, rfl, by split <;> omega, by split <;> omega⟩
    obtain ⟨hd1, hd2⟩ := hday
    have hmx2 : (if 30 * closed < dl then dl else 30 * closed) = mx := by rw [← hmx]; split <;> split <;> omega
    have hmx0 : 0 ≤ mx := by omega
    have gA : IntKind.i64.wrap (mx + (lp : Int)) = mx + (lp : Int) := IntWalk.i64_in _ (by omega)
    obtain ⟨dy, hdy, hy1, hy2, hy3, hy4⟩ : ∃ dy : Int, (if mx + (lp : Int) < 359 then mx + (lp : Int) else 359) = dy ∧ dy ≤ 359 ∧ dl ≤ dy ∧ (closed ≤ 11 → 30 * closed ≤ dy) ∧ 0 ≤ dy := ⟨_, rfl, by split <;> omega, by split <;> omega, by split <;> omega, by split <;> omega⟩
    have HKS : Hid (∀ W, Below w4.heap.size w4 W → (W.cell? ⟨A, 0, none⟩ = some (.int .i64 (tn : Int)) ∧ W.cell? ⟨A, 1, none⟩ = some (.slice (some ⟨bq, oq, none⟩) n c) ∧ W.cell? ⟨A, 2, none⟩ = some (.int .i64 closed)) ∧ W.cell? ⟨bq, oq + nl * 7 + 1, none⟩ = some (.int .i64 dl)) := Lib.hid (fun W hb => ⟨(HX4.out.below hb).cells, by
      obtain ⟨b', o', hp, hcs⟩ := (HR4.out.below hb) nl (by have := HNL.out; omega)
      cases hp
      rw [← hdl]
      exact hcs nl (by have := HNL.out; omega) 1 (by omega)⟩)
    clear hnl a0 a1 a2
    refine wp_region_held_drew (S := (fun W => (W.cell? ⟨A, 0, none⟩ = some (.int .i64 (tn : Int)) ∧ W.cell? ⟨A, 1, none⟩ = some (.slice (some ⟨bq, oq, none⟩) n c) ∧ W.cell? ⟨A, 2, none⟩ = some (.int .i64 closed)) ∧ W.cell? ⟨bq, oq + nl * 7 + 1, none⟩ = some (.int .i64 dl))) (by kernel_rfl) ?_ (fun hHeld => ?_)
    · exact HKS.out _ (Below.refl _ _).drew
    refine wpAnyH_take (i := 0) (v := ?_) rfl (by kernel_rfl) (by kernel_rfl) (by kernel_rfl) (fun _ _ _ h => h) (Or.inl ⟨by rfl, ?_⟩) (by assumption) ?_
    rotate_left
    · intro w hSw
      try dsimp only at hSw
      go_simp
      all_goals with_reducible rfl
    try simp only [Act.put, List.getElem_toArray, List.getElem_cons_zero, List.setIfInBounds_toArray, List.set_cons_zero, List.set_cons_succ]
    refine wpAnyH_take (i := 1) (v := ?_) rfl (by kernel_rfl) (by kernel_rfl) (by kernel_rfl) (fun _ _ _ h => h) (Or.inl ⟨by rfl, ?_⟩) (by assumption) ?_
    rotate_left
    · intro w hSw
      try dsimp only at hSw
      go_simp
      all_goals with_reducible rfl
    try simp only [Act.put, List.getElem_toArray, List.getElem_cons_succ, List.getElem_cons_zero, List.setIfInBounds_toArray, List.set_cons_zero, List.set_cons_succ]
    refine wpAnyH_take (i := 2) (v := ?_) rfl (by kernel_rfl) (by kernel_rfl) (by kernel_rfl) (fun _ _ _ h => h) (Or.inl ⟨by rfl, ?_⟩) (by assumption) ?_
    rotate_left
    · intro w hSw
      try dsimp only at hSw
      go_simp
      all_goals with_reducible rfl
    try simp only [Act.put, List.getElem_toArray, List.getElem_cons_succ, List.getElem_cons_zero, List.setIfInBounds_toArray, List.set_cons_zero, List.set_cons_succ]
    refine wpAnyH_take (i := 3) (v := ?_) rfl (by kernel_rfl) (by kernel_rfl) (by kernel_rfl) (fun _ _ _ h => h) (Or.inl ⟨by rfl, ?_⟩) (by assumption) ?_
    rotate_left
    · intro w hSw
      try dsimp only at hSw
      go_simp
      all_goals with_reducible rfl
    try simp only [Act.put, List.getElem_toArray, List.getElem_cons_succ, List.getElem_cons_zero, List.setIfInBounds_toArray, List.set_cons_zero, List.set_cons_succ]
    refine wpAnyH_take (i := 4) (v := ?_) rfl (by kernel_rfl) (by kernel_rfl) (by kernel_rfl) (fun _ _ _ h => h) (Or.inl ⟨by rfl, ?_⟩) (by assumption) ?_
    rotate_left
    · intro w hSw
      try dsimp only at hSw
      go_simp
      all_goals with_reducible rfl
    try simp only [Act.put, List.getElem_toArray, List.getElem_cons_succ, List.getElem_cons_zero, List.setIfInBounds_toArray, List.set_cons_zero, List.set_cons_succ]
    refine wpAnyH_take (i := 5) (v := ?_) rfl (by kernel_rfl) (by kernel_rfl) (by kernel_rfl) (fun _ _ _ h => h) (Or.inl ⟨by rfl, ?_⟩) (by assumption) ?_
    rotate_left
    · intro w hSw
      try dsimp only at hSw
      go_simp
      all_goals with_reducible rfl
    try simp only [Act.put, List.getElem_toArray, List.getElem_cons_succ, List.getElem_cons_zero, List.setIfInBounds_toArray, List.set_cons_zero, List.set_cons_succ]
    refine wpAnyH_take (i := 6) (v := ?_) rfl (by kernel_rfl) (by kernel_rfl) (by kernel_rfl) (fun _ _ _ h => h) (Or.inl ⟨by rfl, ?_⟩) (by assumption) ?_
    rotate_left
    · intro w hSw
      try dsimp only at hSw
      go_simp
      all_goals with_reducible rfl
    try simp only [Act.put, List.getElem_toArray, List.getElem_cons_succ, List.getElem_cons_zero, List.setIfInBounds_toArray, List.set_cons_zero, List.set_cons_succ]
    refine wpAnyH_take (i := 7) (v := ?_) rfl (by kernel_rfl) (by kernel_rfl) (by kernel_rfl) (fun _ _ _ h => h) (Or.inl ⟨by rfl, ?_⟩) (by assumption) ?_
    rotate_left
    · intro w hSw
      try dsimp only at hSw
      go_simp
      all_goals with_reducible rfl
    try simp only [Act.put, List.getElem_toArray, List.getElem_cons_succ, List.getElem_cons_zero, List.setIfInBounds_toArray, List.set_cons_zero, List.set_cons_succ]
    refine wpAnyH_take (i := 8) (v := ?_) rfl (by kernel_rfl) (by kernel_rfl) (by kernel_rfl) (fun _ _ _ h => h) (Or.inl ⟨by rfl, ?_⟩) (by assumption) ?_
    rotate_left
    · intro w hSw
      try dsimp only at hSw
      go_simp
      all_goals with_reducible rfl
    try simp only [Act.put, List.getElem_toArray, List.getElem_cons_succ, List.getElem_cons_zero, List.setIfInBounds_toArray, List.set_cons_zero, List.set_cons_succ]
    refine wpAnyH_take (i := 9) (v := ?_) rfl (by kernel_rfl) (by kernel_rfl) (by kernel_rfl) (fun _ _ _ h => h) (Or.inl ⟨by rfl, ?_⟩) (by assumption) ?_
    rotate_left
    · intro w hSw
      try dsimp only at hSw
      go_simp
      all_goals with_reducible rfl
    try simp only [Act.put, List.getElem_toArray, List.getElem_cons_succ, List.getElem_cons_zero, List.setIfInBounds_toArray, List.set_cons_zero, List.set_cons_succ]
    refine wpAnyH_take (i := 10) (v := ?_) rfl (by kernel_rfl) (by kernel_rfl) (by kernel_rfl) (fun _ _ _ h => h) (Or.inl ⟨by rfl, ?_⟩) (by assumption) ?_
    rotate_left
    · intro w hSw
      try dsimp only at hSw
      go_simp
      all_goals with_reducible rfl
    try simp only [Act.put, List.getElem_toArray, List.getElem_cons_succ, List.getElem_cons_zero, List.setIfInBounds_toArray, List.set_cons_zero, List.set_cons_succ]
    refine wpAnyH_take (i := 11) (v := ?_) rfl (by kernel_rfl) (by kernel_rfl) (by kernel_rfl) (fun _ _ _ h => h) (Or.inl ⟨by rfl, ?_⟩) (by assumption) ?_
    rotate_left
    · intro w hSw
      try dsimp only at hSw
      go_simp
      all_goals with_reducible rfl
    try simp only [Act.put, List.getElem_toArray, List.getElem_cons_succ, List.getElem_cons_zero, List.setIfInBounds_toArray, List.set_cons_zero, List.set_cons_succ]
    refine wpAnyH_take (i := 12) (v := ?_) rfl (by kernel_rfl) (by kernel_rfl) (by kernel_rfl) (fun _ _ _ h => h) (Or.inl ⟨by rfl, ?_⟩) (by assumption) ?_
    rotate_left
    · intro w hSw
      try dsimp only at hSw
      go_simp
      all_goals with_reducible rfl
    try simp only [Act.put, List.getElem_toArray, List.getElem_cons_succ, List.getElem_cons_zero, List.setIfInBounds_toArray, List.set_cons_zero, List.set_cons_succ]
    refine wpAnyH_take (i := 13) (v := ?_) rfl (by kernel_rfl) (by kernel_rfl) (by kernel_rfl) (fun _ _ _ h => h) (Or.inl ⟨by rfl, ?_⟩) (by assumption) ?_
    rotate_left
    · intro w hSw
      try dsimp only at hSw
      go_simp
      all_goals with_reducible rfl
    try simp only [Act.put, List.getElem_toArray, List.getElem_cons_succ, List.getElem_cons_zero, List.setIfInBounds_toArray, List.set_cons_zero, List.set_cons_succ]
    refine wpAnyH_call (i := 14) 14 #[.int .i64 lt, .int .i64 60] rfl (by kernel_rfl) (by kernel_rfl) (by kernel_rfl) (fun _ _ _ h => h) (by rfl) ?_ (fun W _ => HP2.out W) (by assumption) ?_
    · intro w hSw
      try dsimp only at hSw
      go_simp
    try simp only [Act.put, List.getElem_toArray, List.getElem_cons_succ, List.getElem_cons_zero, List.setIfInBounds_toArray, List.set_cons_zero, List.set_cons_succ]
    refine wpAnyH_take (i := 15) (v := ?_) rfl (by kernel_rfl) (by kernel_rfl) (by kernel_rfl) (fun _ _ _ h => h) (Or.inl ⟨by rfl, ?_⟩) (by assumption) ?_
    rotate_left
    · intro w hSw
      try dsimp only at hSw
      go_simp
      all_goals with_reducible rfl
    try simp only [Act.put, List.getElem_toArray, List.getElem_cons_succ, List.getElem_cons_zero, List.setIfInBounds_toArray, List.set_cons_zero, List.set_cons_succ]
    refine wpAnyH_take (i := 16) (v := ?_) rfl (by kernel_rfl) (by kernel_rfl) (by kernel_rfl) (fun _ _ _ h => h) (Or.inl ⟨by rfl, ?_⟩) (by assumption) ?_
    rotate_left
    · intro w hSw
      try dsimp only at hSw
      go_simp
      all_goals with_reducible rfl
    try simp only [Act.put, List.getElem_toArray, List.getElem_cons_succ, List.getElem_cons_zero, List.setIfInBounds_toArray, List.set_cons_zero, List.set_cons_succ]
    refine wpAnyH_take (i := 17) (v := ?_) rfl (by kernel_rfl) (by kernel_rfl) (by kernel_rfl) (fun _ _ _ h => h) (Or.inl ⟨by rfl, ?_⟩) (by assumption) ?_
    rotate_left
    · intro w hSw
      try dsimp only at hSw
      go_simp
      all_goals with_reducible rfl
    try simp only [Act.put, List.getElem_toArray, List.getElem_cons_succ, List.getElem_cons_zero, List.setIfInBounds_toArray, List.set_cons_zero, List.set_cons_succ]
    refine wpAnyH_done (by kernel_rfl) ?_ _
    go_upto_region 8 with fail
    have hdr : Below w4.heap.size w4 w4.drew := (Below.refl _ _).drew
    obtain ⟨w5, hw5⟩ : ∃ w5, w4.drew = w5 := ⟨_, rfl⟩
    rw [hw5] at hdr ⊢
    have HX5 := Lib.hid (HX4.out.below hdr)
    have HR5 := Lib.hid (HR4.out.below hdr)
    have HPB5 := Lib.hid (HPB4.out.below hdr)
    have HB5 := Lib.hid (HB4.out.trans (hdr.mono HB4.out.size))
    have HDG := Lib.hid (disp_iff (day := dy) (amount := (ap : Int)) HOK.out hn48 hp1 ⟨by omega, by omega⟩ hy1 (by rw [show n - 1 = nl from by have := HNL.out; omega, hdl]; exact hy2) hy3)
    have HY := Lib.hid (And.intro hy4 hy1)
    clear hdr hw5 HX4 HR4 HPB4 HB4 HKS hHeld gL gM gA hmx hmx2 hmx0 hm1 hm2 hdl hd1 hd2 hcl hdy hy1 hy2 hy3 hy4 v3 v4 HNL
    obtain ⟨a0, a1, a2⟩ := HX5.out.cells
    go_wp2_with (go_at_call 14; refine (HP3.out _).mono ?_; rintro e w1 ⟨rfl, rfl⟩)
    go_loopw [17, 18] (fun bv kv wr => ∃ k : Nat, k ≤ n ∧ kv = .int .i64 k ∧ bv = .bool (bkOf g k i) ∧ w5 = wr) (fun _ kv _ => n - (intOf kv).toNat)
    case atStart => exact ⟨0, by omega, rfl, rfl, rfl⟩
    case round =>
      obtain ⟨k, hk, rfl, rfl, rfl⟩ := hrel
      by_cases hlt : k < n
      · have l0 : (k : Int) < (n : Int) := by omega
        have l1 : (0 : Int) ≤ (k : Int) := by omega
        obtain ⟨b', o', hp, hcs⟩ := HR5.out k hlt
        cases hp
        have s6 : w5.cell? ⟨bq, oq + k * 7 + 6, none⟩ = some (.int .i64 (g k).of) := hcs k hlt 6 (by omega)
        have HST := Lib.hid (bk_step (i := i) (hf48.out k hlt))
        clear hcs
        obtain ⟨bb, hbb⟩ : ∃ bb, bkOf g k i = bb := ⟨_, rfl⟩
        rw [hbb] at HST ⊢
        clear hbb
        cases bb with
        | true =>
          go_wp2_with fail
          exact ⟨⟨k + 1, by omega, by go_num, by rw [HST.out]; rfl, trivial⟩, by simp [intOf]; omega⟩
        | false =>
          by_cases ho : (g k).of = (i : Int)
          · have hob : ((g k).of == (i : Int)) = true := by simp [ho]
            have HO := Lib.hid ho
            clear ho
            go_wp2_with fail
            exact ⟨⟨k + 1, by omega, by go_num, by rw [HST.out, decide_eq_true HO.out]; rfl, trivial⟩, by simp [intOf]; omega⟩
          · have hob : ((g k).of == (i : Int)) = false := by simp [ho]
            have HO := Lib.hid ho
            clear ho
            go_wp2_with fail
            exact ⟨⟨k + 1, by omega, by go_num, by rw [HST.out, decide_eq_false HO.out]; rfl, trivial⟩, by simp [intOf]; omega⟩
      · obtain rfl : k = n := by omega
        have l0 : ¬ (k : Int) < (k : Int) := by omega
        have HDI := Lib.hid (Dispute_any (tn : Int) closed (i : Int) dy (ap : Int) (some ⟨bq, oq, none⟩) k c g w5 (by unfold maxLen; omega) HR5.out)
        clear hlt hk
        go_wp2_with fail
        refine HDI.out.mono ?_
        rintro e w6 ⟨t2, c2, q2, k2, kc2, g2, er, rfl, hsp, hrd6, _, hb6⟩
        have hal : Below w6.heap.size w6 (w6.alloc (.cells #[.int .i64 t2, .slice q2 k2 kc2, .int .i64 c2] 24)) := (Below.refl _ _).alloc (Nat.le_refl _) _
        have hcx := BkBox.new w6 t2 c2 (.slice q2 k2 kc2)
        obtain ⟨w7, hw7⟩ : ∃ w7, w6.alloc (.cells #[.int .i64 t2, .slice q2 k2 kc2, .int .i64 c2] 24) = w7 := ⟨_, rfl⟩
        have HW7 := Lib.hid hw7
        rw [hw7] at hal hcx
        have hb67 := hb6.trans (hal.mono hb6.size)
        have HX7 := Lib.hid (HX5.out.below hb67)
        have HR7 := Lib.hid (HR5.out.below hb67)
        have HPB7 := Lib.hid (HPB5.out.below hb67)
        have HB7 := Lib.hid (HB5.out.trans (hb67.mono HB5.out.size))
        have HC7 := Lib.hid hcx
        have HRC7 := Lib.hid (hrd6.below hal)
        have HSP := Lib.hid hsp
        clear a0 a1 a2 hsp hrd6 hb6 hal hcx hw7 hb67 HDI HX5 HR5 HPB5 HB5
        go_upto_region 15 with fail
        rw [HW7.out]
        obtain ⟨C, hC⟩ : ∃ C, w6.heap.size = C := ⟨_, rfl⟩
        rw [hC] at HC7
        rw [hC]
        clear hC HW7
        obtain ⟨a0, a1, a2⟩ := HX7.out.cells
        obtain ⟨p0, p1, p2, p3, p4, p5, p6⟩ := HPB7.out.cells
        obtain ⟨bb, hbb⟩ : ∃ bb, bkOf g k i = bb := ⟨_, rfl⟩
        rw [hbb]
        have HBB := Lib.hid hbb
        clear hbb
        have HREF : Hid (¬ ((g i).kind = 1 ∧ bkOf g k i = false ∧ closed ≠ 12) → er = 270) := Lib.hid (fun hno => by
          rcases HSP.out with ⟨hg, _⟩ | ⟨_, h, _⟩
          · exact absurd (HDG.out.1 hg) hno
          · exact h)
        by_cases hk1 : (g i).kind = 1
        · have hkb : ((g i).kind != 1) = false := by simp [hk1]
          have HK1 := Lib.hid hk1
          clear hk1
          cases bb with
          | true =>
            obtain rfl := HREF.out (fun h => by have := h.2.1; rw [HBB.out] at this; cases this)
            clear p1 p2 p3 p4 p5 p6
            go_wp2_with fail
            refine bodyPost_ret (v := .bool true) (by simp [results, Try.results6, go_sem]) rfl ⟨rfl, HB7.out⟩
          | false =>
            by_cases h12 : closed = 12
            · have hcb : (closed == 12) = true := by simp [h12]
              obtain rfl := HREF.out (fun h => h.2.2 h12)
              have H12 := Lib.hid h12
              clear h12 p1 p2 p3 p4 p5 p6
              go_wp2_with fail
              refine bodyPost_ret (v := .bool true) (by simp [results, Try.results6, go_sem]) rfl ⟨rfl, HB7.out⟩
            · have hcb : (closed == 12) = false := by simp [h12]
              have HGO : Hid (DispGood (tn : Int) closed k g (i : Int) dy (ap : Int)) := Lib.hid (HDG.out.2 ⟨HK1.out, HBB.out, h12⟩)
              clear h12
              have hdl := disp_left HSP.out HGO.out (by omega)
              obtain ⟨rfl, rfl, hcc, hdis, hok2⟩ := hdl
              obtain rfl : closed = c2 := hcc.symm
              have hk50 : k2 ≤ 50 := by rcases hdis.last with ⟨_, h, _⟩ | ⟨_, h⟩ <;> omega
              have HDIS := Lib.hid hdis
              have HOK2 := Lib.hid hok2
              clear hdis hok2 hcc HREF HSP
              go_upto_region 17 with fail
              obtain ⟨d0, d1, d2⟩ := HC7.out.cells
              have HDI := Lib.hid (Dispute_any (tn : Int) closed (i : Int) dy (ap : Int) q2 k2 kc2 g2 w7 (by unfold maxLen; omega) HRC7.out)
              go_wp2_with fail
              refine HDI.out.mono ?_
              rintro e w8 ⟨t3, c3, q3, k3, kc3, g3, er3, rfl, hsp3, hrd8, _, hb8⟩
              obtain rfl : er3 = 270 := by
                rcases hsp3 with ⟨hg, _⟩ | ⟨_, h, _⟩
                · exact absurd hg (disp_no HDIS.out HK1.out)
                · exact h
              have hal8 : Below w8.heap.size w8 (w8.alloc (.cells #[.int .i64 t3, .slice q3 k3 kc3, .int .i64 c3] 24)) := (Below.refl _ _).alloc (Nat.le_refl _) _
              obtain ⟨w9, hw9⟩ : ∃ w9, w8.alloc (.cells #[.int .i64 t3, .slice q3 k3 kc3, .int .i64 c3] 24) = w9 := ⟨_, rfl⟩
              have HW9 := Lib.hid hw9
              rw [hw9] at hal8
              have hb89 := hb8.trans (hal8.mono hb8.size)
              have HXW : Hid (∀ W, Below w9.heap.size w9 W → BkBox W A (tn : Int) (.slice (some ⟨bq, oq, none⟩) k c) closed ∧ ReadsP W (some ⟨bq, oq, none⟩) k g ∧ PBox W P (g i)) := Lib.hid (fun W hb => by
                have h := hb89.trans (hb.mono hb89.size)
                exact ⟨HX7.out.below h, HR7.out.below h, HPB7.out.below h⟩)
              have HCW : Hid (∀ W, Below w9.heap.size w9 W → BkBox W C (tn : Int) (.slice q2 k2 kc2) closed ∧ ReadsP W q2 k2 g2) := Lib.hid (fun W hb => by
                have h := hb89.trans (hb.mono hb89.size)
                exact ⟨HC7.out.below h, HRC7.out.below h⟩)
              have HBW : Hid (∀ W, Below w9.heap.size w9 W → Below w.heap.size w W) := Lib.hid (fun W hb => HB7.out.trans ((hb89.trans (hb.mono hb89.size)).mono HB7.out.size))
              have HPL : Hid (P < w9.heap.size) := Lib.hid (by have := HPB7.out.lt; have := hb89.size; omega)
              have HOW : Hid (∀ (s ks kt : Nat) (f f' : Nat → Int) (es et : Int), s < 6 → OwedSpec (tn : Int) closed k g (s : Int) ks f es → OwedSpec (tn : Int) closed k2 g2 (s : Int) kt f' et → es = 0 ∧ et = 0 ∧ ks = tn ∧ kt = tn ∧ Moved tn ((s : Int) = (g i).sub) cn dn (g i).amt (ap : Int) f f') := Lib.hid (fun s ks kt f f' es et hs h1 h2 => by
                obtain ⟨r1, r2, r3⟩ := owed_good' h1 HOK.out ⟨by omega, by omega⟩
                obtain ⟨s1, s2, s3⟩ := owed_good' h2 HOK2.out ⟨by omega, by omega⟩
                refine ⟨r1, s1, r2, s2, moved_of (dy := dy) HE1.out HE2.out hcd (fun j hj => ?_) (fun j hj => ?_)⟩
                · rw [r3 j hj]
                  have h := sumD_bd (d := owedD g k (s : Int)) (team := (j : Int)) k hf48.out
                  omega
                · rw [r3 j hj, s3 j hj, disp_owed HDIS.out HOK2.out hp1 HK1.out HBB.out (s : Int) (j : Int)]
                  by_cases e : (s : Int) = (g i).sub
                  · rw [if_pos e, if_pos e.symm]
                  · rw [if_neg e, if_neg (fun x => e x.symm)])
              have HST : Hid (∀ (m ks kt : Nat) (f f' : Nat → Int) (es et : Int), m < 12 → StatSpec (tn : Int) closed k g (m : Int) ks f es → StatSpec (tn : Int) closed k2 g2 (m : Int) kt f' et → es = 0 ∧ et = 0 ∧ ks = tn ∧ kt = tn ∧ Moved tn ((m : Int) = dy / 30) cn dn (g i).amt (ap : Int) f f') := Lib.hid (fun m ks kt f f' es et hm h1 h2 => by
                obtain ⟨r1, r2, r3⟩ := stat_good' h1 HOK.out ⟨by omega, by omega⟩
                obtain ⟨s1, s2, s3⟩ := stat_good' h2 HOK2.out ⟨by omega, by omega⟩
                refine ⟨r1, s1, r2, s2, moved_of (dy := dy) HE1.out HE2.out hcd (fun j hj => ?_) (fun j hj => ?_)⟩
                · rw [r3 j hj]
                  have h := balF_bd (g := g) (month := (m : Int)) (team := (j : Int)) k hf48.out
                  omega
                · rw [r3 j hj, s3 j hj, disp_stat HDIS.out (m : Int) (j : Int)]
                  by_cases e : (m : Int) = dy / 30
                  · rw [if_pos e, if_pos e.symm]
                  · rw [if_neg e, if_neg (fun x => e x.symm)])
              have hy := HY.out
              obtain ⟨hy1, hy2⟩ := hy
              have hy3 : 0 ≤ dy / 30 := by omega
              clear a0 a1 a2 p0 p1 p2 p3 p4 p5 p6 d0 d1 d2 hsp3 hrd8 hb8 hal8 hw9 hb89 HDI HX7 HR7 HPB7 HB7 HC7 HRC7 HDG HGO
              go_upto_region 21 with fail
              try rw [HW9.out]
              clear HW9
              as_aux_lemma =>
              go_loopw [23] (fun sv wx => ∃ s : Nat, sv = .int .i64 s ∧ s ≤ 6 ∧ Below w9.heap.size w9 wx) (fun sv _ => 6 - (intOf sv).toNat)
              case atStart => exact ⟨0, rfl, by omega, Below.refl _ _⟩
              case round =>
                obtain ⟨s, rfl, hs, hb⟩ := hrel
                by_cases hlt : s < 6
                · as_aux_lemma =>
                  have l0 : (s : Int) < 6 := by omega
                  obtain ⟨hbk, hrd, _⟩ := HXW.out _ hb
                  obtain ⟨a0, a1, a2⟩ := hbk.cells
                  have HO1 := Lib.hid (Owed_w (tn : Int) closed (s : Int) (some ⟨bq, oq, none⟩) k c g wr (by unfold maxLen; omega) hrd)
                  clear hbk hrd
                  go_wp2_with fail
                  refine HO1.out.mono ?_
                  rintro e w10 ⟨ps, ks, sc, fs, es, rfl, hss, hrs, hqs, hfr, hb10⟩
                  have HSS := Lib.hid hss
                  have HRS := Lib.hid hrs
                  have HFR := Lib.hid hfr
                  have HQS : Hid (∀ a, ps = some a → w9.heap.size ≤ a.block) := Lib.hid (fun a h => Nat.le_trans hb.size (hqs a h))
                  have HB10 := Lib.hid (hb.trans (hb10.mono hb.size))
                  clear a0 a1 a2 hss hrs hfr hqs hb10 HO1 hb
                  obtain ⟨hbc, hrc⟩ := HCW.out _ HB10.out
                  obtain ⟨a0, a1, a2⟩ := hbc.cells
                  have HO2 := Lib.hid (Owed_any (tn : Int) closed (s : Int) q2 k2 kc2 g2 w10 (by unfold maxLen; omega) hrc)
                  clear hbc hrc
                  go_wp2_with fail
                  refine HO2.out.mono ?_
                  rintro e w11 ⟨pt, kt, tc, ft, et, rfl, hst, hrt, hqt, hb11⟩
                  obtain ⟨h1, h2, h3, h4, hmv⟩ := HOW.out s _ _ _ _ _ _ hlt HSS.out hst
                  subst h1 h2
                  obtain rfl := h3.symm
                  obtain rfl := h4.symm
                  have HMV := Lib.hid hmv
                  have HRS11 := Lib.hid (HRS.out.below hb11)
                  have HFR11 := Lib.hid (HFR.out.below hb11)
                  have HRT := Lib.hid hrt
                  have HQT : Hid (∀ a, ps = some a → 0 < tn → ∀ b, pt = some b → b.block ≠ a.block) := Lib.hid (fun a ha hn b hb => by
                    obtain ⟨b', off, hp, hc⟩ := HRS.out 0 hn
                    have h5 := cell_lt (hc 0 hn)
                    rw [ha] at hp
                    cases hp
                    have h6 := hqt b hb
                    show b.block ≠ b'
                    omega)
                  have HB11 := Lib.hid (HB10.out.trans (hb11.mono HB10.out.size))
                  clear a0 a1 a2 hst hrt hb11 HO2 hqt hmv HSS HRS HFR HB10 h3 h4
                  obtain ⟨hbk, hrd, hpb⟩ := HXW.out _ HB11.out
                  obtain ⟨a0, a1, a2⟩ := hbk.cells
                  obtain ⟨p0, p1, p2, p3, p4, p5, p6⟩ := hpb.cells
                  rw [HE1.out] at p3
                  rw [HE2.out] at p2
                  obtain ⟨a, hae⟩ : ∃ a, (g i).amt = a := ⟨_, rfl⟩
                  have HAE := Lib.hid hae
                  rw [hae] at p4 ha0 ha1
                  clear hbk hrd hpb hae
                  by_cases hyes : (s : Int) = (g i).sub
                  · have hyb : ((s : Int) == (g i).sub) = true := by simp [hyes]
                    have HYS := Lib.hid hyes
                    clear hyes
                    obtain ⟨b, o, rfl, hcs⟩ := HRS11.out cn hct
                    have hPb : b ≠ P := by have := HQS.out _ rfl; have := HPL.out; have h7 : w9.heap.size ≤ b := HQS.out _ rfl; omega
                    have hWb : w9.heap.size ≤ b := HQS.out _ rfl
                    obtain ⟨y, hyv⟩ : ∃ y, fs cn = y := ⟨_, rfl⟩
                    obtain ⟨z, hzv⟩ : ∃ z, fs dn = z := ⟨_, rfl⟩
                    have x1 : w11.cell? ⟨b, o + cn, none⟩ = some (.int .i64 y) := by rw [← hyv]; exact hcs cn hct
                    have x2 := free_at HFR11.out (o + cn)
                    obtain ⟨hb1, hb2⟩ := HMV.out.bd cn hct
                    obtain ⟨hb3, hb4⟩ := HMV.out.bd dn hdt
                    rw [hyv] at hb1 hb2
                    rw [hzv] at hb3 hb4
                    have HYV := Lib.hid hyv
                    have HZV := Lib.hid hzv
                    have c0 : (0 : Int) ≤ (cn : Int) := by omega
                    have c1' : (cn : Int) < (tn : Int) := by omega
                    have c2' : (0 : Int) ≤ (dn : Int) := by omega
                    have c3' : (dn : Int) < (tn : Int) := by omega
                    have gA : IntKind.i64.wrap (y - a) = y - a := IntWalk.i64_in _ (by omega)
                    have gB : IntKind.i64.wrap (y - a + (ap : Int)) = y - a + (ap : Int) := IntWalk.i64_in _ (by omega)
                    have gC : IntKind.i64.wrap (z + a) = z + a := IntWalk.i64_in _ (by omega)
                    have gD : IntKind.i64.wrap (z + a - (ap : Int)) = z + a - (ap : Int) := IntWalk.i64_in _ (by omega)
                    clear hcs hyv hzv
                    go_upto_region 28 with fail
                    clear a0 a1 a2 p0 p1 p5 p6
                    refine wp_region_held_drew (S := (fun W => W.cell? ⟨P, 0 + 3, none⟩ = some (.int .i64 (cn : Int)) ∧ W.cell? ⟨P, 0 + 4, none⟩ = some (.int .i64 a))) (by kernel_rfl) ?_ (fun hHeld => ?_)
                    · exact ⟨p3, p4⟩
                    refine wpAnyH_take (i := 0) (v := ?_) rfl (by kernel_rfl) (by kernel_rfl) (by kernel_rfl) (fun _ _ _ h => h) (Or.inl ⟨by rfl, ?_⟩) (by assumption) ?_
                    rotate_left
                    · intro w hSw
                      try dsimp only at hSw
                      go_simp
                      all_goals with_reducible rfl
                    try simp only [Act.put, List.getElem_toArray, List.getElem_cons_zero, List.setIfInBounds_toArray, List.set_cons_zero, List.set_cons_succ]
                    refine wpAnyH_take (i := 1) (v := ?_) rfl (by kernel_rfl) (by kernel_rfl) (by kernel_rfl) (fun _ _ _ h => h) (Or.inl ⟨by rfl, ?_⟩) (by assumption) ?_
                    rotate_left
                    · intro w hSw
                      try dsimp only at hSw
                      go_simp
                      all_goals with_reducible rfl
                    try simp only [Act.put, List.getElem_toArray, List.getElem_cons_succ, List.getElem_cons_zero, List.setIfInBounds_toArray, List.set_cons_zero, List.set_cons_succ]
                    refine wpAnyH_take (i := 2) (v := ?_) rfl (by kernel_rfl) (by kernel_rfl) (by kernel_rfl) (fun _ _ _ h => h) (Or.inl ⟨by rfl, ?_⟩) (by assumption) ?_
                    rotate_left
                    · intro w hSw
                      try dsimp only at hSw
                      go_simp
                      all_goals with_reducible rfl
                    try simp only [Act.put, List.getElem_toArray, List.getElem_cons_succ, List.getElem_cons_zero, List.setIfInBounds_toArray, List.set_cons_zero, List.set_cons_succ]
                    refine wpAnyH_take (i := 3) (v := ?_) rfl (by kernel_rfl) (by kernel_rfl) (by kernel_rfl) (fun _ _ _ h => h) (Or.inl ⟨by rfl, ?_⟩) (by assumption) ?_
                    rotate_left
                    · intro w hSw
                      try dsimp only at hSw
                      go_simp
                      all_goals with_reducible rfl
                    try simp only [Act.put, List.getElem_toArray, List.getElem_cons_succ, List.getElem_cons_zero, List.setIfInBounds_toArray, List.set_cons_zero, List.set_cons_succ]
                    refine wpAnyH_take (i := 4) (v := ?_) rfl (by kernel_rfl) (by kernel_rfl) (by kernel_rfl) (fun _ _ _ h => h) (Or.inl ⟨by rfl, ?_⟩) (by assumption) ?_
                    rotate_left
                    · intro w hSw
                      try dsimp only at hSw
                      go_simp
                      all_goals with_reducible rfl
                    try simp only [Act.put, List.getElem_toArray, List.getElem_cons_succ, List.getElem_cons_zero, List.setIfInBounds_toArray, List.set_cons_zero, List.set_cons_succ]
                    refine wpAnyH_take (i := 5) (v := ?_) rfl (by kernel_rfl) (by kernel_rfl) (by kernel_rfl) (fun _ _ _ h => h) (Or.inl ⟨by rfl, ?_⟩) (by assumption) ?_
                    rotate_left
                    · intro w hSw
                      try dsimp only at hSw
                      go_simp
                      all_goals with_reducible rfl
                    try simp only [Act.put, List.getElem_toArray, List.getElem_cons_succ, List.getElem_cons_zero, List.setIfInBounds_toArray, List.set_cons_zero, List.set_cons_succ]
                    refine wpAnyH_take (i := 6) (v := ?_) rfl (by kernel_rfl) (by kernel_rfl) (by kernel_rfl) (fun _ _ _ h => h) (Or.inl ⟨by rfl, ?_⟩) (by assumption) ?_
                    rotate_left
                    · intro w hSw
                      try dsimp only at hSw
                      go_simp
                      all_goals with_reducible rfl
                    try simp only [Act.put, List.getElem_toArray, List.getElem_cons_succ, List.getElem_cons_zero, List.setIfInBounds_toArray, List.set_cons_zero, List.set_cons_succ]
                    refine wpAnyH_take (i := 8) (v := ?_) rfl (by kernel_rfl) (by kernel_rfl) (by kernel_rfl) (fun _ _ _ h => h) (Or.inl ⟨by rfl, ?_⟩) (by assumption) ?_
                    rotate_left
                    · intro w hSw
                      try dsimp only at hSw
                      go_simp
                      all_goals with_reducible rfl
                    try simp only [Act.put, List.getElem_toArray, List.getElem_cons_succ, List.getElem_cons_zero, List.setIfInBounds_toArray, List.set_cons_zero, List.set_cons_succ]
                    refine wpAnyH_take (i := 9) (v := ?_) rfl (by kernel_rfl) (by kernel_rfl) (by kernel_rfl) (fun _ _ _ h => h) (Or.inl ⟨by rfl, ?_⟩) (by assumption) ?_
                    rotate_left
                    · intro w hSw
                      try dsimp only at hSw
                      go_simp
                      all_goals with_reducible rfl
                    try simp only [Act.put, List.getElem_toArray, List.getElem_cons_succ, List.getElem_cons_zero, List.setIfInBounds_toArray, List.set_cons_zero, List.set_cons_succ]
                    refine wpAnyH_take (i := 11) (v := ?_) rfl (by kernel_rfl) (by kernel_rfl) (by kernel_rfl) (fun _ _ _ h => h) (Or.inl ⟨by rfl, ?_⟩) (by assumption) ?_
                    rotate_left
                    · intro w hSw
                      try dsimp only at hSw
                      go_simp
                      all_goals with_reducible rfl
                    try simp only [Act.put, List.getElem_toArray, List.getElem_cons_succ, List.getElem_cons_zero, List.setIfInBounds_toArray, List.set_cons_zero, List.set_cons_succ]
                    refine wpAnyH_ready (rs := [7]) (by kernel_rfl) (by simp) ?_
                    refine AllReadyH.cons rfl (fun K hK => ?_) AllReadyH.nil
                    go_simp
                    refine hK.out _ _ ?_ (fun hHeld2 => ?_)
                    · assumption
                    clear hK K hHeld
                    have hHeld := hHeld2
                    clear hHeld2
                    try simp only [Act.put, List.getElem_toArray, List.getElem_cons_succ, List.getElem_cons_zero, List.setIfInBounds_toArray, List.set_cons_zero, List.set_cons_succ]
                    refine wpAnyH_take (i := 10) (v := ?_) rfl (by kernel_rfl) (by kernel_rfl) (by kernel_rfl) (fun _ _ _ h => h) (Or.inl ⟨by rfl, ?_⟩) (by assumption) ?_
                    rotate_left
                    · intro w hSw
                      try dsimp only at hSw
                      go_simp
                      all_goals with_reducible rfl
                    try simp only [Act.put, List.getElem_toArray, List.getElem_cons_succ, List.getElem_cons_zero, List.setIfInBounds_toArray, List.set_cons_zero, List.set_cons_succ]
                    refine wpAnyH_take (i := 12) (v := ?_) rfl (by kernel_rfl) (by kernel_rfl) (by kernel_rfl) (fun _ _ _ h => h) (Or.inl ⟨by rfl, ?_⟩) (by assumption) ?_
                    rotate_left
                    · intro w hSw
                      try dsimp only at hSw
                      go_simp
                      all_goals with_reducible rfl
                    try simp only [Act.put, List.getElem_toArray, List.getElem_cons_succ, List.getElem_cons_zero, List.setIfInBounds_toArray, List.set_cons_zero, List.set_cons_succ]
                    refine wpAnyH_take (i := 13) (v := ?_) rfl (by kernel_rfl) (by kernel_rfl) (by kernel_rfl) (fun _ _ _ h => h) (Or.inl ⟨by rfl, ?_⟩) (by assumption) ?_
                    rotate_left
                    · intro w hSw
                      try dsimp only at hSw
                      go_simp
                      all_goals with_reducible rfl
                    try simp only [Act.put, List.getElem_toArray, List.getElem_cons_succ, List.getElem_cons_zero, List.setIfInBounds_toArray, List.set_cons_zero, List.set_cons_succ]
                    refine wpAnyH_ready (rs := [14]) (by kernel_rfl) (by simp) ?_
                    refine AllReadyH.cons rfl (fun K hK => ?_) AllReadyH.nil
                    go_simp
                    refine hK.out _ _ ?_ (fun hHeld2 => ?_)
                    · exact ⟨(World.cell?_setCell_far w11 ⟨b, o + cn, none⟩ ⟨P, 0 + 3, none⟩ _ hPb).trans p3, (World.cell?_setCell_far w11 ⟨b, o + cn, none⟩ ⟨P, 0 + 4, none⟩ _ hPb).trans p4⟩
                    clear hK K hHeld
                    have hHeld := hHeld2
                    clear hHeld2
                    try simp only [Act.put, List.getElem_toArray, List.getElem_cons_succ, List.getElem_cons_zero, List.setIfInBounds_toArray, List.set_cons_zero, List.set_cons_succ]
                    refine wpAnyH_done (by kernel_rfl) ?_ _
                    have hdr : ∀ W : World, Below W.heap.size W W.drew := fun W => (Below.refl _ _).drew
                    have HRS12 := Lib.hid ((readsI_set HRS11.out hct (y - a + (ap : Int))).below (hdr _))
                    have HFR12 := Lib.hid ((HFR11.out.set (o + cn) (.int .i64 (y - a + (ap : Int)))).below (hdr _))
                    have HRT12 := Lib.hid ((readsI_off HRT.out (b := b) (fun hn b' hb' => HQT.out _ rfl hn b' hb') (o + cn) (.int .i64 (y - a + (ap : Int)))).below (hdr _))
                    have HB12 := Lib.hid (Below_set HB11.out (b := b) (i := o + cn) hWb (.int .i64 (y - a + (ap : Int)))).drew
                    have r2 : (w11.setCell ⟨b, o + cn, none⟩ (.int .i64 (y - a + (ap : Int)))).drew.cell? ⟨P, 0 + 2, none⟩ = _ := (World.cell?_setCell_far w11 ⟨b, o + cn, none⟩ ⟨P, 0 + 2, none⟩ _ hPb).trans p2
                    have r4 : (w11.setCell ⟨b, o + cn, none⟩ (.int .i64 (y - a + (ap : Int)))).drew.cell? ⟨P, 0 + 4, none⟩ = _ := (World.cell?_setCell_far w11 ⟨b, o + cn, none⟩ ⟨P, 0 + 4, none⟩ _ hPb).trans p4
                    obtain ⟨w12, hw12⟩ : ∃ w12, (w11.setCell ⟨b, o + cn, none⟩ (.int .i64 (y - a + (ap : Int)))).drew = w12 := ⟨_, rfl⟩
                    go_upto_region 29 with fail
                    rw [hw12] at HRS12 HFR12 HRT12 HB12 r2 r4 ⊢
                    clear hw12 x1 x2 p2 p3 p4 gA gB hHeld HRS11 HFR11 HRT HB11
                    have x1 : w12.cell? ⟨b, o + dn, none⟩ = some (.int .i64 z) := by
                      obtain ⟨b', o', hp, hcs⟩ := HRS12.out dn hdt
                      cases hp
                      have h := hcs dn hdt
                      simp only [if_neg (show ¬ dn = cn from fun e => hcd e.symm)] at h
                      rwa [HZV.out] at h
                    have x2 := free_at HFR12.out (o + dn)
                    have p2 := r2
                    have p4 := r4
                    clear r2 r4
                    refine wp_region_held_drew (S := (fun W => W.cell? ⟨P, 0 + 2, none⟩ = some (.int .i64 (dn : Int)) ∧ W.cell? ⟨P, 0 + 4, none⟩ = some (.int .i64 a))) (by kernel_rfl) ?_ (fun hHeld => ?_)
                    · exact ⟨p2, p4⟩
                    refine wpAnyH_take (i := 0) (v := ?_) rfl (by kernel_rfl) (by kernel_rfl) (by kernel_rfl) (fun _ _ _ h => h) (Or.inl ⟨by rfl, ?_⟩) (by assumption) ?_
                    rotate_left
                    · intro w hSw
                      try dsimp only at hSw
                      go_simp
                      all_goals with_reducible rfl
                    try simp only [Act.put, List.getElem_toArray, List.getElem_cons_zero, List.setIfInBounds_toArray, List.set_cons_zero, List.set_cons_succ]
                    refine wpAnyH_take (i := 1) (v := ?_) rfl (by kernel_rfl) (by kernel_rfl) (by kernel_rfl) (fun _ _ _ h => h) (Or.inl ⟨by rfl, ?_⟩) (by assumption) ?_
                    rotate_left
                    · intro w hSw
                      try dsimp only at hSw
                      go_simp
                      all_goals with_reducible rfl
                    try simp only [Act.put, List.getElem_toArray, List.getElem_cons_succ, List.getElem_cons_zero, List.setIfInBounds_toArray, List.set_cons_zero, List.set_cons_succ]
                    refine wpAnyH_take (i := 2) (v := ?_) rfl (by kernel_rfl) (by kernel_rfl) (by kernel_rfl) (fun _ _ _ h => h) (Or.inl ⟨by rfl, ?_⟩) (by assumption) ?_
                    rotate_left
                    · intro w hSw
                      try dsimp only at hSw
                      go_simp
                      all_goals with_reducible rfl
                    try simp only [Act.put, List.getElem_toArray, List.getElem_cons_succ, List.getElem_cons_zero, List.setIfInBounds_toArray, List.set_cons_zero, List.set_cons_succ]
                    refine wpAnyH_take (i := 3) (v := ?_) rfl (by kernel_rfl) (by kernel_rfl) (by kernel_rfl) (fun _ _ _ h => h) (Or.inl ⟨by rfl, ?_⟩) (by assumption) ?_
                    rotate_left
                    · intro w hSw
                      try dsimp only at hSw
                      go_simp
                      all_goals with_reducible rfl
                    try simp only [Act.put, List.getElem_toArray, List.getElem_cons_succ, List.getElem_cons_zero, List.setIfInBounds_toArray, List.set_cons_zero, List.set_cons_succ]
                    refine wpAnyH_take (i := 4) (v := ?_) rfl (by kernel_rfl) (by kernel_rfl) (by kernel_rfl) (fun _ _ _ h => h) (Or.inl ⟨by rfl, ?_⟩) (by assumption) ?_
                    rotate_left
                    · intro w hSw
                      try dsimp only at hSw
                      go_simp
                      all_goals with_reducible rfl
                    try simp only [Act.put, List.getElem_toArray, List.getElem_cons_succ, List.getElem_cons_zero, List.setIfInBounds_toArray, List.set_cons_zero, List.set_cons_succ]
                    refine wpAnyH_take (i := 5) (v := ?_) rfl (by kernel_rfl) (by kernel_rfl) (by kernel_rfl) (fun _ _ _ h => h) (Or.inl ⟨by rfl, ?_⟩) (by assumption) ?_
                    rotate_left
                    · intro w hSw
                      try dsimp only at hSw
                      go_simp
                      all_goals with_reducible rfl
                    try simp only [Act.put, List.getElem_toArray, List.getElem_cons_succ, List.getElem_cons_zero, List.setIfInBounds_toArray, List.set_cons_zero, List.set_cons_succ]
                    refine wpAnyH_take (i := 6) (v := ?_) rfl (by kernel_rfl) (by kernel_rfl) (by kernel_rfl) (fun _ _ _ h => h) (Or.inl ⟨by rfl, ?_⟩) (by assumption) ?_
                    rotate_left
                    · intro w hSw
                      try dsimp only at hSw
                      go_simp
                      all_goals with_reducible rfl
                    try simp only [Act.put, List.getElem_toArray, List.getElem_cons_succ, List.getElem_cons_zero, List.setIfInBounds_toArray, List.set_cons_zero, List.set_cons_succ]
                    refine wpAnyH_take (i := 8) (v := ?_) rfl (by kernel_rfl) (by kernel_rfl) (by kernel_rfl) (fun _ _ _ h => h) (Or.inl ⟨by rfl, ?_⟩) (by assumption) ?_
                    rotate_left
                    · intro w hSw
                      try dsimp only at hSw
                      go_simp
                      all_goals with_reducible rfl
                    try simp only [Act.put, List.getElem_toArray, List.getElem_cons_succ, List.getElem_cons_zero, List.setIfInBounds_toArray, List.set_cons_zero, List.set_cons_succ]
                    refine wpAnyH_take (i := 9) (v := ?_) rfl (by kernel_rfl) (by kernel_rfl) (by kernel_rfl) (fun _ _ _ h => h) (Or.inl ⟨by rfl, ?_⟩) (by assumption) ?_
                    rotate_left
                    · intro w hSw
                      try dsimp only at hSw
                      go_simp
                      all_goals with_reducible rfl
                    try simp only [Act.put, List.getElem_toArray, List.getElem_cons_succ, List.getElem_cons_zero, List.setIfInBounds_toArray, List.set_cons_zero, List.set_cons_succ]
                    refine wpAnyH_take (i := 11) (v := ?_) rfl (by kernel_rfl) (by kernel_rfl) (by kernel_rfl) (fun _ _ _ h => h) (Or.inl ⟨by rfl, ?_⟩) (by assumption) ?_
                    rotate_left
                    · intro w hSw
                      try dsimp only at hSw
                      go_simp
                      all_goals with_reducible rfl
                    try simp only [Act.put, List.getElem_toArray, List.getElem_cons_succ, List.getElem_cons_zero, List.setIfInBounds_toArray, List.set_cons_zero, List.set_cons_succ]
                    refine wpAnyH_ready (rs := [7]) (by kernel_rfl) (by simp) ?_
                    refine AllReadyH.cons rfl (fun K hK => ?_) AllReadyH.nil
                    go_simp
                    refine hK.out _ _ ?_ (fun hHeld2 => ?_)
                    · assumption
                    clear hK K hHeld
                    have hHeld := hHeld2
                    clear hHeld2
                    try simp only [Act.put, List.getElem_toArray, List.getElem_cons_succ, List.getElem_cons_zero, List.setIfInBounds_toArray, List.set_cons_zero, List.set_cons_succ]
                    refine wpAnyH_take (i := 10) (v := ?_) rfl (by kernel_rfl) (by kernel_rfl) (by kernel_rfl) (fun _ _ _ h => h) (Or.inl ⟨by rfl, ?_⟩) (by assumption) ?_
                    rotate_left
                    · intro w hSw
                      try dsimp only at hSw
                      go_simp
                      all_goals with_reducible rfl
                    try simp only [Act.put, List.getElem_toArray, List.getElem_cons_succ, List.getElem_cons_zero, List.setIfInBounds_toArray, List.set_cons_zero, List.set_cons_succ]
                    refine wpAnyH_take (i := 12) (v := ?_) rfl (by kernel_rfl) (by kernel_rfl) (by kernel_rfl) (fun _ _ _ h => h) (Or.inl ⟨by rfl, ?_⟩) (by assumption) ?_
                    rotate_left
                    · intro w hSw
                      try dsimp only at hSw
                      go_simp
                      all_goals with_reducible rfl
                    try simp only [Act.put, List.getElem_toArray, List.getElem_cons_succ, List.getElem_cons_zero, List.setIfInBounds_toArray, List.set_cons_zero, List.set_cons_succ]
                    refine wpAnyH_take (i := 13) (v := ?_) rfl (by kernel_rfl) (by kernel_rfl) (by kernel_rfl) (fun _ _ _ h => h) (Or.inl ⟨by rfl, ?_⟩) (by assumption) ?_
                    rotate_left
                    · intro w hSw
                      try dsimp only at hSw
                      go_simp
                      all_goals with_reducible rfl
                    try simp only [Act.put, List.getElem_toArray, List.getElem_cons_succ, List.getElem_cons_zero, List.setIfInBounds_toArray, List.set_cons_zero, List.set_cons_succ]
                    refine wpAnyH_ready (rs := [14]) (by kernel_rfl) (by simp) ?_
                    refine AllReadyH.cons rfl (fun K hK => ?_) AllReadyH.nil
                    go_simp
                    refine hK.out _ _ ?_ (fun hHeld2 => ?_)
                    · exact ⟨(World.cell?_setCell_far w12 ⟨b, o + dn, none⟩ ⟨P, 0 + 2, none⟩ _ hPb).trans p2, (World.cell?_setCell_far w12 ⟨b, o + dn, none⟩ ⟨P, 0 + 4, none⟩ _ hPb).trans p4⟩
                    clear hK K hHeld
                    have hHeld := hHeld2
                    clear hHeld2
                    try simp only [Act.put, List.getElem_toArray, List.getElem_cons_succ, List.getElem_cons_zero, List.setIfInBounds_toArray, List.set_cons_zero, List.set_cons_succ]
                    refine wpAnyH_done (by kernel_rfl) ?_ _
                    have HRS13 := Lib.hid ((readsI_set HRS12.out hdt (z + a - (ap : Int))).below (hdr _))
                    have HRT13 := Lib.hid ((readsI_off HRT12.out (b := b) (fun hn b' hb' => HQT.out _ rfl hn b' hb') (o + dn) (.int .i64 (z + a - (ap : Int)))).below (hdr _))
                    have HB13 := Lib.hid (Below_set HB12.out (b := b) (i := o + dn) hWb (.int .i64 (z + a - (ap : Int)))).drew
                    obtain ⟨w13, hw13⟩ : ∃ w13, (w12.setCell ⟨b, o + dn, none⟩ (.int .i64 (z + a - (ap : Int)))).drew = w13 := ⟨_, rfl⟩
                    rw [hw13] at HRS13 HRT13 HB13
                    go_wp2_with fail
                    try rw [hw13]
                    clear hw13 x1 x2 p2 p4 gC gD hHeld HRS12 HFR12 HRT12 HB12
                    refine (ints_yes (some ⟨b, o, none⟩) pt tn tn sc tc _ ft w13 (by have := HTB.out; omega) rfl HRS13.out HRT13.out (fun j hj => by
                      have h := HMV.out.on HYS.out j hj
                      rw [HAE.out, HYV.out, HZV.out] at h
                      exact h)).mono ?_
                    rintro e w14 ⟨rfl, hb14⟩
                    have HB14 := Lib.hid (HB13.out.trans (hb14.mono HB13.out.size))
                    clear hb14
                    go_wp2_with fail
                    exact ⟨⟨s + 1, by go_num, by omega, HB14.out⟩, by simp [intOf]; omega⟩
                  · have hyb : ((s : Int) == (g i).sub) = false := by simp [hyes]
                    have HYS := Lib.hid hyes
                    clear hyes
                    have HIY := Lib.hid (ints_yes ps pt tn tn sc tc fs ft w11 (by have := HTB.out; omega) rfl HRS11.out HRT.out (fun j hj => HMV.out.off HYS.out j hj))
                    go_wp2_with fail
                    refine HIY.out.mono ?_
                    rintro e w14 ⟨rfl, hb14⟩
                    have HB14 := Lib.hid (HB11.out.trans (hb14.mono HB11.out.size))
                    clear hb14
                    go_wp2_with fail
                    exact ⟨⟨s + 1, by go_num, by omega, HB14.out⟩, by simp [intOf]; omega⟩
                · have l0 : ¬ (s : Int) < 6 := by omega
                  as_aux_lemma =>
                  go_upto_region 33 with fail
                  go_loopw [28] (fun sv wx => ∃ s : Nat, sv = .int .i64 s ∧ s ≤ 12 ∧ Below w9.heap.size w9 wx) (fun sv _ => 12 - (intOf sv).toNat)
                  case atStart => exact ⟨0, rfl, by omega, hb⟩
                  case round =>
                    obtain ⟨s, rfl, hs, hb⟩ := hrel
                    by_cases hlt : s < 12
                    · as_aux_lemma =>
                      have l0 : (s : Int) < 12 := by omega
                      obtain ⟨hbk, hrd, _⟩ := HXW.out _ hb
                      obtain ⟨a0, a1, a2⟩ := hbk.cells
                      have HO1 := Lib.hid (Statement_w (tn : Int) closed (s : Int) (some ⟨bq, oq, none⟩) k c g wr (by unfold maxLen; omega) hrd)
                      clear hbk hrd
                      go_wp2_with fail
                      refine HO1.out.mono ?_
                      rintro e w10 ⟨ps, ks, sc, fs, es, rfl, hss, hrs, hqs, hfr, hb10⟩
                      have HSS := Lib.hid hss
                      have HRS := Lib.hid hrs
                      have HFR := Lib.hid hfr
                      have HQS : Hid (∀ a, ps = some a → w9.heap.size ≤ a.block) := Lib.hid (fun a h => Nat.le_trans hb.size (hqs a h))
                      have HB10 := Lib.hid (hb.trans (hb10.mono hb.size))
                      clear a0 a1 a2 hss hrs hfr hqs hb10 HO1 hb
                      obtain ⟨hbc, hrc⟩ := HCW.out _ HB10.out
                      obtain ⟨a0, a1, a2⟩ := hbc.cells
                      have HO2 := Lib.hid (Statement_any (tn : Int) closed (s : Int) q2 k2 kc2 g2 w10 (by unfold maxLen; omega) hrc)
                      clear hbc hrc
                      go_wp2_with fail
                      refine HO2.out.mono ?_
                      rintro e w11 ⟨pt, kt, tc, ft, et, rfl, hst, hrt, hqt, hb11⟩
                      obtain ⟨h1, h2, h3, h4, hmv⟩ := HST.out s _ _ _ _ _ _ hlt HSS.out hst
                      subst h1 h2
                      obtain rfl := h3.symm
                      obtain rfl := h4.symm
                      have HMV := Lib.hid hmv
                      have HRS11 := Lib.hid (HRS.out.below hb11)
                      have HFR11 := Lib.hid (HFR.out.below hb11)
                      have HRT := Lib.hid hrt
                      have HQT : Hid (∀ a, ps = some a → 0 < tn → ∀ b, pt = some b → b.block ≠ a.block) := Lib.hid (fun a ha hn b hb => by
                        obtain ⟨b', off, hp, hc⟩ := HRS.out 0 hn
                        have h5 := cell_lt (hc 0 hn)
                        rw [ha] at hp
                        cases hp
                        have h6 := hqt b hb
                        show b.block ≠ b'
                        omega)
                      have HB11 := Lib.hid (HB10.out.trans (hb11.mono HB10.out.size))
                      clear a0 a1 a2 hst hrt hb11 HO2 hqt hmv HSS HRS HFR HB10 h3 h4
                      obtain ⟨hbk, hrd, hpb⟩ := HXW.out _ HB11.out
                      obtain ⟨a0, a1, a2⟩ := hbk.cells
                      obtain ⟨p0, p1, p2, p3, p4, p5, p6⟩ := hpb.cells
                      rw [HE1.out] at p3
                      rw [HE2.out] at p2
                      obtain ⟨a, hae⟩ : ∃ a, (g i).amt = a := ⟨_, rfl⟩
                      have HAE := Lib.hid hae
                      rw [hae] at p4 ha0 ha1
                      clear hbk hrd hpb hae
                      by_cases hyes : (s : Int) = dy / 30
                      · have hyb : ((s : Int) == dy / 30) = true := by simp [hyes]
                        have HYS := Lib.hid hyes
                        clear hyes
                        obtain ⟨b, o, rfl, hcs⟩ := HRS11.out cn hct
                        have hPb : b ≠ P := by have := HQS.out _ rfl; have := HPL.out; have h7 : w9.heap.size ≤ b := HQS.out _ rfl; omega
                        have hWb : w9.heap.size ≤ b := HQS.out _ rfl
                        obtain ⟨y, hyv⟩ : ∃ y, fs cn = y := ⟨_, rfl⟩
                        obtain ⟨z, hzv⟩ : ∃ z, fs dn = z := ⟨_, rfl⟩
                        have x1 : w11.cell? ⟨b, o + cn, none⟩ = some (.int .i64 y) := by rw [← hyv]; exact hcs cn hct
                        have x2 := free_at HFR11.out (o + cn)
                        obtain ⟨hb1, hb2⟩ := HMV.out.bd cn hct
                        obtain ⟨hb3, hb4⟩ := HMV.out.bd dn hdt
                        rw [hyv] at hb1 hb2
                        rw [hzv] at hb3 hb4
                        have HYV := Lib.hid hyv
                        have HZV := Lib.hid hzv
                        have c0 : (0 : Int) ≤ (cn : Int) := by omega
                        have c1' : (cn : Int) < (tn : Int) := by omega
                        have c2' : (0 : Int) ≤ (dn : Int) := by omega
                        have c3' : (dn : Int) < (tn : Int) := by omega
                        have gA : IntKind.i64.wrap (y - a) = y - a := IntWalk.i64_in _ (by omega)
                        have gB : IntKind.i64.wrap (y - a + (ap : Int)) = y - a + (ap : Int) := IntWalk.i64_in _ (by omega)
                        have gC : IntKind.i64.wrap (z + a) = z + a := IntWalk.i64_in _ (by omega)
                        have gD : IntKind.i64.wrap (z + a - (ap : Int)) = z + a - (ap : Int) := IntWalk.i64_in _ (by omega)
                        clear hcs hyv hzv
                        go_upto_region 40 with fail
                        clear a0 a1 a2 p0 p1 p5 p6
                        refine wp_region_held_drew (S := (fun W => W.cell? ⟨P, 0 + 3, none⟩ = some (.int .i64 (cn : Int)) ∧ W.cell? ⟨P, 0 + 4, none⟩ = some (.int .i64 a))) (by kernel_rfl) ?_ (fun hHeld => ?_)
                        · exact ⟨p3, p4⟩
                        refine wpAnyH_take (i := 0) (v := ?_) rfl (by kernel_rfl) (by kernel_rfl) (by kernel_rfl) (fun _ _ _ h => h) (Or.inl ⟨by rfl, ?_⟩) (by assumption) ?_
                        rotate_left
                        · intro w hSw
                          try dsimp only at hSw
                          go_simp
                          all_goals with_reducible rfl
                        try simp only [Act.put, List.getElem_toArray, List.getElem_cons_zero, List.setIfInBounds_toArray, List.set_cons_zero, List.set_cons_succ]
                        refine wpAnyH_take (i := 1) (v := ?_) rfl (by kernel_rfl) (by kernel_rfl) (by kernel_rfl) (fun _ _ _ h => h) (Or.inl ⟨by rfl, ?_⟩) (by assumption) ?_
                        rotate_left
                        · intro w hSw
                          try dsimp only at hSw
                          go_simp
                          all_goals with_reducible rfl
                        try simp only [Act.put, List.getElem_toArray, List.getElem_cons_succ, List.getElem_cons_zero, List.setIfInBounds_toArray, List.set_cons_zero, List.set_cons_succ]
                        refine wpAnyH_take (i := 2) (v := ?_) rfl (by kernel_rfl) (by kernel_rfl) (by kernel_rfl) (fun _ _ _ h => h) (Or.inl ⟨by rfl, ?_⟩) (by assumption) ?_
                        rotate_left
                        · intro w hSw
                          try dsimp only at hSw
                          go_simp
                          all_goals with_reducible rfl
                        try simp only [Act.put, List.getElem_toArray, List.getElem_cons_succ, List.getElem_cons_zero, List.setIfInBounds_toArray, List.set_cons_zero, List.set_cons_succ]
                        refine wpAnyH_take (i := 3) (v := ?_) rfl (by kernel_rfl) (by kernel_rfl) (by kernel_rfl) (fun _ _ _ h => h) (Or.inl ⟨by rfl, ?_⟩) (by assumption) ?_
                        rotate_left
                        · intro w hSw
                          try dsimp only at hSw
                          go_simp
                          all_goals with_reducible rfl
                        try simp only [Act.put, List.getElem_toArray, List.getElem_cons_succ, List.getElem_cons_zero, List.setIfInBounds_toArray, List.set_cons_zero, List.set_cons_succ]
                        refine wpAnyH_take (i := 4) (v := ?_) rfl (by kernel_rfl) (by kernel_rfl) (by kernel_rfl) (fun _ _ _ h => h) (Or.inl ⟨by rfl, ?_⟩) (by assumption) ?_
                        rotate_left
                        · intro w hSw
                          try dsimp only at hSw
                          go_simp
                          all_goals with_reducible rfl
                        try simp only [Act.put, List.getElem_toArray, List.getElem_cons_succ, List.getElem_cons_zero, List.setIfInBounds_toArray, List.set_cons_zero, List.set_cons_succ]
                        refine wpAnyH_take (i := 5) (v := ?_) rfl (by kernel_rfl) (by kernel_rfl) (by kernel_rfl) (fun _ _ _ h => h) (Or.inl ⟨by rfl, ?_⟩) (by assumption) ?_
                        rotate_left
                        · intro w hSw
                          try dsimp only at hSw
                          go_simp
                          all_goals with_reducible rfl
                        try simp only [Act.put, List.getElem_toArray, List.getElem_cons_succ, List.getElem_cons_zero, List.setIfInBounds_toArray, List.set_cons_zero, List.set_cons_succ]
                        refine wpAnyH_take (i := 6) (v := ?_) rfl (by kernel_rfl) (by kernel_rfl) (by kernel_rfl) (fun _ _ _ h => h) (Or.inl ⟨by rfl, ?_⟩) (by assumption) ?_
                        rotate_left
                        · intro w hSw
                          try dsimp only at hSw
                          go_simp
                          all_goals with_reducible rfl
                        try simp only [Act.put, List.getElem_toArray, List.getElem_cons_succ, List.getElem_cons_zero, List.setIfInBounds_toArray, List.set_cons_zero, List.set_cons_succ]
                        refine wpAnyH_take (i := 8) (v := ?_) rfl (by kernel_rfl) (by kernel_rfl) (by kernel_rfl) (fun _ _ _ h => h) (Or.inl ⟨by rfl, ?_⟩) (by assumption) ?_
                        rotate_left
                        · intro w hSw
                          try dsimp only at hSw
                          go_simp
                          all_goals with_reducible rfl
                        try simp only [Act.put, List.getElem_toArray, List.getElem_cons_succ, List.getElem_cons_zero, List.setIfInBounds_toArray, List.set_cons_zero, List.set_cons_succ]
                        refine wpAnyH_take (i := 9) (v := ?_) rfl (by kernel_rfl) (by kernel_rfl) (by kernel_rfl) (fun _ _ _ h => h) (Or.inl ⟨by rfl, ?_⟩) (by assumption) ?_
                        rotate_left
                        · intro w hSw
                          try dsimp only at hSw
                          go_simp
                          all_goals with_reducible rfl
                        try simp only [Act.put, List.getElem_toArray, List.getElem_cons_succ, List.getElem_cons_zero, List.setIfInBounds_toArray, List.set_cons_zero, List.set_cons_succ]
                        refine wpAnyH_take (i := 11) (v := ?_) rfl (by kernel_rfl) (by kernel_rfl) (by kernel_rfl) (fun _ _ _ h => h) (Or.inl ⟨by rfl, ?_⟩) (by assumption) ?_
                        rotate_left
                        · intro w hSw
                          try dsimp only at hSw
                          go_simp
                          all_goals with_reducible rfl
                        try simp only [Act.put, List.getElem_toArray, List.getElem_cons_succ, List.getElem_cons_zero, List.setIfInBounds_toArray, List.set_cons_zero, List.set_cons_succ]
                        refine wpAnyH_ready (rs := [7]) (by kernel_rfl) (by simp) ?_
                        refine AllReadyH.cons rfl (fun K hK => ?_) AllReadyH.nil
                        go_simp
                        refine hK.out _ _ ?_ (fun hHeld2 => ?_)
                        · assumption
                        clear hK K hHeld
                        have hHeld := hHeld2
                        clear hHeld2
                        try simp only [Act.put, List.getElem_toArray, List.getElem_cons_succ, List.getElem_cons_zero, List.setIfInBounds_toArray, List.set_cons_zero, List.set_cons_succ]
                        refine wpAnyH_take (i := 10) (v := ?_) rfl (by kernel_rfl) (by kernel_rfl) (by kernel_rfl) (fun _ _ _ h => h) (Or.inl ⟨by rfl, ?_⟩) (by assumption) ?_
                        rotate_left
                        · intro w hSw
                          try dsimp only at hSw
                          go_simp
                          all_goals with_reducible rfl
                        try simp only [Act.put, List.getElem_toArray, List.getElem_cons_succ, List.getElem_cons_zero, List.setIfInBounds_toArray, List.set_cons_zero, List.set_cons_succ]
                        refine wpAnyH_take (i := 12) (v := ?_) rfl (by kernel_rfl) (by kernel_rfl) (by kernel_rfl) (fun _ _ _ h => h) (Or.inl ⟨by rfl, ?_⟩) (by assumption) ?_
                        rotate_left
                        · intro w hSw
                          try dsimp only at hSw
                          go_simp
                          all_goals with_reducible rfl
                        try simp only [Act.put, List.getElem_toArray, List.getElem_cons_succ, List.getElem_cons_zero, List.setIfInBounds_toArray, List.set_cons_zero, List.set_cons_succ]
                        refine wpAnyH_take (i := 13) (v := ?_) rfl (by kernel_rfl) (by kernel_rfl) (by kernel_rfl) (fun _ _ _ h => h) (Or.inl ⟨by rfl, ?_⟩) (by assumption) ?_
                        rotate_left
                        · intro w hSw
                          try dsimp only at hSw
                          go_simp
                          all_goals with_reducible rfl
                        try simp only [Act.put, List.getElem_toArray, List.getElem_cons_succ, List.getElem_cons_zero, List.setIfInBounds_toArray, List.set_cons_zero, List.set_cons_succ]
                        refine wpAnyH_ready (rs := [14]) (by kernel_rfl) (by simp) ?_
                        refine AllReadyH.cons rfl (fun K hK => ?_) AllReadyH.nil
                        go_simp
                        refine hK.out _ _ ?_ (fun hHeld2 => ?_)
                        · exact ⟨(World.cell?_setCell_far w11 ⟨b, o + cn, none⟩ ⟨P, 0 + 3, none⟩ _ hPb).trans p3, (World.cell?_setCell_far w11 ⟨b, o + cn, none⟩ ⟨P, 0 + 4, none⟩ _ hPb).trans p4⟩
                        clear hK K hHeld
                        have hHeld := hHeld2
                        clear hHeld2
                        try simp only [Act.put, List.getElem_toArray, List.getElem_cons_succ, List.getElem_cons_zero, List.setIfInBounds_toArray, List.set_cons_zero, List.set_cons_succ]
                        refine wpAnyH_done (by kernel_rfl) ?_ _
                        have hdr : ∀ W : World, Below W.heap.size W W.drew := fun W => (Below.refl _ _).drew
                        have HRS12 := Lib.hid ((readsI_set HRS11.out hct (y - a + (ap : Int))).below (hdr _))
                        have HFR12 := Lib.hid ((HFR11.out.set (o + cn) (.int .i64 (y - a + (ap : Int)))).below (hdr _))
                        have HRT12 := Lib.hid ((readsI_off HRT.out (b := b) (fun hn b' hb' => HQT.out _ rfl hn b' hb') (o + cn) (.int .i64 (y - a + (ap : Int)))).below (hdr _))
                        have HB12 := Lib.hid (Below_set HB11.out (b := b) (i := o + cn) hWb (.int .i64 (y - a + (ap : Int)))).drew
                        have r2 : (w11.setCell ⟨b, o + cn, none⟩ (.int .i64 (y - a + (ap : Int)))).drew.cell? ⟨P, 0 + 2, none⟩ = _ := (World.cell?_setCell_far w11 ⟨b, o + cn, none⟩ ⟨P, 0 + 2, none⟩ _ hPb).trans p2
                        have r4 : (w11.setCell ⟨b, o + cn, none⟩ (.int .i64 (y - a + (ap : Int)))).drew.cell? ⟨P, 0 + 4, none⟩ = _ := (World.cell?_setCell_far w11 ⟨b, o + cn, none⟩ ⟨P, 0 + 4, none⟩ _ hPb).trans p4
                        obtain ⟨w12, hw12⟩ : ∃ w12, (w11.setCell ⟨b, o + cn, none⟩ (.int .i64 (y - a + (ap : Int)))).drew = w12 := ⟨_, rfl⟩
                        go_upto_region 41 with fail
                        rw [hw12] at HRS12 HFR12 HRT12 HB12 r2 r4 ⊢
                        clear hw12 x1 x2 p2 p3 p4 gA gB hHeld HRS11 HFR11 HRT HB11
                        have x1 : w12.cell? ⟨b, o + dn, none⟩ = some (.int .i64 z) := by
                          obtain ⟨b', o', hp, hcs⟩ := HRS12.out dn hdt
                          cases hp
                          have h := hcs dn hdt
                          simp only [if_neg (show ¬ dn = cn from fun e => hcd e.symm)] at h
                          rwa [HZV.out] at h
                        have x2 := free_at HFR12.out (o + dn)
                        have p2 := r2
                        have p4 := r4
                        clear r2 r4
                        refine wp_region_held_drew (S := (fun W => W.cell? ⟨P, 0 + 2, none⟩ = some (.int .i64 (dn : Int)) ∧ W.cell? ⟨P, 0 + 4, none⟩ = some (.int .i64 a))) (by kernel_rfl) ?_ (fun hHeld => ?_)
                        · exact ⟨p2, p4⟩
                        refine wpAnyH_take (i := 0) (v := ?_) rfl (by kernel_rfl) (by kernel_rfl) (by kernel_rfl) (fun _ _ _ h => h) (Or.inl ⟨by rfl, ?_⟩) (by assumption) ?_
                        rotate_left
                        · intro w hSw
                          try dsimp only at hSw
                          go_simp
                          all_goals with_reducible rfl
                        try simp only [Act.put, List.getElem_toArray, List.getElem_cons_zero, List.setIfInBounds_toArray, List.set_cons_zero, List.set_cons_succ]
                        refine wpAnyH_take (i := 1) (v := ?_) rfl (by kernel_rfl) (by kernel_rfl) (by kernel_rfl) (fun _ _ _ h => h) (Or.inl ⟨by rfl, ?_⟩) (by assumption) ?_
                        rotate_left
                        · intro w hSw
                          try dsimp only at hSw
                          go_simp
                          all_goals with_reducible rfl
                        try simp only [Act.put, List.getElem_toArray, List.getElem_cons_succ, List.getElem_cons_zero, List.setIfInBounds_toArray, List.set_cons_zero, List.set_cons_succ]
                        refine wpAnyH_take (i := 2) (v := ?_) rfl (by kernel_rfl) (by kernel_rfl) (by kernel_rfl) (fun _ _ _ h => h) (Or.inl ⟨by rfl, ?_⟩) (by assumption) ?_
                        rotate_left
                        · intro w hSw
                          try dsimp only at hSw
                          go_simp
                          all_goals with_reducible rfl
                        try simp only [Act.put, List.getElem_toArray, List.getElem_cons_succ, List.getElem_cons_zero, List.setIfInBounds_toArray, List.set_cons_zero, List.set_cons_succ]
                        refine wpAnyH_take (i := 3) (v := ?_) rfl (by kernel_rfl) (by kernel_rfl) (by kernel_rfl) (fun _ _ _ h => h) (Or.inl ⟨by rfl, ?_⟩) (by assumption) ?_
                        rotate_left
                        · intro w hSw
                          try dsimp only at hSw
                          go_simp
                          all_goals with_reducible rfl
                        try simp only [Act.put, List.getElem_toArray, List.getElem_cons_succ, List.getElem_cons_zero, List.setIfInBounds_toArray, List.set_cons_zero, List.set_cons_succ]
                        refine wpAnyH_take (i := 4) (v := ?_) rfl (by kernel_rfl) (by kernel_rfl) (by kernel_rfl) (fun _ _ _ h => h) (Or.inl ⟨by rfl, ?_⟩) (by assumption) ?_
                        rotate_left
                        · intro w hSw
                          try dsimp only at hSw
                          go_simp
                          all_goals with_reducible rfl
                        try simp only [Act.put, List.getElem_toArray, List.getElem_cons_succ, List.getElem_cons_zero, List.setIfInBounds_toArray, List.set_cons_zero, List.set_cons_succ]
                        refine wpAnyH_take (i := 5) (v := ?_) rfl (by kernel_rfl) (by kernel_rfl) (by kernel_rfl) (fun _ _ _ h => h) (Or.inl ⟨by rfl, ?_⟩) (by assumption) ?_
                        rotate_left
                        · intro w hSw
                          try dsimp only at hSw
                          go_simp
                          all_goals with_reducible rfl
                        try simp only [Act.put, List.getElem_toArray, List.getElem_cons_succ, List.getElem_cons_zero, List.setIfInBounds_toArray, List.set_cons_zero, List.set_cons_succ]
                        refine wpAnyH_take (i := 6) (v := ?_) rfl (by kernel_rfl) (by kernel_rfl) (by kernel_rfl) (fun _ _ _ h => h) (Or.inl ⟨by rfl, ?_⟩) (by assumption) ?_
                        rotate_left
                        · intro w hSw
                          try dsimp only at hSw
                          go_simp
                          all_goals with_reducible rfl
                        try simp only [Act.put, List.getElem_toArray, List.getElem_cons_succ, List.getElem_cons_zero, List.setIfInBounds_toArray, List.set_cons_zero, List.set_cons_succ]
                        refine wpAnyH_take (i := 8) (v := ?_) rfl (by kernel_rfl) (by kernel_rfl) (by kernel_rfl) (fun _ _ _ h => h) (Or.inl ⟨by rfl, ?_⟩) (by assumption) ?_
                        rotate_left
                        · intro w hSw
                          try dsimp only at hSw
                          go_simp
                          all_goals with_reducible rfl
                        try simp only [Act.put, List.getElem_toArray, List.getElem_cons_succ, List.getElem_cons_zero, List.setIfInBounds_toArray, List.set_cons_zero, List.set_cons_succ]
                        refine wpAnyH_take (i := 9) (v := ?_) rfl (by kernel_rfl) (by kernel_rfl) (by kernel_rfl) (fun _ _ _ h => h) (Or.inl ⟨by rfl, ?_⟩) (by assumption) ?_
                        rotate_left
                        · intro w hSw
                          try dsimp only at hSw
                          go_simp
                          all_goals with_reducible rfl
                        try simp only [Act.put, List.getElem_toArray, List.getElem_cons_succ, List.getElem_cons_zero, List.setIfInBounds_toArray, List.set_cons_zero, List.set_cons_succ]
                        refine wpAnyH_take (i := 11) (v := ?_) rfl (by kernel_rfl) (by kernel_rfl) (by kernel_rfl) (fun _ _ _ h => h) (Or.inl ⟨by rfl, ?_⟩) (by assumption) ?_
                        rotate_left
                        · intro w hSw
                          try dsimp only at hSw
                          go_simp
                          all_goals with_reducible rfl
                        try simp only [Act.put, List.getElem_toArray, List.getElem_cons_succ, List.getElem_cons_zero, List.setIfInBounds_toArray, List.set_cons_zero, List.set_cons_succ]
                        refine wpAnyH_ready (rs := [7]) (by kernel_rfl) (by simp) ?_
                        refine AllReadyH.cons rfl (fun K hK => ?_) AllReadyH.nil
                        go_simp
                        refine hK.out _ _ ?_ (fun hHeld2 => ?_)
                        · assumption
                        clear hK K hHeld
                        have hHeld := hHeld2
                        clear hHeld2
                        try simp only [Act.put, List.getElem_toArray, List.getElem_cons_succ, List.getElem_cons_zero, List.setIfInBounds_toArray, List.set_cons_zero, List.set_cons_succ]
                        refine wpAnyH_take (i := 10) (v := ?_) rfl (by kernel_rfl) (by kernel_rfl) (by kernel_rfl) (fun _ _ _ h => h) (Or.inl ⟨by rfl, ?_⟩) (by assumption) ?_
                        rotate_left
                        · intro w hSw
                          try dsimp only at hSw
                          go_simp
                          all_goals with_reducible rfl
                        try simp only [Act.put, List.getElem_toArray, List.getElem_cons_succ, List.getElem_cons_zero, List.setIfInBounds_toArray, List.set_cons_zero, List.set_cons_succ]
                        refine wpAnyH_take (i := 12) (v := ?_) rfl (by kernel_rfl) (by kernel_rfl) (by kernel_rfl) (fun _ _ _ h => h) (Or.inl ⟨by rfl, ?_⟩) (by assumption) ?_
                        rotate_left
                        · intro w hSw
                          try dsimp only at hSw
                          go_simp
                          all_goals with_reducible rfl
                        try simp only [Act.put, List.getElem_toArray, List.getElem_cons_succ, List.getElem_cons_zero, List.setIfInBounds_toArray, List.set_cons_zero, List.set_cons_succ]
                        refine wpAnyH_take (i := 13) (v := ?_) rfl (by kernel_rfl) (by kernel_rfl) (by kernel_rfl) (fun _ _ _ h => h) (Or.inl ⟨by rfl, ?_⟩) (by assumption) ?_
                        rotate_left
                        · intro w hSw
                          try dsimp only at hSw
                          go_simp
                          all_goals with_reducible rfl
                        try simp only [Act.put, List.getElem_toArray, List.getElem_cons_succ, List.getElem_cons_zero, List.setIfInBounds_toArray, List.set_cons_zero, List.set_cons_succ]
                        refine wpAnyH_ready (rs := [14]) (by kernel_rfl) (by simp) ?_
                        refine AllReadyH.cons rfl (fun K hK => ?_) AllReadyH.nil
                        go_simp
                        refine hK.out _ _ ?_ (fun hHeld2 => ?_)
                        · exact ⟨(World.cell?_setCell_far w12 ⟨b, o + dn, none⟩ ⟨P, 0 + 2, none⟩ _ hPb).trans p2, (World.cell?_setCell_far w12 ⟨b, o + dn, none⟩ ⟨P, 0 + 4, none⟩ _ hPb).trans p4⟩
                        clear hK K hHeld
                        have hHeld := hHeld2
                        clear hHeld2
                        try simp only [Act.put, List.getElem_toArray, List.getElem_cons_succ, List.getElem_cons_zero, List.setIfInBounds_toArray, List.set_cons_zero, List.set_cons_succ]
                        refine wpAnyH_done (by kernel_rfl) ?_ _
                        have HRS13 := Lib.hid ((readsI_set HRS12.out hdt (z + a - (ap : Int))).below (hdr _))
                        have HRT13 := Lib.hid ((readsI_off HRT12.out (b := b) (fun hn b' hb' => HQT.out _ rfl hn b' hb') (o + dn) (.int .i64 (z + a - (ap : Int)))).below (hdr _))
                        have HB13 := Lib.hid (Below_set HB12.out (b := b) (i := o + dn) hWb (.int .i64 (z + a - (ap : Int)))).drew
                        obtain ⟨w13, hw13⟩ : ∃ w13, (w12.setCell ⟨b, o + dn, none⟩ (.int .i64 (z + a - (ap : Int)))).drew = w13 := ⟨_, rfl⟩
                        rw [hw13] at HRS13 HRT13 HB13
                        go_wp2_with fail
                        try rw [hw13]
                        clear hw13 x1 x2 p2 p4 gC gD hHeld HRS12 HFR12 HRT12 HB12
                        refine (ints_yes (some ⟨b, o, none⟩) pt tn tn sc tc _ ft w13 (by have := HTB.out; omega) rfl HRS13.out HRT13.out (fun j hj => by
                          have h := HMV.out.on HYS.out j hj
                          rw [HAE.out, HYV.out, HZV.out] at h
                          exact h)).mono ?_
                        rintro e w14 ⟨rfl, hb14⟩
                        have HB14 := Lib.hid (HB13.out.trans (hb14.mono HB13.out.size))
                        clear hb14
                        go_wp2_with fail
                        exact ⟨⟨s + 1, by go_num, by omega, HB14.out⟩, by simp [intOf]; omega⟩
                      · have hyb : ((s : Int) == dy / 30) = false := by simp [hyes]
                        have HYS := Lib.hid hyes
                        clear hyes
                        have HIY := Lib.hid (ints_yes ps pt tn tn sc tc fs ft w11 (by have := HTB.out; omega) rfl HRS11.out HRT.out (fun j hj => HMV.out.off HYS.out j hj))
                        go_wp2_with fail
                        refine HIY.out.mono ?_
                        rintro e w14 ⟨rfl, hb14⟩
                        have HB14 := Lib.hid (HB11.out.trans (hb14.mono HB11.out.size))
                        clear hb14
                        go_wp2_with fail
                        exact ⟨⟨s + 1, by go_num, by omega, HB14.out⟩, by simp [intOf]; omega⟩
                    · have l0 : ¬ (s : Int) < 12 := by omega
                      have HFIN := Lib.hid (HBW.out _ hb)
                      clear hb
                      go_wp2_with fail
                      refine bodyPost_ret (v := .bool true) (by simp [results, Try.results6, go_sem]) rfl ⟨rfl, HFIN.out⟩
        · have hkb : ((g i).kind != 1) = true := by simp [hk1]
          obtain rfl := HREF.out (fun h => hk1 h.1)
          clear hk1 p1 p2 p3 p4 p5 p6
          go_wp2_with fail
          refine bodyPost_ret (v := .bool true) (by simp [results, Try.results6, go_sem]) rfl ⟨rfl, HB7.out⟩
end Go.Proofs.Ytcfplkbbgjiocaa
