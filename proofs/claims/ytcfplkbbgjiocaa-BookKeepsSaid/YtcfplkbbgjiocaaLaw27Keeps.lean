/- BookKeeps: the law's body returns true. Conditions: deeds that can be read; numbers of 64 bits. -/
import Derived.Test.YtcfplkbbgjiocaaBookKeepLaw
import Derived.Deep.DeepCutAuto
import Derived.Deep.CutBlock
namespace Go.Proofs.Ytcfplkbbgjiocaa
open Go Go.RowKit Go.Shelf
theorem add_zero' (a : Option Addr) : a.map (fun x => x.add 0) = a := by
  cases a with
  | none => rfl
  | some a => obtain ⟨b, o, s⟩ := a; cases s <;> simp [Addr.add]
theorem readsP_ne {W : World} {p : Option Addr} {n : Nat} {g : Nat → Pst} (h : ReadsP W p n g) {b : Nat} (hb : 0 < n → ∀ a, p = some a → a.block ≠ b) (i : Nat) (v : Value) : ReadsP (W.setCell ⟨b, i, none⟩ v) p n g := fun j hj => by
  obtain ⟨B, off, hp, hc⟩ := h j hj
  have := hb (by omega) _ hp
  exact ⟨B, off, hp, fun k hk c hc' => (World.cell?_setCell_far W ⟨b, i, none⟩ ⟨B, off + k * 7 + c, none⟩ v (fun e => this e.symm)).trans (hc k hk c hc')⟩
theorem readsP_three_ne {W : World} {p : Option Addr} {n : Nat} {g : Nat → Pst} (h : ReadsP W p n g) {b : Nat} (hb : 0 < n → ∀ a, p = some a → a.block ≠ b) (v0 v1 v2 : Value) :
    ReadsP (((W.setCell ⟨b, 0, none⟩ v0).setCell ⟨b, 1, none⟩ v1).setCell ⟨b, 2, none⟩ v2) p n g := readsP_ne (readsP_ne (readsP_ne h hb 0 v0) hb 1 v1) hb 2 v2
theorem stat_good' {tn n k : Nat} {closed month er : Int} {g : Nat → Pst} {f : Nat → Int} (h : StatSpec (tn : Int) closed n g month k f er) (hok : BookOk (tn : Int) closed n g) (hm : 0 ≤ month ∧ month ≤ 11) : er = 0 ∧ k = tn ∧ ∀ i, i < tn → f i = balF g month i n := by
  rcases h with ⟨_, h1, h2, h3⟩ | ⟨hno, _⟩
  · obtain rfl : k = tn := by omega
    exact ⟨h1, rfl, h3⟩
  · exact absurd ⟨hok, hm⟩ hno
set_option maxRecDepth 100000 in
set_option maxHeartbeats 8000000 in
theorem bookKeeps_any (x : Int) (q0 : Option Addr) (m0 c0 : Nat) (h : Nat → Nat → Int) (q1 : Option Addr) (m1 c1 : Nat) (h' : Nat → Nat → Int) (w : World) (hin : ArrsIn w q0 m0 h) (hin' : ArrsIn w q1 m1 h') (bx : -9223372036854775808 ≤ x ∧ x ≤ 9223372036854775807) :
    Calls Try.prog 5 #[.int .i64 x, .slice q0 m0 c0, .slice q1 m1 c1] w fun e w' => e = .returned (.bool true) ∧ Below w.heap.size w w' := by
  have HIN := Lib.hid hin
  have HI2 := Lib.hid hin'
  have HBX := Lib.hid bx
  clear hin hin' bx
  go_enter Try.func5, Try.ntmps5
  go_wp2_with fail
  refine (sane_any _).mono ?_
  rintro e w1 ⟨rfl, hb1⟩
  go_wp2_with fail
  refine (Made_any x q0 m0 c0 h w1 (HIN.out.below hb1) HBX.out).mono ?_
  rintro e w2 ⟨tn, n, c, closed, q, g, rfl, hok, hn48, hsub, hrd2, hq2, hb2⟩
  have hal3 : Below w2.heap.size w2 (w2.alloc (.cells #[.int .i64 (tn : Int), .slice q n c, .int .i64 closed] 24)) := (Below.refl _ _).alloc (Nat.le_refl _) _
  have hx3 := BkBox.new w2 (tn : Int) closed (.slice q n c)
  obtain ⟨w3, hw3⟩ : ∃ w3, w2.alloc (.cells #[.int .i64 (tn : Int), .slice q n c, .int .i64 closed] 24) = w3 := ⟨_, rfl⟩
  have HW3 := Lib.hid hw3
  rw [hw3] at hal3 hx3
  have HB3 := Lib.hid ((hb1.trans (hb2.mono hb1.size)).trans (hal3.mono (Nat.le_trans hb1.size hb2.size)))
  have HX3 := Lib.hid hx3
  have HR3 := Lib.hid (hrd2.below hal3)
  have HQ3 : Hid (0 < n → ∀ a, q = some a → a.block ≠ w2.heap.size) := Lib.hid (fun hn a ha => by
    obtain ⟨b, off, hp, hc⟩ := hrd2 0 hn
    have := cell_lt (hc 0 hn 0 (by omega))
    rw [ha] at hp
    cases hp
    show b ≠ _
    omega)
  have HA0 : Hid (w.heap.size ≤ w2.heap.size) := Lib.hid (Nat.le_trans hb1.size hb2.size)
  have HOK := Lib.hid hok
  have HN48 := Lib.hid hn48
  clear hb1 hb2 hal3 hx3 hw3 hrd2 hok hsub hq2 hn48
  go_upto_region 3 with fail
  rw [HW3.out]
  obtain ⟨A, hA⟩ : ∃ A, w2.heap.size = A := ⟨_, rfl⟩
  rw [hA] at HX3 HQ3 HA0
  rw [hA]
  clear HW3 hA
  obtain ⟨a0, a1, a2⟩ := HX3.out.cells
  have HV := Lib.hid (valid_any (tn : Int) closed q n c g w3 (by have := HN48.out; unfold maxLen; omega) HR3.out)
  go_wp2_with fail
  refine HV.out.mono ?_
  rintro e w4 ⟨⟨r, rfl, hiff⟩, hb4⟩
  obtain rfl : r = true := hiff.2 HOK.out
  have HB4 := Lib.hid (HB3.out.trans (hb4.mono HB3.out.size))
  have HX4 := Lib.hid (HX3.out.below hb4)
  have HR4 := Lib.hid (HR3.out.below hb4)
  have HTB : Hid (2 ≤ tn ∧ tn ≤ 4) := Lib.hid (by have := HOK.out.1.1; unfold within at this; omega)
  clear a0 a1 a2 HV hiff hb4 HB3 HX3 HR3
  go_wp2_with fail
  go_loopw [9] (fun iv wr => ∃ (i n c : Nat) (closed : Int) (q : Option Addr) (g : Nat → Pst), iv = .int .i64 i ∧ i ≤ 8 ∧ i ≤ m1 ∧ n ≤ 48 + 2 * i ∧ Hid (BookOk (tn : Int) closed n g) ∧
    BkBox wr A (tn : Int) (.slice q n c) closed ∧ Hid (ReadsP wr q n g) ∧ Hid (0 < n → ∀ a, q = some a → a.block ≠ A) ∧ Below A w4 wr) (fun iv _ => 8 - (intOf iv).toNat)
  case atStart => exact ⟨0, n, c, closed, q, g, rfl, by omega, by omega, by have := HN48.out; omega, HOK, HX4.out, HR4, HQ3, Below.refl _ _⟩
  case round =>
    obtain ⟨i, n, c, closed, q, g, rfl, hi8, him, hn2, HOK, hbk, HRD, HQ, hB⟩ := hrel
    have HBR : Hid (Below w.heap.size w wr) := Lib.hid (HB4.out.trans (hB.mono HA0.out))
    by_cases hlt : i < m1
    · by_cases hl8 : i < 8
      · obtain ⟨b0, o0, rfl, hcs0⟩ := HI2.out.cell i hlt
        have hcs : ∀ c, c < 5 → wr.cell? ⟨b0, o0 + i * 5 + c, none⟩ = some (.int .i64 (h' i c)) := fun c hc' => (HBR.out.cell (p := ⟨b0, o0 + i * 5 + c, none⟩) (cell_lt (hcs0 i hlt c hc'))).trans (hcs0 i hlt c hc')
        clear hcs0
        have l0 : wr.cell? ⟨b0, o0 + i * 5, none⟩ = some (.int .i64 (h' i 0)) := hcs 0 (by omega)
        have l1 := hcs 1 (by omega)
        have l2 := hcs 2 (by omega)
        have l3 := hcs 3 (by omega)
        have l4 := hcs 4 (by omega)
        obtain ⟨x0, hx0⟩ : ∃ x, h' i 0 = x := ⟨_, rfl⟩
        obtain ⟨x1, hx1⟩ : ∃ x, h' i 1 = x := ⟨_, rfl⟩
        obtain ⟨x2, hx2⟩ : ∃ x, h' i 2 = x := ⟨_, rfl⟩
        obtain ⟨x3, hx3⟩ : ∃ x, h' i 3 = x := ⟨_, rfl⟩
        obtain ⟨x4, hx4⟩ : ∃ x, h' i 4 = x := ⟨_, rfl⟩
        have bd0 := HI2.out.bd i hlt 0 (by omega)
        have bd1 := HI2.out.bd i hlt 1 (by omega)
        have bd2 := HI2.out.bd i hlt 2 (by omega)
        have bd3 := HI2.out.bd i hlt 3 (by omega)
        have bd4 := HI2.out.bd i hlt 4 (by omega)
        rw [hx0] at l0 bd0
        rw [hx1] at l1 bd1
        rw [hx2] at l2 bd2
        rw [hx3] at l3 bd3
        rw [hx4] at l4 bd4
        have Q0 := Lib.hid (fun W => pick_any x0 4 4 W rfl bd0.1 bd0.2 (by omega) (by omega))
        have Q1 := Lib.hid (fun W => pick_any x1 360 360 W rfl bd1.1 bd1.2 (by omega) (by omega))
        have Q2 := Lib.hid (fun W => pick_any x2 4 4 W rfl bd2.1 bd2.2 (by omega) (by omega))
        have Q3 := Lib.hid (fun W => pick_any x3 4 4 W rfl bd3.1 bd3.2 (by omega) (by omega))
        have Q4 := Lib.hid (fun W => pick_any x4 1000 1000 W rfl bd4.1 bd4.2 (by omega) (by omega))
        have Q5 := Lib.hid (fun W => pick_any x4 6 6 W rfl bd4.1 bd4.2 (by omega) (by omega))
        have Q6 := Lib.hid (fun W => pick_any x2 30 30 W rfl bd2.1 bd2.2 (by omega) (by omega))
        have Q7 := Lib.hid (fun W => pick_any x1 13 13 W rfl bd1.1 bd1.2 (by omega) (by omega))
        obtain ⟨r0, hr0⟩ : ∃ r, pickN x0 4 = r := ⟨_, rfl⟩
        obtain ⟨r1, hr1⟩ : ∃ r, pickN x1 360 = r := ⟨_, rfl⟩
        obtain ⟨r2, hr2⟩ : ∃ r, pickN x2 4 = r := ⟨_, rfl⟩
        obtain ⟨r3, hr3⟩ : ∃ r, pickN x3 4 = r := ⟨_, rfl⟩
        obtain ⟨r4, hr4⟩ : ∃ r, pickN x4 1000 = r := ⟨_, rfl⟩
        obtain ⟨r5, hr5⟩ : ∃ r, pickN x4 6 = r := ⟨_, rfl⟩
        obtain ⟨r6, hr6⟩ : ∃ r, pickN x2 30 = r := ⟨_, rfl⟩
        obtain ⟨r7, hr7⟩ : ∃ r, pickN x1 13 = r := ⟨_, rfl⟩
        rw [hr0] at Q0
        rw [hr1] at Q1
        rw [hr2] at Q2
        rw [hr3] at Q3
        rw [hr4] at Q4
        rw [hr5] at Q5
        rw [hr6] at Q6
        rw [hr7] at Q7
        clear hx0 hx1 hx2 hx3 hx4 bd0 bd1 bd2 bd3 bd4 hr0 hr1 hr2 hr3 hr4 hr5 hr6 hr7 hcs
        have v0 : (0 : Int) ≤ (i : Int) := by omega
        have v1 : (i : Int) < (m1 : Int) := by omega
        have hal5 : Below wr.heap.size wr (wr.alloc (.cells #[.int .i64 x0, .int .i64 x1, .int .i64 x2, .int .i64 x3, .int .i64 x4] 48)) := (Below.refl _ _).alloc (Nat.le_refl _) _
        have hy5 : ∀ c v, (#[.int .i64 x0, .int .i64 x1, .int .i64 x2, .int .i64 x3, .int .i64 x4] : Array Value)[c]? = some v → (wr.alloc (.cells #[.int .i64 x0, .int .i64 x1, .int .i64 x2, .int .i64 x3, .int .i64 x4] 48)).cell? ⟨wr.heap.size, c, none⟩ = some v := fun c v hc => by
          unfold World.cell?
          rw [World.alloc_heap_new]
          exact hc
        go_upto_region 9 with fail
        obtain ⟨w5, hw5⟩ : ∃ w5, wr.alloc (.cells #[.int .i64 x0, .int .i64 x1, .int .i64 x2, .int .i64 x3, .int .i64 x4] 48) = w5 := ⟨_, rfl⟩
        rw [hw5] at hal5 hy5 ⊢
        obtain ⟨Y, hY⟩ : ∃ Y, wr.heap.size = Y := ⟨_, rfl⟩
        have hAY : A < Y := by have := hbk.lt; omega
        have HBK5 := Lib.hid (hbk.below hal5)
        have HRD5 := Lib.hid (HRD.out.below hal5)
        have HB5 := Lib.hid (hB.trans (hal5.mono (by omega)))
        rw [hY] at hy5 ⊢
        have HY5 : Hid (∀ W, Below w5.heap.size w5 W → W.cell? ⟨Y, 0, none⟩ = some (.int .i64 x0) ∧ W.cell? ⟨Y, 1, none⟩ = some (.int .i64 x1) ∧ W.cell? ⟨Y, 2, none⟩ = some (.int .i64 x2) ∧ W.cell? ⟨Y, 3, none⟩ = some (.int .i64 x3) ∧ W.cell? ⟨Y, 4, none⟩ = some (.int .i64 x4)) := Lib.hid (fun W hb =>
          ⟨(hb.cell (p := ⟨Y, 0, none⟩) (cell_lt (hy5 0 _ rfl))).trans (hy5 0 _ rfl), (hb.cell (p := ⟨Y, 1, none⟩) (cell_lt (hy5 0 _ rfl))).trans (hy5 1 _ rfl), (hb.cell (p := ⟨Y, 2, none⟩) (cell_lt (hy5 0 _ rfl))).trans (hy5 2 _ rfl), (hb.cell (p := ⟨Y, 3, none⟩) (cell_lt (hy5 0 _ rfl))).trans (hy5 3 _ rfl), (hb.cell (p := ⟨Y, 4, none⟩) (cell_lt (hy5 0 _ rfl))).trans (hy5 4 _ rfl)⟩)
        have HYS : Hid (Y < w5.heap.size) := Lib.hid (cell_lt (hy5 0 _ rfl))
        clear l0 l1 l2 l3 l4 hal5 hy5 hw5 hY hbk hB HRD HBR
        obtain ⟨y0, y1, y2, y3, y4⟩ := HY5.out w5 (Below.refl _ _)
        go_upto_region 10 with (go_at_call 14; refine (Q1.out _).mono ?_; rintro e w1 ⟨rfl, rfl⟩)
        have HKS : Hid (∀ W, Below w5.heap.size w5 W → W.cell? ⟨Y, 2, none⟩ = some (.int .i64 x2) ∧ W.cell? ⟨Y, 3, none⟩ = some (.int .i64 x3) ∧ W.cell? ⟨Y, 4, none⟩ = some (.int .i64 x4)) := Lib.hid (fun W hb => (HY5.out W hb).2.2)
        clear y0 y1 y2 y3 y4
        refine wp_region_held_drew (S := (fun W => W.cell? ⟨Y, 2, none⟩ = some (.int .i64 x2) ∧ W.cell? ⟨Y, 3, none⟩ = some (.int .i64 x3) ∧ W.cell? ⟨Y, 4, none⟩ = some (.int .i64 x4))) (by kernel_rfl) ?_ (fun hHeld => ?_)
        · exact HKS.out _ (Below.refl _ _).drew
        refine wpAnyH_take (i := 0) (v := ?_) rfl (by kernel_rfl) (by kernel_rfl) (by kernel_rfl) (fun _ _ _ h => h) (Or.inl ⟨by rfl, ?_⟩) (by assumption) ?_
        rotate_left
        · intro w hSw
          try dsimp only at hSw
          go_simp
          all_goals with_reducible rfl
        try simp only [Act.put, List.getElem_toArray, List.getElem_cons_zero, List.setIfInBounds_toArray, List.set_cons_zero, List.set_cons_succ]
        refine wpAnyH_take (i := 1) (v := ?_) rfl (by kernel_rfl) (by kernel_rfl) (by kernel_rfl) (fun _ _ _ h => h) (Or.inl ⟨by rfl, ?_⟩) (by assumption) ?_
        rotate_left
        · intro w hSw
          try dsimp only at hSw
          go_simp
          all_goals with_reducible rfl
        try simp only [Act.put, List.getElem_toArray, List.getElem_cons_succ, List.getElem_cons_zero, List.setIfInBounds_toArray, List.set_cons_zero, List.set_cons_succ]
        refine wpAnyH_take (i := 2) (v := ?_) rfl (by kernel_rfl) (by kernel_rfl) (by kernel_rfl) (fun _ _ _ h => h) (Or.inl ⟨by rfl, ?_⟩) (by assumption) ?_
        rotate_left
        · intro w hSw
          try dsimp only at hSw
          go_simp
          all_goals with_reducible rfl
        try simp only [Act.put, List.getElem_toArray, List.getElem_cons_succ, List.getElem_cons_zero, List.setIfInBounds_toArray, List.set_cons_zero, List.set_cons_succ]
        refine wpAnyH_call (i := 3) 14 #[.int .i64 x2, .int .i64 4] rfl (by kernel_rfl) (by kernel_rfl) (by kernel_rfl) (fun _ _ _ h => h) (by rfl) ?_ (fun W _ => Q2.out W) (by assumption) ?_
        · intro w hSw
          try dsimp only at hSw
          go_simp
        try simp only [Act.put, List.getElem_toArray, List.getElem_cons_succ, List.getElem_cons_zero, List.setIfInBounds_toArray, List.set_cons_zero, List.set_cons_succ]
        refine wpAnyH_take (i := 4) (v := ?_) rfl (by kernel_rfl) (by kernel_rfl) (by kernel_rfl) (fun _ _ _ h => h) (Or.inl ⟨by rfl, ?_⟩) (by assumption) ?_
        rotate_left
        · intro w hSw
          try dsimp only at hSw
          go_simp
          all_goals with_reducible rfl
        try simp only [Act.put, List.getElem_toArray, List.getElem_cons_succ, List.getElem_cons_zero, List.setIfInBounds_toArray, List.set_cons_zero, List.set_cons_succ]
        refine wpAnyH_take (i := 5) (v := ?_) rfl (by kernel_rfl) (by kernel_rfl) (by kernel_rfl) (fun _ _ _ h => h) (Or.inl ⟨by rfl, ?_⟩) (by assumption) ?_
        rotate_left
        · intro w hSw
          try dsimp only at hSw
          go_simp
          all_goals with_reducible rfl
        try simp only [Act.put, List.getElem_toArray, List.getElem_cons_succ, List.getElem_cons_zero, List.setIfInBounds_toArray, List.set_cons_zero, List.set_cons_succ]
        refine wpAnyH_call (i := 6) 14 #[.int .i64 x3, .int .i64 4] rfl (by kernel_rfl) (by kernel_rfl) (by kernel_rfl) (fun _ _ _ h => h) (by rfl) ?_ (fun W _ => Q3.out W) (by assumption) ?_
        · intro w hSw
          try dsimp only at hSw
          go_simp
        try simp only [Act.put, List.getElem_toArray, List.getElem_cons_succ, List.getElem_cons_zero, List.setIfInBounds_toArray, List.set_cons_zero, List.set_cons_succ]
        refine wpAnyH_take (i := 7) (v := ?_) rfl (by kernel_rfl) (by kernel_rfl) (by kernel_rfl) (fun _ _ _ h => h) (Or.inl ⟨by rfl, ?_⟩) (by assumption) ?_
        rotate_left
        · intro w hSw
          try dsimp only at hSw
          go_simp
          all_goals with_reducible rfl
        try simp only [Act.put, List.getElem_toArray, List.getElem_cons_succ, List.getElem_cons_zero, List.setIfInBounds_toArray, List.set_cons_zero, List.set_cons_succ]
        refine wpAnyH_take (i := 8) (v := ?_) rfl (by kernel_rfl) (by kernel_rfl) (by kernel_rfl) (fun _ _ _ h => h) (Or.inl ⟨by rfl, ?_⟩) (by assumption) ?_
        rotate_left
        · intro w hSw
          try dsimp only at hSw
          go_simp
          all_goals with_reducible rfl
        try simp only [Act.put, List.getElem_toArray, List.getElem_cons_succ, List.getElem_cons_zero, List.setIfInBounds_toArray, List.set_cons_zero, List.set_cons_succ]
        refine wpAnyH_call (i := 9) 14 #[.int .i64 x4, .int .i64 1000] rfl (by kernel_rfl) (by kernel_rfl) (by kernel_rfl) (fun _ _ _ h => h) (by rfl) ?_ (fun W _ => Q4.out W) (by assumption) ?_
        · intro w hSw
          try dsimp only at hSw
          go_simp
        try simp only [Act.put, List.getElem_toArray, List.getElem_cons_succ, List.getElem_cons_zero, List.setIfInBounds_toArray, List.set_cons_zero, List.set_cons_succ]
        refine wpAnyH_take (i := 10) (v := ?_) rfl (by kernel_rfl) (by kernel_rfl) (by kernel_rfl) (fun _ _ _ h => h) (Or.inl ⟨by rfl, ?_⟩) (by assumption) ?_
        rotate_left
        · intro w hSw
          try dsimp only at hSw
          go_simp
          all_goals with_reducible rfl
        try simp only [Act.put, List.getElem_toArray, List.getElem_cons_succ, List.getElem_cons_zero, List.setIfInBounds_toArray, List.set_cons_zero, List.set_cons_succ]
        refine wpAnyH_take (i := 11) (v := ?_) rfl (by kernel_rfl) (by kernel_rfl) (by kernel_rfl) (fun _ _ _ h => h) (Or.inl ⟨by rfl, ?_⟩) (by assumption) ?_
        rotate_left
        · intro w hSw
          try dsimp only at hSw
          go_simp
          all_goals with_reducible rfl
        try simp only [Act.put, List.getElem_toArray, List.getElem_cons_succ, List.getElem_cons_zero, List.setIfInBounds_toArray, List.set_cons_zero, List.set_cons_succ]
        refine wpAnyH_call (i := 12) 14 #[.int .i64 x4, .int .i64 6] rfl (by kernel_rfl) (by kernel_rfl) (by kernel_rfl) (fun _ _ _ h => h) (by rfl) ?_ (fun W _ => Q5.out W) (by assumption) ?_
        · intro w hSw
          try dsimp only at hSw
          go_simp
        try simp only [Act.put, List.getElem_toArray, List.getElem_cons_succ, List.getElem_cons_zero, List.setIfInBounds_toArray, List.set_cons_zero, List.set_cons_succ]
        refine wpAnyH_take (i := 13) (v := ?_) rfl (by kernel_rfl) (by kernel_rfl) (by kernel_rfl) (fun _ _ _ h => h) (Or.inl ⟨by rfl, ?_⟩) (by assumption) ?_
        rotate_left
        · intro w hSw
          try dsimp only at hSw
          go_simp
          all_goals with_reducible rfl
        try simp only [Act.put, List.getElem_toArray, List.getElem_cons_succ, List.getElem_cons_zero, List.setIfInBounds_toArray, List.set_cons_zero, List.set_cons_succ]
        refine wpAnyH_ready (rs := [14]) (by kernel_rfl) (by simp) ?_
        refine AllReadyH.cons rfl (fun K hK => ?_) AllReadyH.nil
        go_simp
        refine hK.out _ _ ?_ (fun hHeld2 => ?_)
        · exact HKS.out _ (((Below.refl w5.heap.size w5).drew).alloc (Nat.le_refl _) _)
        clear hK K hHeld
        have hHeld := hHeld2
        clear hHeld2
        try simp only [Act.put, List.getElem_toArray, List.getElem_cons_succ, List.getElem_cons_zero, List.setIfInBounds_toArray, List.set_cons_zero, List.set_cons_succ]
        refine wpAnyH_ready (rs := [15]) (by kernel_rfl) (by simp) ?_
        refine AllReadyH.cons rfl (fun K hK => ?_) AllReadyH.nil
        go_simp
        refine hK.out _ _ ?_ (fun hHeld2 => ?_)
        · exact HKS.out _ (((Below.refl w5.heap.size w5).alloc (Nat.le_refl _) _).drew)
        clear hK K hHeld
        have hHeld := hHeld2
        clear hHeld2
        try simp only [Act.put, List.getElem_toArray, List.getElem_cons_succ, List.getElem_cons_zero, List.setIfInBounds_toArray, List.set_cons_zero, List.set_cons_succ]
        refine wpAnyH_done (by kernel_rfl) ?_ _
        have hal6 : Below w5.heap.size w5 (w5.alloc (.cells #[.int .i64 1, .int .i64 (r1 : Int), .int .i64 (r2 : Int), .int .i64 (r3 : Int), .int .i64 (r4 : Int), .int .i64 (r5 : Int), .int .i64 (-1)] 27)).drew := ((Below.refl _ _).alloc (Nat.le_refl _) _).drew
        have hpb6 := (PBox.new w5 ⟨1, r1, r2, r3, r4, r5, -1⟩).below ((Below.refl (w5.alloc (.cells (⟨1, r1, r2, r3, r4, r5, -1⟩ : Pst).cells 27)).heap.size _).drew)
        obtain ⟨w6, hw6⟩ : ∃ w6, (w5.alloc (.cells #[.int .i64 1, .int .i64 (r1 : Int), .int .i64 (r2 : Int), .int .i64 (r3 : Int), .int .i64 (r4 : Int), .int .i64 (r5 : Int), .int .i64 (-1)] 27)).drew = w6 := ⟨_, rfl⟩
        go_upto_region 11 with fail
        rw [hw6] at hal6 ⊢
        rw [show (w5.alloc (.cells (⟨1, r1, r2, r3, r4, r5, -1⟩ : Pst).cells 27)).drew = w6 from hw6] at hpb6
        obtain ⟨P, hP⟩ : ∃ P, w5.heap.size = P := ⟨_, rfl⟩
        have HBK6 := Lib.hid (HBK5.out.below hal6)
        have HRD6 := Lib.hid (HRD5.out.below hal6)
        have HB6 := Lib.hid (HB5.out.trans (hal6.mono (by have := HBK5.out.lt; omega)))
        have HY6 : Hid (∀ W, Below w6.heap.size w6 W → W.cell? ⟨Y, 0, none⟩ = some (.int .i64 x0) ∧ W.cell? ⟨Y, 1, none⟩ = some (.int .i64 x1) ∧ W.cell? ⟨Y, 2, none⟩ = some (.int .i64 x2) ∧ W.cell? ⟨Y, 3, none⟩ = some (.int .i64 x3) ∧ W.cell? ⟨Y, 4, none⟩ = some (.int .i64 x4)) := Lib.hid (fun W hb => HY5.out W (hal6.trans (hb.mono hal6.size)))
        have HYS6 : Hid (Y < w6.heap.size) := Lib.hid (by have := HYS.out; have := hal6.size; omega)
        rw [hP] at hpb6
        try rw [show w5.drew.heap.size = P from hP]
        try rw [hP]
        clear hal6 hw6 hP HBK5 HRD5 HB5 HY5 HYS HKS hHeld
        obtain ⟨a0, a1, a2⟩ := HBK6.out.cells
        obtain ⟨p0, p1, p2, p3, p4, p5, p6⟩ := hpb6.cells
        have HPO := Lib.hid (Post_cap (tn : Int) closed q n c g ⟨1, r1, r2, r3, r4, r5, -1⟩ w6 (by unfold maxLen; omega) HRD6.out)
        clear hpb6
        go_wp2_with fail
        refine HPO.out.mono ?_
        rintro e w7 ⟨t2, c2, q2, k2, kc2, g2, idx, er, rfl, hsp, hrd7, hq7, hcp7, hb7⟩
        have hkp := post_keep hsp
        have hal8 : Below w7.heap.size w7 (w7.alloc (.cells #[.int .i64 t2, .slice q2 k2 kc2, .int .i64 c2] 24)) := (Below.refl _ _).alloc (Nat.le_refl _) _
        have ho8 := BkBox.new w7 t2 c2 (.slice q2 k2 kc2)
        obtain ⟨w8, hw8⟩ : ∃ w8, w7.alloc (.cells #[.int .i64 t2, .slice q2 k2 kc2, .int .i64 c2] 24) = w8 := ⟨_, rfl⟩
        have HW8 := Lib.hid hw8
        rw [hw8] at hal8 ho8
        have hb78 := hb7.trans (hal8.mono hb7.size)
        have HZ8 : Hid (w8.heap.size = w7.heap.size + 1) := Lib.hid (by rw [← HW8.out, World.size_alloc])
        have HGX : Hid (0 < n → ∀ a, q = some a → a.block ≠ w7.heap.size) := Lib.hid (fun hn a ha => by
          obtain ⟨b, off, hp, hc⟩ := (HRD6.out.below hb7) 0 hn
          have := cell_lt (hc 0 hn 0 (by omega))
          rw [ha] at hp
          cases hp
          show b ≠ _
          omega)
        have HBK8 := Lib.hid (HBK6.out.below hb78)
        have HRD8 := Lib.hid (HRD6.out.below hb78)
        have HNX8 := Lib.hid (hrd7.below hal8)
        have HB8 := Lib.hid (HB6.out.trans (hb78.mono (Nat.le_of_lt HBK6.out.lt)))
        have HY8 : Hid (∀ W, Below w8.heap.size w8 W → W.cell? ⟨Y, 0, none⟩ = some (.int .i64 x0) ∧ W.cell? ⟨Y, 1, none⟩ = some (.int .i64 x1) ∧ W.cell? ⟨Y, 2, none⟩ = some (.int .i64 x2) ∧ W.cell? ⟨Y, 3, none⟩ = some (.int .i64 x3) ∧ W.cell? ⟨Y, 4, none⟩ = some (.int .i64 x4)) := Lib.hid (fun W hb => HY6.out W (hb78.trans (hb.mono hb78.size)))
        have HO8 := Lib.hid ho8
        have HQ8 : Hid (∀ a, q2 = some a → A < a.block) := Lib.hid (fun a h => by have := hq7 a h; have := HBK6.out.lt; omega)
        have HKP := Lib.hid hkp
        have HCP8 := Lib.hid hcp7
        have HAX : Hid (A < w7.heap.size ∧ Y < w7.heap.size) := Lib.hid (by have := HBK6.out.lt; have := HYS6.out; have := hb7.size; omega)
        have HQX : Hid (0 < k2 → ∀ a, q2 = some a → a.block ≠ w7.heap.size) := Lib.hid (fun hn a ha => by
          obtain ⟨b, off, hp, hc⟩ := hrd7 0 hn
          have := cell_lt (hc 0 hn 0 (by omega))
          rw [ha] at hp
          cases hp
          show b ≠ _
          omega)
        clear a0 a1 a2 p0 p1 p2 p3 p4 p5 p6 hsp hrd7 hq7 hcp7 hb7 hal8 ho8 hw8 hb78 hkp HBK6 HRD6 HB6 HY6 HYS6 HPO
        go_upto_region 13 with fail
        rw [HW8.out]
        obtain ⟨X, hX⟩ : ∃ X, w7.heap.size = X := ⟨_, rfl⟩
        rw [hX] at HO8 HAX HQX HZ8 HGX
        rw [hX]
        clear hX HW8
        obtain ⟨y0, y1, y2, y3, y4⟩ := HY8.out w8 (Below.refl _ _)
        have HNB : Hid ((n : Int) ≤ 1000) := Lib.hid (by omega)
        go_upto_block 2 with (go_at_call 14; refine (Q0.out _).mono ?_; rintro e w1 ⟨rfl, rfl⟩)
        clear y0 y1 y2 y3 y4
        go_cut [14, 15, 16] (fun s14 s15 s16 wx => ∃ (t2 c2 : Int) (q2 : Option Addr) (k2 kc2 : Nat) (g2 : Nat → Pst) (er idx ad : Int), s14 = .int .i64 idx ∧ s15 = .int .i64 er ∧ s16 = .int .i64 ad ∧ Hid (KeepOk tn n closed g t2 c2 k2 g2 er) ∧ Hid (er = 0 → idx = n) ∧ Hid (er = 0 → ∃ a : Nat, ad = (a : Int) ∧ a ≤ 2 ∧ k2 = n + a) ∧
          BkBox wx X t2 (.slice q2 k2 kc2) c2 ∧ Hid (ReadsP wx q2 k2 g2) ∧ Hid (∀ a, q2 = some a → A < a.block) ∧ Hid (k2 ≤ kc2) ∧ BkBox wx A (tn : Int) (.slice q n c) closed ∧ Hid (ReadsP wx q n g) ∧ Below A w4 wx)
        case first =>
          by_cases h2 : r0 = 2
          · as_aux_lemma =>
            have d2 : ((r0 : Int) == 2) = true := by simp [h2]
            have HR2 : Hid (r0 = 2) := Lib.hid h2
            clear h2
            go_upto_region 15 with fail
            have hks : ∀ W, Below w8.heap.size w8 W → (W.cell? ⟨A, 0, none⟩ = some (.int .i64 (tn : Int)) ∧ W.cell? ⟨A, 1, none⟩ = some (.slice q n c) ∧ W.cell? ⟨A, 2, none⟩ = some (.int .i64 closed) ∧ W.cell? ⟨Y, 2, none⟩ = some (.int .i64 x2) ∧ W.cell? ⟨Y, 4, none⟩ = some (.int .i64 x4)) := fun W hb => by
              obtain ⟨z0, z1, z2⟩ := (HBK8.out.below hb).cells
              exact ⟨z0, z1, z2, (HY8.out W hb).2.2.1, (HY8.out W hb).2.2.2.2⟩
            have HKS := Lib.hid hks
            have HDI := Lib.hid (fun W (hr : ReadsP W q n g) => Dispute_cap (tn : Int) closed (r6 : Int) (r1 : Int) (r4 : Int) q n c g W (by unfold maxLen; omega) hr)
            clear hks
            refine wp_region_held_drew (S := (fun W => W.cell? ⟨A, 0, none⟩ = some (.int .i64 (tn : Int)) ∧ W.cell? ⟨A, 1, none⟩ = some (.slice q n c) ∧ W.cell? ⟨A, 2, none⟩ = some (.int .i64 closed) ∧ W.cell? ⟨Y, 2, none⟩ = some (.int .i64 x2) ∧ W.cell? ⟨Y, 4, none⟩ = some (.int .i64 x4))) (by kernel_rfl) ?_ (fun hHeld => ?_)
            · exact HKS.out _ ((Below.refl _ _).drew)
            refine wpAnyH_take (i := 0) (v := ?_) rfl (by kernel_rfl) (by kernel_rfl) (by kernel_rfl) (fun _ _ _ h => h) (Or.inl ⟨by rfl, ?_⟩) (by assumption) ?_
            rotate_left
            · intro w hSw
              try dsimp only at hSw
              go_simp
              all_goals with_reducible rfl
            try simp only [Act.put, List.getElem_toArray, List.getElem_cons_zero, List.setIfInBounds_toArray, List.set_cons_zero, List.set_cons_succ]
            refine wpAnyH_take (i := 1) (v := ?_) rfl (by kernel_rfl) (by kernel_rfl) (by kernel_rfl) (fun _ _ _ h => h) (Or.inl ⟨by rfl, ?_⟩) (by assumption) ?_
            rotate_left
            · intro w hSw
              try dsimp only at hSw
              go_simp
              all_goals with_reducible rfl
            try simp only [Act.put, List.getElem_toArray, List.getElem_cons_succ, List.getElem_cons_zero, List.setIfInBounds_toArray, List.set_cons_zero, List.set_cons_succ]
            refine wpAnyH_take (i := 2) (v := ?_) rfl (by kernel_rfl) (by kernel_rfl) (by kernel_rfl) (fun _ _ _ h => h) (Or.inl ⟨by rfl, ?_⟩) (by assumption) ?_
            rotate_left
            · intro w hSw
              try dsimp only at hSw
              go_simp
              all_goals with_reducible rfl
            try simp only [Act.put, List.getElem_toArray, List.getElem_cons_succ, List.getElem_cons_zero, List.setIfInBounds_toArray, List.set_cons_zero, List.set_cons_succ]
            refine wpAnyH_call (i := 3) 14 #[.int .i64 x2, .int .i64 30] rfl (by kernel_rfl) (by kernel_rfl) (by kernel_rfl) (fun _ _ _ h => h) (by rfl) ?_ (fun W _ => Q6.out W) (by assumption) ?_
            · intro w hSw
              try dsimp only at hSw
              go_simp
            try simp only [Act.put, List.getElem_toArray, List.getElem_cons_succ, List.getElem_cons_zero, List.setIfInBounds_toArray, List.set_cons_zero, List.set_cons_succ]
            refine wpAnyH_take (i := 4) (v := ?_) rfl (by kernel_rfl) (by kernel_rfl) (by kernel_rfl) (fun _ _ _ h => h) (Or.inl ⟨by rfl, ?_⟩) (by assumption) ?_
            rotate_left
            · intro w hSw
              try dsimp only at hSw
              go_simp
              all_goals with_reducible rfl
            try simp only [Act.put, List.getElem_toArray, List.getElem_cons_succ, List.getElem_cons_zero, List.setIfInBounds_toArray, List.set_cons_zero, List.set_cons_succ]
            refine wpAnyH_take (i := 5) (v := ?_) rfl (by kernel_rfl) (by kernel_rfl) (by kernel_rfl) (fun _ _ _ h => h) (Or.inl ⟨by rfl, ?_⟩) (by assumption) ?_
            rotate_left
            · intro w hSw
              try dsimp only at hSw
              go_simp
              all_goals with_reducible rfl
            try simp only [Act.put, List.getElem_toArray, List.getElem_cons_succ, List.getElem_cons_zero, List.setIfInBounds_toArray, List.set_cons_zero, List.set_cons_succ]
            refine wpAnyH_take (i := 6) (v := ?_) rfl (by kernel_rfl) (by kernel_rfl) (by kernel_rfl) (fun _ _ _ h => h) (Or.inl ⟨by rfl, ?_⟩) (by assumption) ?_
            rotate_left
            · intro w hSw
              try dsimp only at hSw
              go_simp
              all_goals with_reducible rfl
            try simp only [Act.put, List.getElem_toArray, List.getElem_cons_succ, List.getElem_cons_zero, List.setIfInBounds_toArray, List.set_cons_zero, List.set_cons_succ]
            refine wpAnyH_call (i := 7) 14 #[.int .i64 x4, .int .i64 1000] rfl (by kernel_rfl) (by kernel_rfl) (by kernel_rfl) (fun _ _ _ h => h) (by rfl) ?_ (fun W _ => Q4.out W) (by assumption) ?_
            · intro w hSw
              try dsimp only at hSw
              go_simp
            try simp only [Act.put, List.getElem_toArray, List.getElem_cons_succ, List.getElem_cons_zero, List.setIfInBounds_toArray, List.set_cons_zero, List.set_cons_succ]
            refine wpAnyH_ready (rs := [8]) (by kernel_rfl) (by simp) ?_
            refine AllReadyH.cons rfl (fun K hK => ?_) AllReadyH.nil
            go_simp
            go_at_call 15
            refine (HDI.out _ (HRD8.out.below (Below.refl _ _).drew)).mono ?_
            rintro e w9 ⟨t2, c2, q2, k2, kc2, g2, er2, rfl, hsp, hrd9, hq9, hcp9, hb9⟩
            have hb9' := (Below.refl w8.heap.size w8).drew.trans hb9
            have hkp9 := disp_keep hsp
            have hbx9 := HO8.out.below hb9'
            obtain ⟨z0, z1, z2⟩ := hbx9.cells
            have f0 := hbx9.free 0
            have f1 := hbx9.free 1
            have f2 := hbx9.free 2
            refine hK.out _ _ ?_ (fun hHeld2 => ?_)
            · exact HKS.out _ hb9'
            clear hK K hHeld
            have hHeld := hHeld2
            clear hHeld2
            try simp only [Act.put, List.getElem_toArray, List.getElem_cons_succ, List.getElem_cons_zero, List.setIfInBounds_toArray, List.set_cons_zero, List.set_cons_succ]
            refine wpAnyH_take (i := 9) (v := ?_) rfl (by kernel_rfl) (by kernel_rfl) (by kernel_rfl) (fun _ _ _ h => h) (Or.inl ⟨by rfl, ?_⟩) (by assumption) ?_
            rotate_left
            · intro w hSw
              try dsimp only at hSw
              go_simp
              all_goals with_reducible rfl
            try simp only [Act.put, List.getElem_toArray, List.getElem_cons_succ, List.getElem_cons_zero, List.setIfInBounds_toArray, List.set_cons_zero, List.set_cons_succ]
            refine wpAnyH_take (i := 10) (v := ?_) rfl (by kernel_rfl) (by kernel_rfl) (by kernel_rfl) (fun _ _ _ h => h) (Or.inl ⟨by rfl, ?_⟩) (by assumption) ?_
            rotate_left
            · intro w hSw
              try dsimp only at hSw
              go_simp
              all_goals with_reducible rfl
            try simp only [Act.put, List.getElem_toArray, List.getElem_cons_succ, List.getElem_cons_zero, List.setIfInBounds_toArray, List.set_cons_zero, List.set_cons_succ]
            refine wpAnyH_take (i := 11) (v := ?_) rfl (by kernel_rfl) (by kernel_rfl) (by kernel_rfl) (fun _ _ _ h => h) (Or.inl ⟨by rfl, ?_⟩) (by assumption) ?_
            rotate_left
            · intro w hSw
              try dsimp only at hSw
              go_simp
              all_goals with_reducible rfl
            try simp only [Act.put, List.getElem_toArray, List.getElem_cons_succ, List.getElem_cons_zero, List.setIfInBounds_toArray, List.set_cons_zero, List.set_cons_succ]
            refine wpAnyH_ready (rs := [12]) (by kernel_rfl) (by simp) ?_
            refine AllReadyH.cons rfl (fun K hK => ?_) AllReadyH.nil
            go_simp
            refine hK.out _ _ ?_ (fun hHeld2 => ?_)
            · obtain ⟨y1, y2, y3, y4, y5⟩ := HKS.out _ hb9'
              have hXS : X ≠ A := by have := HAX.out; omega
              have hXb : X ≠ Y := by have := HAX.out; omega
              exact ⟨(three_far _ hXS _ _ _ _).trans y1, (three_far _ hXS _ _ _ _).trans y2, (three_far _ hXS _ _ _ _).trans y3, (three_far _ hXb _ _ _ _).trans y4, (three_far _ hXb _ _ _ _).trans y5⟩
            clear hK K hHeld
            have hHeld := hHeld2
            clear hHeld2
            try simp only [Act.put, List.getElem_toArray, List.getElem_cons_succ, List.getElem_cons_zero, List.setIfInBounds_toArray, List.set_cons_zero, List.set_cons_succ]
            refine wpAnyH_take (i := 13) (v := ?_) rfl (by kernel_rfl) (by kernel_rfl) (by kernel_rfl) (fun _ _ _ h => h) (Or.inl ⟨by rfl, ?_⟩) (by assumption) ?_
            rotate_left
            · intro w hSw
              try dsimp only at hSw
              go_simp
              all_goals with_reducible rfl
            try simp only [Act.put, List.getElem_toArray, List.getElem_cons_succ, List.getElem_cons_zero, List.setIfInBounds_toArray, List.set_cons_zero, List.set_cons_succ]
            refine wpAnyH_done (by kernel_rfl) ?_ _
            go_wp2_with fail
            have hk2s : (k2 : Int) ≤ 100 := by rcases hkp9 with ⟨_, _, _, h1, h2, _⟩ | ⟨_, _, _, h1⟩ <;> omega
            have hXS : A ≠ X := by have := HAX.out; omega
            have HKP9 := Lib.hid hkp9
            have HAD9 : Hid (er2 = 0 → ∃ a : Nat, wrap64 ((k2 : Int) - (n : Int)) = (a : Int) ∧ a ≤ 2 ∧ k2 = n + a) := Lib.hid (by
              rw [show wrap64 ((k2 : Int) - (n : Int)) = (k2 : Int) - (n : Int) from by simp only [wrap64]; omega]
              exact fun h => ⟨k2 - n, by rcases hkp9 with ⟨_, _, _, h1, h2, _⟩ | ⟨h1, _⟩ <;> omega, by rcases hkp9 with ⟨_, _, _, h1, h2, _⟩ | ⟨h1, _⟩ <;> omega, by rcases hkp9 with ⟨_, _, _, h1, h2, _⟩ | ⟨h1, _⟩ <;> omega⟩)
            have HCP9 := Lib.hid hcp9
            have HO9 := Lib.hid (hbx9.setAll t2 c2 (.slice q2 k2 kc2))
            have HRD9 := Lib.hid (readsP_three hrd9 (b := X) (fun a h => by have h1 : w8.heap.size ≤ a.block := hq9 a h; have := HZ8.out; omega) (.int .i64 t2) (.slice q2 k2 kc2) (.int .i64 c2))
            have HQ9 : Hid (∀ a, q2 = some a → A < a.block) := Lib.hid (fun a h => by have h1 : w8.heap.size ≤ a.block := hq9 a h; have := HZ8.out; have := HAX.out; omega)
            have HB9 := Lib.hid (below_three (HB8.out.trans (hb9'.mono (by have := HAX.out; have := HZ8.out; omega))) (b := X) (by have := HAX.out; omega) (.int .i64 t2) (.slice q2 k2 kc2) (.int .i64 c2))
            have HBK9 := Lib.hid ((HBK8.out.below hb9').three hXS (.int .i64 t2) (.slice q2 k2 kc2) (.int .i64 c2))
            have HRDG9 := Lib.hid (readsP_three_ne (HRD8.out.below hb9') (b := X) HGX.out (.int .i64 t2) (.slice q2 k2 kc2) (.int .i64 c2))
            obtain ⟨w10, hw10⟩ : ∃ w10, (((w9.setCell ⟨X, 0, none⟩ (.int .i64 t2)).setCell ⟨X, 1, none⟩ (.slice q2 k2 kc2)).setCell ⟨X, 2, none⟩ (.int .i64 c2)) = w10 := ⟨_, rfl⟩
            rw [hw10] at HO9 HRD9 HB9 HBK9 HRDG9 ⊢
            clear hkp9 hbx9 hw10 hHeld hrd9 hq9 hcp9 hsp hb9 hb9' z0 z1 z2 f0 f1 f2 HKS HDI
            obtain ⟨a0, a1, a2⟩ := HBK9.out.cells
            obtain ⟨o0', o1', o2'⟩ := HO9.out.cells
            go_wp2_with fail
            go_meet
            exact ⟨t2, c2, q2, k2, kc2, g2, er2, _, _, rfl, rfl, rfl, HKP9, Lib.hid (fun _ => rfl), HAD9, HO9.out, HRD9, HQ9, HCP9, HBK9.out, HRDG9, HB9.out⟩
          · have d2 : ((r0 : Int) == 2) = false := by simp; omega
            by_cases h3 : r0 = 3
            · as_aux_lemma =>
              have d3 : ((r0 : Int) == 3) = true := by simp [h3]
              have HR3 : Hid (r0 = 3) := Lib.hid h3
              clear h2 h3
              go_upto_region 19 with fail
              have hks : ∀ W, Below w8.heap.size w8 W → (W.cell? ⟨A, 0, none⟩ = some (.int .i64 (tn : Int)) ∧ W.cell? ⟨A, 1, none⟩ = some (.slice q n c) ∧ W.cell? ⟨A, 2, none⟩ = some (.int .i64 closed) ∧ W.cell? ⟨Y, 1, none⟩ = some (.int .i64 x1) ∧ W.cell? ⟨Y, 1, none⟩ = some (.int .i64 x1)) := fun W hb => by
                obtain ⟨z0, z1, z2⟩ := (HBK8.out.below hb).cells
                exact ⟨z0, z1, z2, (HY8.out W hb).2.1, (HY8.out W hb).2.1⟩
              have HKS := Lib.hid hks
              have HDI := Lib.hid (fun W (hr : ReadsP W q n g) => Close_cap (tn : Int) closed (r7 : Int) q n c g W (by unfold maxLen; omega) hr)
              clear hks
              refine wp_region_held_drew (S := (fun W => W.cell? ⟨A, 0, none⟩ = some (.int .i64 (tn : Int)) ∧ W.cell? ⟨A, 1, none⟩ = some (.slice q n c) ∧ W.cell? ⟨A, 2, none⟩ = some (.int .i64 closed) ∧ W.cell? ⟨Y, 1, none⟩ = some (.int .i64 x1) ∧ W.cell? ⟨Y, 1, none⟩ = some (.int .i64 x1))) (by kernel_rfl) ?_ (fun hHeld => ?_)
              · exact HKS.out _ ((Below.refl _ _).drew)
              refine wpAnyH_take (i := 0) (v := ?_) rfl (by kernel_rfl) (by kernel_rfl) (by kernel_rfl) (fun _ _ _ h => h) (Or.inl ⟨by rfl, ?_⟩) (by assumption) ?_
              rotate_left
              · intro w hSw
                try dsimp only at hSw
                go_simp
                all_goals with_reducible rfl
              try simp only [Act.put, List.getElem_toArray, List.getElem_cons_zero, List.setIfInBounds_toArray, List.set_cons_zero, List.set_cons_succ]
              refine wpAnyH_take (i := 1) (v := ?_) rfl (by kernel_rfl) (by kernel_rfl) (by kernel_rfl) (fun _ _ _ h => h) (Or.inl ⟨by rfl, ?_⟩) (by assumption) ?_
              rotate_left
              · intro w hSw
                try dsimp only at hSw
                go_simp
                all_goals with_reducible rfl
              try simp only [Act.put, List.getElem_toArray, List.getElem_cons_succ, List.getElem_cons_zero, List.setIfInBounds_toArray, List.set_cons_zero, List.set_cons_succ]
              refine wpAnyH_take (i := 2) (v := ?_) rfl (by kernel_rfl) (by kernel_rfl) (by kernel_rfl) (fun _ _ _ h => h) (Or.inl ⟨by rfl, ?_⟩) (by assumption) ?_
              rotate_left
              · intro w hSw
                try dsimp only at hSw
                go_simp
                all_goals with_reducible rfl
              try simp only [Act.put, List.getElem_toArray, List.getElem_cons_succ, List.getElem_cons_zero, List.setIfInBounds_toArray, List.set_cons_zero, List.set_cons_succ]
              refine wpAnyH_call (i := 3) 14 #[.int .i64 x1, .int .i64 13] rfl (by kernel_rfl) (by kernel_rfl) (by kernel_rfl) (fun _ _ _ h => h) (by rfl) ?_ (fun W _ => Q7.out W) (by assumption) ?_
              · intro w hSw
                try dsimp only at hSw
                go_simp
              try simp only [Act.put, List.getElem_toArray, List.getElem_cons_succ, List.getElem_cons_zero, List.setIfInBounds_toArray, List.set_cons_zero, List.set_cons_succ]
              refine wpAnyH_ready (rs := [4]) (by kernel_rfl) (by simp) ?_
              refine AllReadyH.cons rfl (fun K hK => ?_) AllReadyH.nil
              go_simp
              go_at_call 17
              refine (HDI.out _ (HRD8.out.below (Below.refl _ _).drew)).mono ?_
              rintro e w9 ⟨t2, c2, q2, k2, kc2, g2, er2, rfl, hsp, hrd9, hq9, hcp9, hb9⟩
              have hb9' := (Below.refl w8.heap.size w8).drew.trans hb9
              have hkp9 := close_keep hsp
              have hbx9 := HO8.out.below hb9'
              obtain ⟨z0, z1, z2⟩ := hbx9.cells
              have f0 := hbx9.free 0
              have f1 := hbx9.free 1
              have f2 := hbx9.free 2
              refine hK.out _ _ ?_ (fun hHeld2 => ?_)
              · exact HKS.out _ hb9'
              clear hK K hHeld
              have hHeld := hHeld2
              clear hHeld2
              try simp only [Act.put, List.getElem_toArray, List.getElem_cons_succ, List.getElem_cons_zero, List.setIfInBounds_toArray, List.set_cons_zero, List.set_cons_succ]
              refine wpAnyH_take (i := 5) (v := ?_) rfl (by kernel_rfl) (by kernel_rfl) (by kernel_rfl) (fun _ _ _ h => h) (Or.inl ⟨by rfl, ?_⟩) (by assumption) ?_
              rotate_left
              · intro w hSw
                try dsimp only at hSw
                go_simp
                all_goals with_reducible rfl
              try simp only [Act.put, List.getElem_toArray, List.getElem_cons_succ, List.getElem_cons_zero, List.setIfInBounds_toArray, List.set_cons_zero, List.set_cons_succ]
              refine wpAnyH_take (i := 6) (v := ?_) rfl (by kernel_rfl) (by kernel_rfl) (by kernel_rfl) (fun _ _ _ h => h) (Or.inl ⟨by rfl, ?_⟩) (by assumption) ?_
              rotate_left
              · intro w hSw
                try dsimp only at hSw
                go_simp
                all_goals with_reducible rfl
              try simp only [Act.put, List.getElem_toArray, List.getElem_cons_succ, List.getElem_cons_zero, List.setIfInBounds_toArray, List.set_cons_zero, List.set_cons_succ]
              refine wpAnyH_take (i := 7) (v := ?_) rfl (by kernel_rfl) (by kernel_rfl) (by kernel_rfl) (fun _ _ _ h => h) (Or.inl ⟨by rfl, ?_⟩) (by assumption) ?_
              rotate_left
              · intro w hSw
                try dsimp only at hSw
                go_simp
                all_goals with_reducible rfl
              try simp only [Act.put, List.getElem_toArray, List.getElem_cons_succ, List.getElem_cons_zero, List.setIfInBounds_toArray, List.set_cons_zero, List.set_cons_succ]
              refine wpAnyH_ready (rs := [8]) (by kernel_rfl) (by simp) ?_
              refine AllReadyH.cons rfl (fun K hK => ?_) AllReadyH.nil
              go_simp
              refine hK.out _ _ ?_ (fun hHeld2 => ?_)
              · obtain ⟨y1, y2, y3, y4, y5⟩ := HKS.out _ hb9'
                have hXS : X ≠ A := by have := HAX.out; omega
                have hXb : X ≠ Y := by have := HAX.out; omega
                exact ⟨(three_far _ hXS _ _ _ _).trans y1, (three_far _ hXS _ _ _ _).trans y2, (three_far _ hXS _ _ _ _).trans y3, (three_far _ hXb _ _ _ _).trans y4, (three_far _ hXb _ _ _ _).trans y5⟩
              clear hK K hHeld
              have hHeld := hHeld2
              clear hHeld2
              try simp only [Act.put, List.getElem_toArray, List.getElem_cons_succ, List.getElem_cons_zero, List.setIfInBounds_toArray, List.set_cons_zero, List.set_cons_succ]
              refine wpAnyH_take (i := 9) (v := ?_) rfl (by kernel_rfl) (by kernel_rfl) (by kernel_rfl) (fun _ _ _ h => h) (Or.inl ⟨by rfl, ?_⟩) (by assumption) ?_
              rotate_left
              · intro w hSw
                try dsimp only at hSw
                go_simp
                all_goals with_reducible rfl
              try simp only [Act.put, List.getElem_toArray, List.getElem_cons_succ, List.getElem_cons_zero, List.setIfInBounds_toArray, List.set_cons_zero, List.set_cons_succ]
              refine wpAnyH_done (by kernel_rfl) ?_ _
              go_wp2_with fail
              have hXS : A ≠ X := by have := HAX.out; omega
              have HKP9 := Lib.hid hkp9.1
              have HAD9 : Hid (er2 = 0 → ∃ a : Nat, (0 : Int) = (a : Int) ∧ a ≤ 2 ∧ k2 = n + a) := Lib.hid (fun h => ⟨0, rfl, by omega, hkp9.2 h⟩)
              have HCP9 := Lib.hid hcp9
              have HO9 := Lib.hid (hbx9.setAll t2 c2 (.slice q2 k2 kc2))
              have HRD9 := Lib.hid (readsP_three hrd9 (b := X) (fun a h => by have h1 : w8.heap.size ≤ a.block := hq9 a h; have := HZ8.out; omega) (.int .i64 t2) (.slice q2 k2 kc2) (.int .i64 c2))
              have HQ9 : Hid (∀ a, q2 = some a → A < a.block) := Lib.hid (fun a h => by have h1 : w8.heap.size ≤ a.block := hq9 a h; have := HZ8.out; have := HAX.out; omega)
              have HB9 := Lib.hid (below_three (HB8.out.trans (hb9'.mono (by have := HAX.out; have := HZ8.out; omega))) (b := X) (by have := HAX.out; omega) (.int .i64 t2) (.slice q2 k2 kc2) (.int .i64 c2))
              have HBK9 := Lib.hid ((HBK8.out.below hb9').three hXS (.int .i64 t2) (.slice q2 k2 kc2) (.int .i64 c2))
              have HRDG9 := Lib.hid (readsP_three_ne (HRD8.out.below hb9') (b := X) HGX.out (.int .i64 t2) (.slice q2 k2 kc2) (.int .i64 c2))
              obtain ⟨w10, hw10⟩ : ∃ w10, (((w9.setCell ⟨X, 0, none⟩ (.int .i64 t2)).setCell ⟨X, 1, none⟩ (.slice q2 k2 kc2)).setCell ⟨X, 2, none⟩ (.int .i64 c2)) = w10 := ⟨_, rfl⟩
              rw [hw10] at HO9 HRD9 HB9 HBK9 HRDG9 ⊢
              clear hkp9 hbx9 hw10 hHeld hrd9 hq9 hcp9 hsp hb9 hb9' z0 z1 z2 f0 f1 f2 HKS HDI
              obtain ⟨a0, a1, a2⟩ := HBK9.out.cells
              obtain ⟨o0', o1', o2'⟩ := HO9.out.cells
              go_wp2_with fail
              go_meet
              exact ⟨t2, c2, q2, k2, kc2, g2, er2, _, _, rfl, rfl, rfl, HKP9, Lib.hid (fun _ => rfl), HAD9, HO9.out, HRD9, HQ9, HCP9, HBK9.out, HRDG9, HB9.out⟩
            · as_aux_lemma =>
              have d3 : ((r0 : Int) == 3) = false := by simp; omega
              clear h2 h3
              go_wp2_with fail
              go_meet
              exact ⟨t2, c2, q2, k2, kc2, g2, er, idx, 1, rfl, rfl, rfl, Lib.hid HKP.out.1, Lib.hid (fun h => (HKP.out.2 h).1), Lib.hid (fun h => ⟨1, rfl, by omega, (HKP.out.2 h).2⟩), HO8.out, HNX8, HQ8, HCP8, HBK8.out, HRD8, HB8.out⟩
        case rest =>
          obtain ⟨t2, c2, q2, k2, kc2, g2, er, idx, ad, rfl, rfl, rfl, HKP, HID, HAD, hbx, HNX, HQX2, HCP, hbk, HRD, hB⟩ := hcut
          have HKPo := HKP.out
          rcases HKPo with ⟨rfl, rfl, hok2, hk1, hk2, hpre, hcl, hday⟩ | ⟨rfl, rfl, rfl, rfl⟩
          · as_aux_lemma =>
            obtain rfl := HID.out rfl
            obtain ⟨a, rfl, ha2, hke⟩ := HAD.out rfl
            clear HKP HID HAD
            go_upto_region 25 with fail
            have hcp := HCP.out
            have hs1 := add_zero' q2
            have v2 : (n : Int) ≤ (kc2 : Int) := by omega
            have v3 : (0 : Int) ≤ (n : Int) := by omega
            have v4 : n ≤ kc2 := by omega
            have gA : IntKind.i64.wrap ((n : Int) + (a : Int)) = (k2 : Int) := by
              rw [hke]
              exact IntWalk.i64_in _ (by omega)
            have gB : ¬ (a : Int) < 0 := by omega
            have gC : ¬ (2 : Int) < (a : Int) := by omega
            have gD : ¬ c2 < closed := by omega
            have HK2 : Hid (n ≤ k2 ∧ k2 ≤ n + 2) := Lib.hid ⟨hk1, hk2⟩
            have HOK2 := Lib.hid hok2
            have HDAY := Lib.hid hday
            have HPRE := Lib.hid hpre
            have HBX : Hid (∀ W, Below wc.heap.size wc W → BkBox W X (tn : Int) (.slice q2 k2 kc2) c2) := Lib.hid (fun W hb => hbx.below hb)
            have HBA : Hid (∀ W, Below wc.heap.size wc W → BkBox W A (tn : Int) (.slice q n c) closed) := Lib.hid (fun W hb => hbk.below hb)
            have HRX : Hid (∀ W, Below wc.heap.size wc W → ReadsP W q2 k2 g2) := Lib.hid (fun W hb => HNX.out.below hb)
            have HRA : Hid (∀ W, Below wc.heap.size wc W → ReadsP W q n g) := Lib.hid (fun W hb => HRD.out.below hb)
            have HBW : Hid (∀ W, Below wc.heap.size wc W → Below A w4 W) := Lib.hid (fun W hb => hB.trans (hb.mono (Nat.le_of_lt hbk.lt)))
            have HAL : Hid (A < wc.heap.size) := Lib.hid hbk.lt
            have HV := Lib.hid (fun W (hr : ReadsP W q2 k2 g2) => valid_any (tn : Int) c2 q2 k2 kc2 g2 W (by unfold maxLen; omega) hr)
            have HSP := Lib.hid (fun W (hr : ReadsP W q2 n g2) (hr2 : ReadsP W q n g) => sameP_yes q2 q n kc2 c g2 g W (by omega) hr hr2 hpre)
            have HKS : Hid (∀ W, Below wc.heap.size wc W → (W.cell? ⟨X, 0, none⟩ = some (.int .i64 (tn : Int)) ∧ W.cell? ⟨X, 1, none⟩ = some (.slice q2 k2 kc2) ∧ W.cell? ⟨X, 2, none⟩ = some (.int .i64 c2)) ∧ (W.cell? ⟨A, 0, none⟩ = some (.int .i64 (tn : Int)) ∧ W.cell? ⟨A, 1, none⟩ = some (.slice q n c) ∧ W.cell? ⟨A, 2, none⟩ = some (.int .i64 closed))) := Lib.hid (fun W hb => ⟨(hbx.below hb).cells, (hbk.below hb).cells⟩)
            clear hcp ha2 hke hk1 hk2 hok2 hpre hday hcl hbx hbk hB HNX HRD HCP
            refine wp_region_held_drew (S := (fun W => (W.cell? ⟨X, 0, none⟩ = some (.int .i64 (tn : Int)) ∧ W.cell? ⟨X, 1, none⟩ = some (.slice q2 k2 kc2) ∧ W.cell? ⟨X, 2, none⟩ = some (.int .i64 c2)) ∧ (W.cell? ⟨A, 0, none⟩ = some (.int .i64 (tn : Int)) ∧ W.cell? ⟨A, 1, none⟩ = some (.slice q n c) ∧ W.cell? ⟨A, 2, none⟩ = some (.int .i64 closed)))) (by kernel_rfl) ?_ (fun hHeld => ?_)
            · exact HKS.out _ (Below.refl _ _).drew
            refine wpAnyH_take (i := 0) (v := ?_) rfl (by kernel_rfl) (by kernel_rfl) (by kernel_rfl) (fun _ _ _ h => h) (Or.inl ⟨by rfl, ?_⟩) (by assumption) ?_
            rotate_left
            · intro w hSw
              try dsimp only at hSw
              go_simp
              all_goals with_reducible rfl
            try simp only [Act.put, List.getElem_toArray, List.getElem_cons_zero, List.setIfInBounds_toArray, List.set_cons_zero, List.set_cons_succ]
            refine wpAnyH_ready (rs := [1]) (by kernel_rfl) (by simp) ?_
            refine AllReadyH.cons rfl (fun K hK => ?_) AllReadyH.nil
            go_simp
            go_at_call 11
            refine (HV.out _ (HRX.out _ (Below.refl _ _).drew)).mono ?_
            rintro e w9 ⟨⟨r, rfl, hiff⟩, hb9⟩
            obtain rfl : r = true := hiff.2 HOK2.out
            have hb9' := (Below.refl wc.heap.size wc).drew.trans hb9
            refine hK.out _ _ ?_ (fun hHeld2 => ?_)
            · exact HKS.out _ hb9'
            clear hK K hHeld
            have hHeld := hHeld2
            clear hHeld2
            try simp only [Act.put, List.getElem_toArray, List.getElem_cons_succ, List.getElem_cons_zero, List.setIfInBounds_toArray, List.set_cons_zero, List.set_cons_succ]
            refine wpAnyH_take (i := 2) (v := ?_) rfl (by kernel_rfl) (by kernel_rfl) (by kernel_rfl) (fun _ _ _ h => h) (Or.inl ⟨by rfl, ?_⟩) (by assumption) ?_
            rotate_left
            · intro w hSw
              try dsimp only at hSw
              go_simp
              all_goals with_reducible rfl
            try simp only [Act.put, List.getElem_toArray, List.getElem_cons_succ, List.getElem_cons_zero, List.setIfInBounds_toArray, List.set_cons_zero, List.set_cons_succ]
            refine wpAnyH_take (i := 3) (v := ?_) rfl (by kernel_rfl) (by kernel_rfl) (by kernel_rfl) (fun _ _ _ h => h) (Or.inl ⟨by rfl, ?_⟩) (by assumption) ?_
            rotate_left
            · intro w hSw
              try dsimp only at hSw
              go_simp
              all_goals with_reducible rfl
            try simp only [Act.put, List.getElem_toArray, List.getElem_cons_succ, List.getElem_cons_zero, List.setIfInBounds_toArray, List.set_cons_zero, List.set_cons_succ]
            refine wpAnyH_take (i := 4) (v := ?_) rfl (by kernel_rfl) (by kernel_rfl) (by kernel_rfl) (fun _ _ _ h => h) (Or.inl ⟨by rfl, ?_⟩) (by assumption) ?_
            rotate_left
            · intro w hSw
              try dsimp only at hSw
              go_simp
              all_goals with_reducible rfl
            try simp only [Act.put, List.getElem_toArray, List.getElem_cons_succ, List.getElem_cons_zero, List.setIfInBounds_toArray, List.set_cons_zero, List.set_cons_succ]
            refine wpAnyH_take (i := 5) (v := ?_) rfl (by kernel_rfl) (by kernel_rfl) (by kernel_rfl) (fun _ _ _ h => h) (Or.inl ⟨by rfl, ?_⟩) (by assumption) ?_
            rotate_left
            · intro w hSw
              try dsimp only at hSw
              go_simp
              all_goals with_reducible rfl
            try simp only [Act.put, List.getElem_toArray, List.getElem_cons_succ, List.getElem_cons_zero, List.setIfInBounds_toArray, List.set_cons_zero, List.set_cons_succ]
            refine wpAnyH_take (i := 6) (v := ?_) rfl (by kernel_rfl) (by kernel_rfl) (by kernel_rfl) (fun _ _ _ h => h) (Or.inl ⟨by rfl, ?_⟩) (by assumption) ?_
            rotate_left
            · intro w hSw
              try dsimp only at hSw
              go_simp
              all_goals with_reducible rfl
            try simp only [Act.put, List.getElem_toArray, List.getElem_cons_succ, List.getElem_cons_zero, List.setIfInBounds_toArray, List.set_cons_zero, List.set_cons_succ]
            refine wpAnyH_take (i := 7) (v := ?_) rfl (by kernel_rfl) (by kernel_rfl) (by kernel_rfl) (fun _ _ _ h => h) (Or.inl ⟨by rfl, ?_⟩) (by assumption) ?_
            rotate_left
            · intro w hSw
              try dsimp only at hSw
              go_simp
              all_goals with_reducible rfl
            try simp only [Act.put, List.getElem_toArray, List.getElem_cons_succ, List.getElem_cons_zero, List.setIfInBounds_toArray, List.set_cons_zero, List.set_cons_succ]
            refine wpAnyH_take (i := 8) (v := ?_) rfl (by kernel_rfl) (by kernel_rfl) (by kernel_rfl) (fun _ _ _ h => h) (Or.inl ⟨by rfl, ?_⟩) (by assumption) ?_
            rotate_left
            · intro w hSw
              try dsimp only at hSw
              go_simp
              all_goals with_reducible rfl
            try simp only [Act.put, List.getElem_toArray, List.getElem_cons_succ, List.getElem_cons_zero, List.setIfInBounds_toArray, List.set_cons_zero, List.set_cons_succ]
            refine wpAnyH_take (i := 9) (v := ?_) rfl (by kernel_rfl) (by kernel_rfl) (by kernel_rfl) (fun _ _ _ h => h) (Or.inl ⟨by rfl, ?_⟩) (by assumption) ?_
            rotate_left
            · intro w hSw
              try dsimp only at hSw
              go_simp
              all_goals with_reducible rfl
            try simp only [Act.put, List.getElem_toArray, List.getElem_cons_succ, List.getElem_cons_zero, List.setIfInBounds_toArray, List.set_cons_zero, List.set_cons_succ]
            refine wpAnyH_take (i := 10) (v := ?_) rfl (by kernel_rfl) (by kernel_rfl) (by kernel_rfl) (fun _ _ _ h => h) (Or.inl ⟨by rfl, ?_⟩) (by assumption) ?_
            rotate_left
            · intro w hSw
              try dsimp only at hSw
              go_simp
              all_goals with_reducible rfl
            try simp only [Act.put, List.getElem_toArray, List.getElem_cons_succ, List.getElem_cons_zero, List.setIfInBounds_toArray, List.set_cons_zero, List.set_cons_succ]
            refine wpAnyH_take (i := 11) (v := ?_) rfl (by kernel_rfl) (by kernel_rfl) (by kernel_rfl) (fun _ _ _ h => h) (Or.inl ⟨by rfl, ?_⟩) (by assumption) ?_
            rotate_left
            · intro w hSw
              try dsimp only at hSw
              go_simp
              all_goals with_reducible rfl
            try simp only [Act.put, List.getElem_toArray, List.getElem_cons_succ, List.getElem_cons_zero, List.setIfInBounds_toArray, List.set_cons_zero, List.set_cons_succ]
            refine wpAnyH_take (i := 12) (v := ?_) rfl (by kernel_rfl) (by kernel_rfl) (by kernel_rfl) (fun _ _ _ h => h) (Or.inl ⟨by rfl, ?_⟩) (by assumption) ?_
            rotate_left
            · intro w hSw
              try dsimp only at hSw
              go_simp
              all_goals with_reducible rfl
            try simp only [Act.put, List.getElem_toArray, List.getElem_cons_succ, List.getElem_cons_zero, List.setIfInBounds_toArray, List.set_cons_zero, List.set_cons_succ]
            refine wpAnyH_take (i := 13) (v := ?_) rfl (by kernel_rfl) (by kernel_rfl) (by kernel_rfl) (fun _ _ _ h => h) (Or.inl ⟨by rfl, ?_⟩) (by assumption) ?_
            rotate_left
            · intro w hSw
              try dsimp only at hSw
              go_simp
              all_goals with_reducible rfl
            try simp only [Act.put, List.getElem_toArray, List.getElem_cons_succ, List.getElem_cons_zero, List.setIfInBounds_toArray, List.set_cons_zero, List.set_cons_succ]
            refine wpAnyH_take (i := 14) (v := ?_) rfl (by kernel_rfl) (by kernel_rfl) (by kernel_rfl) (fun _ _ _ h => h) (Or.inl ⟨by rfl, ?_⟩) (by assumption) ?_
            rotate_left
            · intro w hSw
              try dsimp only at hSw
              go_simp
              all_goals with_reducible rfl
            try simp only [Act.put, List.getElem_toArray, List.getElem_cons_succ, List.getElem_cons_zero, List.setIfInBounds_toArray, List.set_cons_zero, List.set_cons_succ]
            refine wpAnyH_take (i := 15) (v := ?_) rfl (by kernel_rfl) (by kernel_rfl) (by kernel_rfl) (fun _ _ _ h => h) (Or.inl ⟨by rfl, ?_⟩) (by assumption) ?_
            rotate_left
            · intro w hSw
              try dsimp only at hSw
              go_simp
              all_goals with_reducible rfl
            try simp only [Act.put, List.getElem_toArray, List.getElem_cons_succ, List.getElem_cons_zero, List.setIfInBounds_toArray, List.set_cons_zero, List.set_cons_succ]
            refine wpAnyH_take (i := 16) (v := ?_) rfl (by kernel_rfl) (by kernel_rfl) (by kernel_rfl) (fun _ _ _ h => h) (Or.inl ⟨by rfl, ?_⟩) (by assumption) ?_
            rotate_left
            · intro w hSw
              try dsimp only at hSw
              go_simp
              all_goals with_reducible rfl
            try simp only [Act.put, List.getElem_toArray, List.getElem_cons_succ, List.getElem_cons_zero, List.setIfInBounds_toArray, List.set_cons_zero, List.set_cons_succ]
            refine wpAnyH_take (i := 17) (v := ?_) rfl (by kernel_rfl) (by kernel_rfl) (by kernel_rfl) (fun _ _ _ h => h) (Or.inl ⟨by rfl, ?_⟩) (by assumption) ?_
            rotate_left
            · intro w hSw
              try dsimp only at hSw
              go_simp
              all_goals with_reducible rfl
            try simp only [Act.put, List.getElem_toArray, List.getElem_cons_succ, List.getElem_cons_zero, List.setIfInBounds_toArray, List.set_cons_zero, List.set_cons_succ]
            refine wpAnyH_take (i := 18) (v := ?_) rfl (by kernel_rfl) (by kernel_rfl) (by kernel_rfl) (fun _ _ _ h => h) (Or.inl ⟨by rfl, ?_⟩) (by assumption) ?_
            rotate_left
            · intro w hSw
              try dsimp only at hSw
              go_simp
              all_goals with_reducible rfl
            try simp only [Act.put, List.getElem_toArray, List.getElem_cons_succ, List.getElem_cons_zero, List.setIfInBounds_toArray, List.set_cons_zero, List.set_cons_succ]
            refine wpAnyH_take (i := 19) (v := ?_) rfl (by kernel_rfl) (by kernel_rfl) (by kernel_rfl) (fun _ _ _ h => h) (Or.inl ⟨by rfl, ?_⟩) (by assumption) ?_
            rotate_left
            · intro w hSw
              try dsimp only at hSw
              go_simp
              all_goals with_reducible rfl
            try simp only [Act.put, List.getElem_toArray, List.getElem_cons_succ, List.getElem_cons_zero, List.setIfInBounds_toArray, List.set_cons_zero, List.set_cons_succ]
            refine wpAnyH_take (i := 20) (v := ?_) rfl (by kernel_rfl) (by kernel_rfl) (by kernel_rfl) (fun _ _ _ h => h) (Or.inl ⟨by rfl, ?_⟩) (by assumption) ?_
            rotate_left
            · intro w hSw
              try dsimp only at hSw
              go_simp
              all_goals with_reducible rfl
            try simp only [Act.put, List.getElem_toArray, List.getElem_cons_succ, List.getElem_cons_zero, List.setIfInBounds_toArray, List.set_cons_zero, List.set_cons_succ]
            refine wpAnyH_take (i := 21) (v := ?_) rfl (by kernel_rfl) (by kernel_rfl) (by kernel_rfl) (fun _ _ _ h => h) (Or.inl ⟨by rfl, ?_⟩) (by assumption) ?_
            rotate_left
            · intro w hSw
              try dsimp only at hSw
              go_simp
              all_goals with_reducible rfl
            try simp only [Act.put, List.getElem_toArray, List.getElem_cons_succ, List.getElem_cons_zero, List.setIfInBounds_toArray, List.set_cons_zero, List.set_cons_succ]
            refine wpAnyH_take (i := 22) (v := ?_) rfl (by kernel_rfl) (by kernel_rfl) (by kernel_rfl) (fun _ _ _ h => h) (Or.inl ⟨by rfl, ?_⟩) (by assumption) ?_
            rotate_left
            · intro w hSw
              try dsimp only at hSw
              go_simp
              all_goals with_reducible rfl
            try simp only [Act.put, List.getElem_toArray, List.getElem_cons_succ, List.getElem_cons_zero, List.setIfInBounds_toArray, List.set_cons_zero, List.set_cons_succ]
            refine wpAnyH_take (i := 23) (v := ?_) rfl (by kernel_rfl) (by kernel_rfl) (by kernel_rfl) (fun _ _ _ h => h) (Or.inl ⟨by rfl, ?_⟩) (by assumption) ?_
            rotate_left
            · intro w hSw
              try dsimp only at hSw
              go_simp
              all_goals with_reducible rfl
            try simp only [Act.put, List.getElem_toArray, List.getElem_cons_succ, List.getElem_cons_zero, List.setIfInBounds_toArray, List.set_cons_zero, List.set_cons_succ]
            refine wpAnyH_take (i := 24) (v := ?_) rfl (by kernel_rfl) (by kernel_rfl) (by kernel_rfl) (fun _ _ _ h => h) (Or.inl ⟨by rfl, ?_⟩) (by assumption) ?_
            rotate_left
            · intro w hSw
              try dsimp only at hSw
              go_simp
              all_goals with_reducible rfl
            try simp only [Act.put, List.getElem_toArray, List.getElem_cons_succ, List.getElem_cons_zero, List.setIfInBounds_toArray, List.set_cons_zero, List.set_cons_succ]
            as_aux_lemma =>
            refine wpAnyH_take (i := 25) (v := ?_) rfl (by kernel_rfl) (by kernel_rfl) (by kernel_rfl) (fun _ _ _ h => h) (Or.inl ⟨by rfl, ?_⟩) (by assumption) ?_
            rotate_left
            · intro w hSw
              try dsimp only at hSw
              go_simp
              all_goals with_reducible rfl
            try simp only [Act.put, List.getElem_toArray, List.getElem_cons_succ, List.getElem_cons_zero, List.setIfInBounds_toArray, List.set_cons_zero, List.set_cons_succ]
            refine wpAnyH_take (i := 26) (v := ?_) rfl (by kernel_rfl) (by kernel_rfl) (by kernel_rfl) (fun _ _ _ h => h) (Or.inl ⟨by rfl, ?_⟩) (by assumption) ?_
            rotate_left
            · intro w hSw
              try dsimp only at hSw
              go_simp
              all_goals with_reducible rfl
            try simp only [Act.put, List.getElem_toArray, List.getElem_cons_succ, List.getElem_cons_zero, List.setIfInBounds_toArray, List.set_cons_zero, List.set_cons_succ]
            refine wpAnyH_take (i := 27) (v := ?_) rfl (by kernel_rfl) (by kernel_rfl) (by kernel_rfl) (fun _ _ _ h => h) (Or.inl ⟨by rfl, ?_⟩) (by assumption) ?_
            rotate_left
            · intro w hSw
              try dsimp only at hSw
              go_simp
              all_goals with_reducible rfl
            try simp only [Act.put, List.getElem_toArray, List.getElem_cons_succ, List.getElem_cons_zero, List.setIfInBounds_toArray, List.set_cons_zero, List.set_cons_succ]
            refine wpAnyH_take (i := 28) (v := ?_) rfl (by kernel_rfl) (by kernel_rfl) (by kernel_rfl) (fun _ _ _ h => h) (Or.inl ⟨by rfl, ?_⟩) (by assumption) ?_
            rotate_left
            · intro w hSw
              try dsimp only at hSw
              go_simp
              all_goals with_reducible rfl
            try simp only [Act.put, List.getElem_toArray, List.getElem_cons_succ, List.getElem_cons_zero, List.setIfInBounds_toArray, List.set_cons_zero, List.set_cons_succ]
            refine wpAnyH_take (i := 29) (v := ?_) rfl (by kernel_rfl) (by kernel_rfl) (by kernel_rfl) (fun _ _ _ h => h) (Or.inl ⟨by rfl, ?_⟩) (by assumption) ?_
            rotate_left
            · intro w hSw
              try dsimp only at hSw
              go_simp
              all_goals with_reducible rfl
            try simp only [Act.put, List.getElem_toArray, List.getElem_cons_succ, List.getElem_cons_zero, List.setIfInBounds_toArray, List.set_cons_zero, List.set_cons_succ]
            refine wpAnyH_take (i := 30) (v := ?_) rfl (by kernel_rfl) (by kernel_rfl) (by kernel_rfl) (fun _ _ _ h => h) (Or.inl ⟨by rfl, ?_⟩) (by assumption) ?_
            rotate_left
            · intro w hSw
              try dsimp only at hSw
              go_simp
              all_goals with_reducible rfl
            try simp only [Act.put, List.getElem_toArray, List.getElem_cons_succ, List.getElem_cons_zero, List.setIfInBounds_toArray, List.set_cons_zero, List.set_cons_succ]
            refine wpAnyH_take (i := 31) (v := ?_) rfl (by kernel_rfl) (by kernel_rfl) (by kernel_rfl) (fun _ _ _ h => h) (Or.inl ⟨by rfl, ?_⟩) (by assumption) ?_
            rotate_left
            · intro w hSw
              try dsimp only at hSw
              go_simp
              all_goals with_reducible rfl
            try simp only [Act.put, List.getElem_toArray, List.getElem_cons_succ, List.getElem_cons_zero, List.setIfInBounds_toArray, List.set_cons_zero, List.set_cons_succ]
            refine wpAnyH_take (i := 32) (v := ?_) rfl (by kernel_rfl) (by kernel_rfl) (by kernel_rfl) (fun _ _ _ h => h) (Or.inl ⟨by rfl, ?_⟩) (by assumption) ?_
            rotate_left
            · intro w hSw
              try dsimp only at hSw
              go_simp
              all_goals with_reducible rfl
            try simp only [Act.put, List.getElem_toArray, List.getElem_cons_succ, List.getElem_cons_zero, List.setIfInBounds_toArray, List.set_cons_zero, List.set_cons_succ]
            refine wpAnyH_take (i := 33) (v := ?_) rfl (by kernel_rfl) (by kernel_rfl) (by kernel_rfl) (fun _ _ _ h => h) (Or.inl ⟨by rfl, ?_⟩) (by assumption) ?_
            rotate_left
            · intro w hSw
              try dsimp only at hSw
              go_simp
              all_goals with_reducible rfl
            try simp only [Act.put, List.getElem_toArray, List.getElem_cons_succ, List.getElem_cons_zero, List.setIfInBounds_toArray, List.set_cons_zero, List.set_cons_succ]
            refine wpAnyH_take (i := 34) (v := ?_) rfl (by kernel_rfl) (by kernel_rfl) (by kernel_rfl) (fun _ _ _ h => h) (Or.inl ⟨by rfl, ?_⟩) (by assumption) ?_
            rotate_left
            · intro w hSw
              try dsimp only at hSw
              go_simp
              all_goals with_reducible rfl
            try simp only [Act.put, List.getElem_toArray, List.getElem_cons_succ, List.getElem_cons_zero, List.setIfInBounds_toArray, List.set_cons_zero, List.set_cons_succ]
            refine wpAnyH_take (i := 35) (v := ?_) rfl (by kernel_rfl) (by kernel_rfl) (by kernel_rfl) (fun _ _ _ h => h) (Or.inl ⟨by rfl, ?_⟩) (by assumption) ?_
            rotate_left
            · intro w hSw
              try dsimp only at hSw
              go_simp
              all_goals with_reducible rfl
            try simp only [Act.put, List.getElem_toArray, List.getElem_cons_succ, List.getElem_cons_zero, List.setIfInBounds_toArray, List.set_cons_zero, List.set_cons_succ]
            refine wpAnyH_take (i := 36) (v := ?_) rfl (by kernel_rfl) (by kernel_rfl) (by kernel_rfl) (fun _ _ _ h => h) (Or.inl ⟨by rfl, ?_⟩) (by assumption) ?_
            rotate_left
            · intro w hSw
              try dsimp only at hSw
              go_simp
              all_goals with_reducible rfl
            try simp only [Act.put, List.getElem_toArray, List.getElem_cons_succ, List.getElem_cons_zero, List.setIfInBounds_toArray, List.set_cons_zero, List.set_cons_succ]
            refine wpAnyH_take (i := 37) (v := ?_) rfl (by kernel_rfl) (by kernel_rfl) (by kernel_rfl) (fun _ _ _ h => h) (Or.inl ⟨by rfl, ?_⟩) (by assumption) ?_
            rotate_left
            · intro w hSw
              try dsimp only at hSw
              go_simp
              all_goals with_reducible rfl
            try simp only [Act.put, List.getElem_toArray, List.getElem_cons_succ, List.getElem_cons_zero, List.setIfInBounds_toArray, List.set_cons_zero, List.set_cons_succ]
            refine wpAnyH_ready (rs := [38]) (by kernel_rfl) (by simp) ?_
            refine AllReadyH.cons rfl (fun K hK => ?_) AllReadyH.nil
            go_simp
            go_at_call 26
            refine (HSP.out _ ((HRX.out _ hb9').cut HK2.out.1) (HRA.out _ hb9')).mono ?_
            rintro e w10 ⟨rfl, hb10⟩
            have hb10' := hb9'.trans (hb10.mono hb9'.size)
            refine hK.out _ _ ?_ (fun hHeld2 => ?_)
            · exact HKS.out _ hb10'
            clear hK K hHeld
            have hHeld := hHeld2
            clear hHeld2
            try simp only [Act.put, List.getElem_toArray, List.getElem_cons_succ, List.getElem_cons_zero, List.setIfInBounds_toArray, List.set_cons_zero, List.set_cons_succ]
            refine wpAnyH_take (i := 39) (v := ?_) rfl (by kernel_rfl) (by kernel_rfl) (by kernel_rfl) (fun _ _ _ h => h) (Or.inl ⟨by rfl, ?_⟩) (by assumption) ?_
            rotate_left
            · intro w hSw
              try dsimp only at hSw
              go_simp
              all_goals with_reducible rfl
            try simp only [Act.put, List.getElem_toArray, List.getElem_cons_succ, List.getElem_cons_zero, List.setIfInBounds_toArray, List.set_cons_zero, List.set_cons_succ]
            refine wpAnyH_take (i := 40) (v := ?_) rfl (by kernel_rfl) (by kernel_rfl) (by kernel_rfl) (fun _ _ _ h => h) (Or.inl ⟨by rfl, ?_⟩) (by assumption) ?_
            rotate_left
            · intro w hSw
              try dsimp only at hSw
              go_simp
              all_goals with_reducible rfl
            try simp only [Act.put, List.getElem_toArray, List.getElem_cons_succ, List.getElem_cons_zero, List.setIfInBounds_toArray, List.set_cons_zero, List.set_cons_succ]
            refine wpAnyH_take (i := 41) (v := ?_) rfl (by kernel_rfl) (by kernel_rfl) (by kernel_rfl) (fun _ _ _ h => h) (Or.inl ⟨by rfl, ?_⟩) (by assumption) ?_
            rotate_left
            · intro w hSw
              try dsimp only at hSw
              go_simp
              all_goals with_reducible rfl
            try simp only [Act.put, List.getElem_toArray, List.getElem_cons_succ, List.getElem_cons_zero, List.setIfInBounds_toArray, List.set_cons_zero, List.set_cons_succ]
            refine wpAnyH_take (i := 42) (v := ?_) rfl (by kernel_rfl) (by kernel_rfl) (by kernel_rfl) (fun _ _ _ h => h) (Or.inl ⟨by rfl, ?_⟩) (by assumption) ?_
            rotate_left
            · intro w hSw
              try dsimp only at hSw
              go_simp
              all_goals with_reducible rfl
            try simp only [Act.put, List.getElem_toArray, List.getElem_cons_succ, List.getElem_cons_zero, List.setIfInBounds_toArray, List.set_cons_zero, List.set_cons_succ]
            refine wpAnyH_take (i := 43) (v := ?_) rfl (by kernel_rfl) (by kernel_rfl) (by kernel_rfl) (fun _ _ _ h => h) (Or.inl ⟨by rfl, ?_⟩) (by assumption) ?_
            rotate_left
            · intro w hSw
              try dsimp only at hSw
              go_simp
              all_goals with_reducible rfl
            try simp only [Act.put, List.getElem_toArray, List.getElem_cons_succ, List.getElem_cons_zero, List.setIfInBounds_toArray, List.set_cons_zero, List.set_cons_succ]
            refine wpAnyH_take (i := 44) (v := ?_) rfl (by kernel_rfl) (by kernel_rfl) (by kernel_rfl) (fun _ _ _ h => h) (Or.inl ⟨by rfl, ?_⟩) (by assumption) ?_
            rotate_left
            · intro w hSw
              try dsimp only at hSw
              go_simp
              all_goals with_reducible rfl
            try simp only [Act.put, List.getElem_toArray, List.getElem_cons_succ, List.getElem_cons_zero, List.setIfInBounds_toArray, List.set_cons_zero, List.set_cons_succ]
            refine wpAnyH_take (i := 45) (v := ?_) rfl (by kernel_rfl) (by kernel_rfl) (by kernel_rfl) (fun _ _ _ h => h) (Or.inl ⟨by rfl, ?_⟩) (by assumption) ?_
            rotate_left
            · intro w hSw
              try dsimp only at hSw
              go_simp
              all_goals with_reducible rfl
            try simp only [Act.put, List.getElem_toArray, List.getElem_cons_succ, List.getElem_cons_zero, List.setIfInBounds_toArray, List.set_cons_zero, List.set_cons_succ]
            refine wpAnyH_take (i := 46) (v := ?_) rfl (by kernel_rfl) (by kernel_rfl) (by kernel_rfl) (fun _ _ _ h => h) (Or.inl ⟨by rfl, ?_⟩) (by assumption) ?_
            rotate_left
            · intro w hSw
              try dsimp only at hSw
              go_simp
              all_goals with_reducible rfl
            try simp only [Act.put, List.getElem_toArray, List.getElem_cons_succ, List.getElem_cons_zero, List.setIfInBounds_toArray, List.set_cons_zero, List.set_cons_succ]
            refine wpAnyH_take (i := 47) (v := ?_) rfl (by kernel_rfl) (by kernel_rfl) (by kernel_rfl) (fun _ _ _ h => h) (Or.inl ⟨by rfl, ?_⟩) (by assumption) ?_
            rotate_left
            · intro w hSw
              try dsimp only at hSw
              go_simp
              all_goals with_reducible rfl
            try simp only [Act.put, List.getElem_toArray, List.getElem_cons_succ, List.getElem_cons_zero, List.setIfInBounds_toArray, List.set_cons_zero, List.set_cons_succ]
            refine wpAnyH_take (i := 48) (v := ?_) rfl (by kernel_rfl) (by kernel_rfl) (by kernel_rfl) (fun _ _ _ h => h) (Or.inl ⟨by rfl, ?_⟩) (by assumption) ?_
            rotate_left
            · intro w hSw
              try dsimp only at hSw
              go_simp
              all_goals with_reducible rfl
            try simp only [Act.put, List.getElem_toArray, List.getElem_cons_succ, List.getElem_cons_zero, List.setIfInBounds_toArray, List.set_cons_zero, List.set_cons_succ]
            refine wpAnyH_take (i := 49) (v := ?_) rfl (by kernel_rfl) (by kernel_rfl) (by kernel_rfl) (fun _ _ _ h => h) (Or.inl ⟨by rfl, ?_⟩) (by assumption) ?_
            rotate_left
            · intro w hSw
              try dsimp only at hSw
              go_simp
              all_goals with_reducible rfl
            try simp only [Act.put, List.getElem_toArray, List.getElem_cons_succ, List.getElem_cons_zero, List.setIfInBounds_toArray, List.set_cons_zero, List.set_cons_succ]
            refine wpAnyH_take (i := 50) (v := ?_) rfl (by kernel_rfl) (by kernel_rfl) (by kernel_rfl) (fun _ _ _ h => h) (Or.inl ⟨by rfl, ?_⟩) (by assumption) ?_
            rotate_left
            · intro w hSw
              try dsimp only at hSw
              go_simp
              all_goals with_reducible rfl
            try simp only [Act.put, List.getElem_toArray, List.getElem_cons_succ, List.getElem_cons_zero, List.setIfInBounds_toArray, List.set_cons_zero, List.set_cons_succ]
            refine wpAnyH_take (i := 51) (v := ?_) rfl (by kernel_rfl) (by kernel_rfl) (by kernel_rfl) (fun _ _ _ h => h) (Or.inl ⟨by rfl, ?_⟩) (by assumption) ?_
            rotate_left
            · intro w hSw
              try dsimp only at hSw
              go_simp
              all_goals with_reducible rfl
            try simp only [Act.put, List.getElem_toArray, List.getElem_cons_succ, List.getElem_cons_zero, List.setIfInBounds_toArray, List.set_cons_zero, List.set_cons_succ]
            refine wpAnyH_take (i := 52) (v := ?_) rfl (by kernel_rfl) (by kernel_rfl) (by kernel_rfl) (fun _ _ _ h => h) (Or.inl ⟨by rfl, ?_⟩) (by assumption) ?_
            rotate_left
            · intro w hSw
              try dsimp only at hSw
              go_simp
              all_goals with_reducible rfl
            try simp only [Act.put, List.getElem_toArray, List.getElem_cons_succ, List.getElem_cons_zero, List.setIfInBounds_toArray, List.set_cons_zero, List.set_cons_succ]
            refine wpAnyH_take (i := 53) (v := ?_) rfl (by kernel_rfl) (by kernel_rfl) (by kernel_rfl) (fun _ _ _ h => h) (Or.inl ⟨by rfl, ?_⟩) (by assumption) ?_
            rotate_left
            · intro w hSw
              try dsimp only at hSw
              go_simp
              all_goals with_reducible rfl
            try simp only [Act.put, List.getElem_toArray, List.getElem_cons_succ, List.getElem_cons_zero, List.setIfInBounds_toArray, List.set_cons_zero, List.set_cons_succ]
            refine wpAnyH_take (i := 54) (v := ?_) rfl (by kernel_rfl) (by kernel_rfl) (by kernel_rfl) (fun _ _ _ h => h) (Or.inl ⟨by rfl, ?_⟩) (by assumption) ?_
            rotate_left
            · intro w hSw
              try dsimp only at hSw
              go_simp
              all_goals with_reducible rfl
            try simp only [Act.put, List.getElem_toArray, List.getElem_cons_succ, List.getElem_cons_zero, List.setIfInBounds_toArray, List.set_cons_zero, List.set_cons_succ]
            refine wpAnyH_done (by kernel_rfl) ?_ _
            as_aux_lemma =>
            go_wp2_with fail
            have hcb := HOK.out.1.2
            unfold within at hcb
            obtain ⟨cn, rfl⟩ : ∃ cn : Nat, closed = (cn : Int) := ⟨closed.toNat, by omega⟩
            have hcn12 : cn ≤ 12 := by omega
            have HB11 : Hid (Below wc.heap.size wc w10) := Lib.hid hb10'
            have HST : Hid (∀ (m : Nat) (k k' : Nat) (f f' : Nat → Int) (e e' : Int), m < cn → StatSpec (tn : Int) (cn : Int) n g (m : Int) k f e → StatSpec (tn : Int) c2 k2 g2 (m : Int) k' f' e' → e = 0 ∧ e' = 0 ∧ k = tn ∧ k' = tn ∧ ∀ j, j < tn → f j = f' j) := Lib.hid (fun m k k' f f' e e' hm h1 h2 => by
              obtain ⟨r1, r2, r3⟩ := stat_good' h1 HOK.out ⟨by omega, by omega⟩
              obtain ⟨s1, s2, s3⟩ := stat_good' h2 HOK2.out ⟨by omega, by omega⟩
              exact ⟨r1, s1, r2, s2, fun j hj => by rw [r3 j hj, s3 j hj, keep_stat HK2.out.1 HPRE.out HDAY.out (show (m : Int) < (cn : Int) by omega)]⟩)
            clear hcb hb9 hb9' hb10 hb10' hHeld gA gB gC gD v2 v3 v4 hs1 hiff HV HSP HKS
            go_loopw [17] (fun mv wx => ∃ m : Nat, mv = .int .i64 m ∧ m ≤ cn ∧ Below wc.heap.size wc wx) (fun mv _ => cn - (intOf mv).toNat)
            case atStart => exact ⟨0, rfl, by omega, HB11.out⟩
            case round =>
              obtain ⟨m, rfl, hm, hb⟩ := hrel
              obtain ⟨a0, a1, a2⟩ := (HBA.out _ hb).cells
              by_cases hlt2 : m < cn
              · have l0 : (m : Int) < (cn : Int) := by omega
                have HS1 := Lib.hid (Statement_any (tn : Int) (cn : Int) (m : Int) q n c g wr (by unfold maxLen; omega) (HRA.out _ hb))
                go_wp2_with fail
                refine HS1.out.mono ?_
                rintro e w11 ⟨ps, ks, sc, fs, es, rfl, hss, hrs, _, hb11⟩
                have HSS := Lib.hid hss
                have HRS := Lib.hid hrs
                have HB12 := Lib.hid (hb.trans (hb11.mono hb.size))
                clear a0 a1 a2 hss hrs hb11 HS1 hb
                obtain ⟨a0, a1, a2⟩ := (HBX.out _ HB12.out).cells
                have HS1 := Lib.hid (Statement_any (tn : Int) c2 (m : Int) q2 k2 kc2 g2 w11 (by have := HK2.out; unfold maxLen; omega) (HRX.out _ HB12.out))
                go_wp2_with fail
                refine HS1.out.mono ?_
                rintro e w12 ⟨pt, kt, tc, ft, et, rfl, hst, hrt, _, hb12⟩
                obtain ⟨rfl, rfl, rfl, rfl, hsf⟩ := HST.out m _ _ _ _ _ _ hlt2 HSS.out hst
                have HIY := Lib.hid (ints_yes ps pt _ _ sc tc fs ft w12 (by have := HTB.out; omega) rfl (HRS.out.below hb12) hrt hsf)
                have HB13 := Lib.hid (HB12.out.trans (hb12.mono HB12.out.size))
                clear a0 a1 a2 hst hrt hb12 HS1 HB12 HRS HSS hsf
                go_wp2_with fail
                refine HIY.out.mono ?_
                rintro e w13 ⟨rfl, hb13⟩
                go_wp2_with fail
                exact ⟨⟨m + 1, by go_num, by omega, HB13.out.trans (hb13.mono HB13.out.size)⟩, by simp [intOf]; omega⟩
              · have l0 : ¬ (m : Int) < (cn : Int) := by omega
                obtain ⟨d0, d1, d2⟩ := (HBX.out _ hb).cells
                have hbk := HBA.out _ hb
                have f0 := hbk.free 0
                have f1 := hbk.free 1
                have f2 := hbk.free 2
                have HF := Lib.hid (hbk.setAll (tn : Int) c2 (.slice q2 k2 kc2))
                have HRF := Lib.hid (readsP_three (HRX.out _ hb) (b := A) (fun a h => HQX2.out a h) (.int .i64 (tn : Int)) (.slice q2 k2 kc2) (.int .i64 c2))
                have HBF := Lib.hid (below_three (HBW.out _ hb) (b := A) (Nat.le_refl _) (.int .i64 (tn : Int)) (.slice q2 k2 kc2) (.int .i64 c2))
                have HQF : Hid (0 < k2 → ∀ a, q2 = some a → a.block ≠ A) := Lib.hid (fun _ a h => by have := HQX2.out a h; omega)
                clear hbk hb
                go_wp2_with fail
                exact ⟨⟨i + 1, k2, kc2, c2, q2, g2, by go_num, by omega, by omega, by have := HK2.out; omega, HOK2, HF.out, HRF, HQF, HBF.out⟩, by simp [intOf]; omega⟩
          · as_aux_lemma =>
            have HSM := Lib.hid (same_yes 0 0 q2 none 0 kc2 0 g2 g2 wc (by omega) (fun i hi => by omega) (fun i hi => by omega) (fun i hi => by omega))
            obtain ⟨o0', o1', o2'⟩ := hbx.cells
            clear HNX HQX2 HKP HID HAD
            go_wp2_with fail
            refine HSM.out.mono ?_
            rintro e w11 ⟨rfl, hb11⟩
            have HBKF := Lib.hid (hbk.below hb11)
            have HRDF := Lib.hid (HRD.out.below hb11)
            have HBF := Lib.hid (hB.trans (hb11.mono (Nat.le_of_lt hbk.lt)))
            clear hbk hB hbx o0' o1' o2' hb11 HRD
            go_wp2_with fail
            exact ⟨⟨i + 1, n, c, closed, q, g, by go_num, by omega, by omega, by omega, HOK, HBKF.out, HRDF, HQ, HBF.out⟩, by simp [intOf]; omega⟩
      · have l8 : ¬ (i : Int) < 8 := by omega
        have HFIN := Lib.hid HBR.out
        clear hbk hB HBR
        obtain ⟨b0, o0, rfl, hcs0⟩ := HI2.out.cell i hlt
        have v1 : (i : Int) < (m1 : Int) := by omega
        clear hcs0
        go_wp2_with fail
        refine bodyPost_ret (v := .bool true) (by simp [results, Try.results5, go_sem]) rfl ⟨rfl, HFIN.out⟩
    · have v1 : ¬ (i : Int) < (m1 : Int) := by omega
      have HFIN := Lib.hid HBR.out
      clear hbk hB HBR
      go_wp2_with fail
      refine bodyPost_ret (v := .bool true) (by simp [results, Try.results5, go_sem]) rfl ⟨rfl, HFIN.out⟩
end Go.Proofs.Ytcfplkbbgjiocaa
