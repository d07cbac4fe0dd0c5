/- The reference of chapter 27: Close. Conditions: a slice of at most 1000 postings that can be read; numbers of 64 bits. -/
import Derived.Test.YtcfplkbbgjiocaaDoorBookClose
import Derived.Test.YtcfplkbbgjiocaaDoorRefBook
namespace Go.Proofs.YtcfplkbbgjiocaaDoor
open Go Go.RowKit Go.Shelf
theorem addr_add' (b off j : Nat) : (⟨b, off, none⟩ : Addr).add j = ⟨b, off + j, none⟩ := by unfold Addr.add; split <;> simp_all
theorem news_of_reads {W : World} {b off n : Nat} {g : Nat → Pst} (h : ReadsP W (some ⟨b, off, none⟩) n g) : ∀ j u, (flatP g n)[j]? = some u → W.cell? ((⟨b, off, none⟩ : Addr).add j) = some u := fun j u hu => by
  have hj : j < n * 7 := by
    have := (List.getElem?_eq_some_iff.1 hu).1
    rwa [flatP_length] at this
  have e : j = j / 7 * 7 + j % 7 := by omega
  have h1 := flatP_get g n (j / 7) (j % 7) (by omega) (by omega)
  rw [← e, hu] at h1
  obtain ⟨b', o', he, hc⟩ := h (j / 7) (by omega)
  cases he
  have h2 := hc (j / 7) (by omega) (j % 7) (by omega)
  rw [Nat.add_assoc, ← e] at h2
  rw [addr_add', h2, h1]
theorem flatP_one (g : Nat → Pst) (n : Nat) : ∀ u ∈ flatP g n, u.oneCell' = true := fun u hu => by
  unfold flatP at hu
  obtain ⟨j, _, hj⟩ := List.mem_flatMap.1 hu
  exact cells_one (g j) u hj
theorem emptyP_own (W : World) : (W.alloc (.cells #[] 27)).ownsRow W.heap.size 27 7 (.slice (some ⟨W.heap.size, 0, none⟩) 0 0) 0 [] := World.ownsRow_lit W #[] 0 (Nat.le_refl _) (by decide) rfl
theorem BkBox.kept {W W' : World} {B : Nat} {t c : Int} {v : Value} {row : Option Nat} (h : BkBox W B t v c) (hg : W.grownBy W' row) (hne : some B ≠ row) : BkBox W' B t v c := (hg.block B h.lt hne).trans h
theorem BkBox.setV {W : World} {B : Nat} {t c : Int} {v : Value} (h : BkBox W B t v c) (u : Value) : BkBox (W.setCell ⟨B, 1, none⟩ u) B t u c := by
  unfold BkBox at h ⊢
  rw [heap_set h u]
  rfl
theorem BkBox.setC {W : World} {B : Nat} {t c : Int} {v : Value} (h : BkBox W B t v c) (x : Int) : BkBox (W.setCell ⟨B, 2, none⟩ (.int .i64 x)) B t v x := by
  unfold BkBox at h ⊢
  rw [heap_set h _]
  rfl
theorem BkBox.other {W : World} {B : Nat} {t c : Int} {v : Value} (h : BkBox W B t v c) {b i : Nat} (hne : B ≠ b) (u : Value) : BkBox (W.setCell ⟨b, i, none⟩ u) B t v c :=
  (Below.heap_setCell _ _ _ B hne).trans h
set_option maxRecDepth 100000 in
set_option maxHeartbeats 8000000 in
theorem ref_Close_any (teams closed month : Int) (q : Option Addr) (n c : Nat) (g : Nat → Pst) (w : World) (hn : n ≤ 1000) (hr : ReadsP w q n g) :
    Calls Tryd.prog 32 #[.agg #[.int .i64 teams, .slice q n c, .int .i64 closed], .int .i64 month] w (IsBkC w (CloseSpec teams closed n g month)) := by
  obtain ⟨i0, hi0, hj0, hj1, hj2⟩ := infoP
  have hb1 := BkBox.new w teams closed (.slice q n c)
  have hal1 : Below w.heap.size w (w.alloc (.cells #[.int .i64 teams, .slice q n c, .int .i64 closed] 24)) := (Below.refl _ _).alloc (Nat.le_refl _) _
  obtain ⟨w1, hw1⟩ : ∃ w1, w.alloc (.cells #[.int .i64 teams, .slice q n c, .int .i64 closed] 24) = w1 := ⟨_, rfl⟩
  have hz1 : w1.heap.size = w.heap.size + 1 := by rw [← hw1, World.size_alloc]
  rw [hw1] at hb1 hal1
  have hal3 : Below w1.heap.size w1 (w1.alloc (.cells #[.int .i64 0, .slice none 0 0, .int .i64 0] 24)) := (Below.refl _ _).alloc (Nat.le_refl _) _
  have hr3 := BkBox.new w1 0 0 (.slice none 0 0)
  obtain ⟨w3, hw3⟩ : ∃ w3, w1.alloc (.cells #[.int .i64 0, .slice none 0 0, .int .i64 0] 24) = w3 := ⟨_, rfl⟩
  have hz3 : w3.heap.size = w.heap.size + 2 := by rw [← hw3, World.size_alloc, hz1]
  rw [hw3] at hal3 hr3
  rw [hz1] at hr3
  have hb3 := hb1.below hal3
  have hB3 : Below w.heap.size w w3 := hal1.trans (hal3.mono hal1.size)
  have hW : (w.alloc (.cells #[.int .i64 teams, .slice q n c, .int .i64 closed] 24)).alloc (.cells #[.int .i64 0, .slice none 0 0, .int .i64 0] 24) = w3 := by rw [hw1, hw3]
  have HW := Lib.hid hW
  have hr3' := hr.below hB3
  have HRD := Lib.hid hr3'
  have HO := Lib.hid (ref_valid_any teams closed q n c g w3 (by unfold maxLen; omega) hr3')
  have HB3 := Lib.hid hB3
  have HZ3 := Lib.hid hz3
  have HR3 := Lib.hid hr3
  have HBK3 := Lib.hid hb3
  obtain ⟨b0, b1, b2⟩ := hb3.cells
  clear hr hb1 hal1 hw1 hz1 hal3 hr3 hw3 hz3 hb3 hB3 hW hr3'
  go_enter Tryd.func32, Tryd.ntmps32
  go_upto_region 1 with fail
  obtain ⟨S, hS⟩ : ∃ S, w.heap.size = S := ⟨_, rfl⟩
  have HS := Lib.hid hS
  rw [hS] at HR3 HBK3 HZ3 b0 b1 b2
  rw [HW.out, hS]
  clear hS HW
  go_wp2_with fail
  refine HO.out.mono ?_
  rintro e w4 ⟨⟨r, rfl, hiff⟩, hb4⟩
  have hr4 := HR3.out.below hb4
  have hbk4 := HBK3.out.below hb4
  have hrd4 := HRD.out.below hb4
  have HB4 := Lib.hid (HB3.out.trans (hb4.mono HB3.out.size))
  have HIFF := Lib.hid hiff
  obtain ⟨r0, r1, r2⟩ := hr4.cells
  obtain ⟨c0, c1, c2⟩ := hbk4.cells
  have f0 := hr4.free 0
  have f1 := hr4.free 1
  have f2 := hr4.free 2
  have HBZ := Lib.hid (below_three HB4.out (b := S + 1) (by have := HS.out; omega) (.int .i64 0) (.slice none 0 0) (.int .i64 0))
  have HRD4 := Lib.hid hrd4
  have HR4 := Lib.hid hr4
  have HBK4 := Lib.hid hbk4
  have hS4 : S + 2 ≤ w4.heap.size := by have := HZ3.out; have := hb4.size; omega
  clear b0 b1 b2 hiff hr4 hbk4 hb4 hrd4
  cases r with
  | false =>
    have HNO : Hid (¬ CloseGood teams closed n g month) := Lib.hid (fun h => by have := HIFF.out.2 h.1; simp at this)
    go_wp2_with fail
    refine bodyPost_ret (v := .tuple #[.agg #[.int .i64 0, .slice none 0 0, .int .i64 0], .int .i64 270]) (by simp [results, Tryd.results32, go_sem, r0, r1, r2]) rfl ?_
    exact IsBkC.bad (fun _ => .inr ⟨HNO.out, rfl, rfl, rfl, rfl⟩) rfl HBZ.out
  | true =>
    have HOK : Hid (BookOk teams closed n g) := Lib.hid (HIFF.out.1 (by trivial))
    by_cases hm : month = closed
    · by_cases hw : within month 0 11
      · have d1 : decide (within month 0 11) = true := decide_eq_true hw
        have hw2 : 0 ≤ month ∧ month ≤ 11 := hw
        obtain ⟨hw3, hw4⟩ := hw2
        have HG : Hid (CloseGood teams closed n g month) := Lib.hid ⟨HOK.out, hm, hw⟩
        have HM := Lib.hid hm
        have mb : (month != closed) = false := by simp [hm]
        have hal5 : Below w4.heap.size w4 (w4.alloc (.cells #[.int .i64 teams, .slice q n c, .int .i64 closed] 24)) := (Below.refl _ _).alloc (Nat.le_refl _) _
        have hz5 := BkBox.new w4 teams closed (.slice q n c)
        obtain ⟨w5, hw5⟩ : ∃ w5, w4.alloc (.cells #[.int .i64 teams, .slice q n c, .int .i64 closed] 24) = w5 := ⟨_, rfl⟩
        have HW5 := Lib.hid hw5
        have hs5 : w5.heap.size = w4.heap.size + 1 := by rw [← hw5, World.size_alloc]
        rw [hw5] at hal5 hz5
        have hale : Below w5.heap.size w5 (w5.alloc (.cells #[] 27)) := (Below.refl _ _).alloc (Nat.le_refl _) _
        have hz6 := hz5.below hale
        have hr6 := (HR4.out.below hal5).below hale
        have hb6 := (HBK4.out.below hal5).below hale
        have hrd6 := (HRD4.out.below hal5).below hale
        have hB6 := (HB4.out.trans (hal5.mono HB4.out.size)).trans (hale.mono (Nat.le_trans HB4.out.size hal5.size))
        have HZ6 := Lib.hid hz6
        have HR6 := Lib.hid hr6
        have HRD6 := Lib.hid hrd6
        have HB6 := Lib.hid hB6
        have HS5 := Lib.hid hs5
        obtain ⟨x0, x1, x2⟩ := hb6.cells
        clear hw hm hw5 hal5 hz5 hs5 hale hz6 hr6 hb6 hrd6 hB6
        by_cases h0 : n = 0
        · subst h0
          go_upto_region 4 with (go_at_call 50; refine (in_any _ _ _ _).mono ?_; rintro e w1 ⟨rfl, rfl⟩)
          rw [HW5.out]
          have hz6 := HZ6.out
          have hr6 := HR6.out
          obtain ⟨z0, z1, z2⟩ := hz6.cells
          have k1 := hz6.free 1
          have k2 := hz6.free 2
          obtain ⟨s0, s1, s2⟩ := hr6.cells
          have g0 := hr6.free 0
          have g1 := hr6.free 1
          have g2' := hr6.free 2
          have hrow6 : (w5.alloc (.cells #[] 27)).ownsRow w5.heap.size 27 7 (.slice (some ⟨w5.heap.size, 0, none⟩) 0 0) 0 (flatP g 0) := emptyP_own w5
          have HOWN2 := Lib.hid hrow6
          clear hz6 hr6 hrow6
          cases q
          all_goals go_wp2_with fail
          all_goals
            obtain ⟨pp, cc, he, hrd, hpb⟩ := own_readsP HOWN2.out
            cases he
            have HRDF := readsP_three (readsP_far (readsP_far hrd (b := w4.heap.size) (fun a h => by have := hpb a h; have := HS5.out; omega) 1 (.slice (some ⟨w5.heap.size, 0, none⟩) 0 0)) (b := w4.heap.size) (fun a h => by have := hpb a h; have := HS5.out; omega) 2 (.int .i64 (month + 1))) (b := S + 1) (fun a h => by have := hpb a h; have := HS5.out; omega) (.int .i64 teams) (.slice (some ⟨w5.heap.size, 0, none⟩) 0 0) (.int .i64 (month + 1))
            have HBF := below_three (Below_set (Below_set HB6.out (b := w4.heap.size) (i := 1) (by have := HS.out; omega) (.slice (some ⟨w5.heap.size, 0, none⟩) 0 0)) (b := w4.heap.size) (i := 2) (by have := HS.out; omega) (.int .i64 (month + 1))) (b := S + 1) (by have := HS.out; omega) (.int .i64 teams) (.slice (some ⟨w5.heap.size, 0, none⟩) 0 0) (.int .i64 (month + 1))
            refine bodyPost_ret (v := .tuple #[.agg #[.int .i64 teams, .slice (some ⟨w5.heap.size, 0, none⟩) 0 0, .int .i64 (month + 1)], .int .i64 0]) (by simp [results, Tryd.results32, go_sem, s0, s1, s2]) rfl ?_
            exact ⟨teams, month + 1, _, 0, 0, g, 0, rfl, .inl ⟨HG.out, rfl, rfl, rfl, by rw [HM.out], fun i _ => rfl⟩, HRDF, (fun a h => by have := hpb a h; have := HS5.out; have := HS.out; omega), own_capP HOWN2.out, HBF⟩
        · obtain ⟨bq, oq, rfl, _⟩ := HRD6.out 0 (by omega)
          have HNW := Lib.hid (news_of_reads HRD6.out)
          go_upto_region 4 with (go_at_call 50; refine (in_any _ _ _ _).mono ?_; rintro e w1 ⟨rfl, rfl⟩)
          rw [HW5.out]
          go_wp2_with (
            at_builtin
            refine wpList_append_lies (o := ⟨some 26, _, _, _, _, _⟩) _ rfl _ _ 22 rfl w5.heap.size 27 i0 (.agg #[.int .i64 0, .int .i64 0, .int .i64 0, .int .i64 0, .int .i64 0, .int .i64 0, .int .i64 0]) 7 56 Tryd.underlying22 hi0 hj0 hj1 hj2 rfl (by decide) (.slice (some ⟨w5.heap.size, 0, none⟩) 0 0) 0 [] rfl (emptyP_own w5) ⟨bq, oq, none⟩ n c (flatP g n) rfl (flatP_length g n) HNW.out (flatP_one g n) (by omega) (by unfold maxLen; omega) (by omega) (by simp) _ rfl ?_
            intro g2 cp2 w6 hown1 hgrow1 hat1 hlt1
            have hz7 := HZ6.out.kept hgrow1 (by have := HS5.out; simp [Value.ownBlock]; omega)
            have hr7 := HR6.out.kept hgrow1 (by have := HS5.out; simp [Value.ownBlock]; omega)
            have hB7 := HB6.out.grown hgrow1 (by have := HS5.out; rw [World.size_alloc]; have := HS.out; omega) (fun k e => by have := HS5.out; have := HS.out; simp [Value.ownBlock] at e; omega)
            obtain ⟨z0, z1, z2⟩ := hz7.cells
            have k1 := hz7.free 1
            have k2 := hz7.free 2
            obtain ⟨s0, s1, s2⟩ := hr7.cells
            have g0 := hr7.free 0
            have g1 := hr7.free 1
            have g2' := hr7.free 2
            have hown2 : w6.ownsRow w5.heap.size 27 7 (.slice (some ⟨g2, 0, none⟩) n cp2) n (flatP g n) := by simpa using hown1
            have HOWN2 := Lib.hid hown2
            have HB7 := Lib.hid hB7
            clear hown1 hown2 hB7 hat1)
          obtain ⟨pp, cc, he, hrd, hpb⟩ := own_readsP HOWN2.out
          cases he
          have HRDF := readsP_three (readsP_far (readsP_far hrd (b := w4.heap.size) (fun a h => by have := hpb a h; have := HS5.out; omega) 1 (.slice (some ⟨g2, 0, none⟩) n cp2)) (b := w4.heap.size) (fun a h => by have := hpb a h; have := HS5.out; omega) 2 (.int .i64 (month + 1))) (b := S + 1) (fun a h => by have := hpb a h; have := HS5.out; omega) (.int .i64 teams) (.slice (some ⟨g2, 0, none⟩) n cp2) (.int .i64 (month + 1))
          have HBF := below_three (Below_set (Below_set HB7.out (b := w4.heap.size) (i := 1) (by have := HS.out; omega) (.slice (some ⟨g2, 0, none⟩) n cp2)) (b := w4.heap.size) (i := 2) (by have := HS.out; omega) (.int .i64 (month + 1))) (b := S + 1) (by have := HS.out; omega) (.int .i64 teams) (.slice (some ⟨g2, 0, none⟩) n cp2) (.int .i64 (month + 1))
          refine bodyPost_ret (v := .tuple #[.agg #[.int .i64 teams, .slice (some ⟨g2, 0, none⟩) n cp2, .int .i64 (month + 1)], .int .i64 0]) (by simp [results, Tryd.results32, go_sem, s0, s1, s2]) rfl ?_
          exact ⟨teams, month + 1, _, n, cp2, g, 0, rfl, .inl ⟨HG.out, rfl, rfl, rfl, by rw [HM.out], fun i _ => rfl⟩, HRDF, (fun a h => by have := hpb a h; have := HS5.out; have := HS.out; omega), own_capP HOWN2.out, HBF⟩
      · have d1 : decide (within month 0 11) = false := decide_eq_false hw
        have HNO : Hid (¬ CloseGood teams closed n g month) := Lib.hid (fun h => hw h.2.2)
        have mb : (month != closed) = false := by simp [hm]
        clear hw hm
        go_wp2_with (go_at_call 50; refine (in_any _ _ _ _).mono ?_; rintro e w1 ⟨rfl, rfl⟩)
        refine bodyPost_ret (v := .tuple #[.agg #[.int .i64 0, .slice none 0 0, .int .i64 0], .int .i64 270]) (by simp [results, Tryd.results32, go_sem, r0, r1, r2]) rfl ?_
        exact IsBkC.bad (fun _ => .inr ⟨HNO.out, rfl, rfl, rfl, rfl⟩) rfl HBZ.out
    · have HNO : Hid (¬ CloseGood teams closed n g month) := Lib.hid (fun h => hm h.2.1)
      have mb : (month != closed) = true := by simp [hm]
      clear hm
      go_wp2_with fail
      refine bodyPost_ret (v := .tuple #[.agg #[.int .i64 0, .slice none 0 0, .int .i64 0], .int .i64 270]) (by simp [results, Tryd.results32, go_sem, r0, r1, r2]) rfl ?_
      exact IsBkC.bad (fun _ => .inr ⟨HNO.out, rfl, rfl, rfl, rfl⟩) rfl HBZ.out
end Go.Proofs.YtcfplkbbgjiocaaDoor
