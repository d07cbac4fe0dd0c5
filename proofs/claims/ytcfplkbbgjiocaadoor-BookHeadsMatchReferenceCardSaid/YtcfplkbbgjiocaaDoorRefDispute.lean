/- The reference of chapter 27: Dispute. Conditions: a slice of at most 1000 postings that can be read; numbers of 64 bits. -/
import Derived.Test.YtcfplkbbgjiocaaDoorRefPost
import Derived.Test.YtcfplkbbgjiocaaDoorBookDispute
namespace Go.Proofs.YtcfplkbbgjiocaaDoor
open Go Go.RowKit Go.Shelf
theorem snocP_ok {teams closed : Int} {n : Nat} {g : Nat → Pst} {p : Pst} (h : PostGood teams closed n g p) : BookOk teams closed (n + 1) (snocP g n p) := bookOk_snoc.2 ⟨h.1, h.2.2⟩
/-- A posting in a box. -/
def PBox (W : World) (b : Nat) (p : Pst) : Prop := W.heap[b]? = some (.cells p.cells 27 (0, 0))
theorem PBox.lt {W : World} {b : Nat} {p : Pst} (h : PBox W b p) : b < W.heap.size := (Array.getElem?_eq_some_iff.1 h).1
theorem PBox.new (W : World) (p : Pst) : PBox (W.alloc (.cells p.cells 27)) W.heap.size p := World.alloc_heap_new W _
theorem PBox.below {W W' : World} {b : Nat} {p : Pst} (h : PBox W b p) (hb : Below W.heap.size W W') : PBox W' b p := (hb.block _ h.lt).trans h
theorem PBox.free {W : World} {b : Nat} {p : Pst} (h : PBox W b p) (i : Nat) : W.frozen? ⟨b, i, none⟩ = false := by
  unfold World.frozen?
  rw [show W.heap[b]? = _ from h]
  simp
theorem PBox.cells {W : World} {b : Nat} {p : Pst} (h : PBox W b p) : PCells W b 0 p := by
  refine pcells_of fun c hc => ?_
  unfold World.cell?
  simp only [Nat.zero_add]
  rw [show W.heap[b]? = _ from h]
  match c, hc with
  | 0, _ => rfl
  | 1, _ => rfl
  | 2, _ => rfl
  | 3, _ => rfl
  | 4, _ => rfl
  | 5, _ => rfl
  | 6, _ => rfl
theorem PBox.setDA {W : World} {b : Nat} {p : Pst} (h : PBox W b p) (day amount : Int) : PBox ((W.setCell ⟨b, 1, none⟩ (.int .i64 day)).setCell ⟨b, 4, none⟩ (.int .i64 amount)) b (newP p day amount) := heap_set (heap_set h _) _
theorem BkBox.two {W : World} {B : Nat} {t c : Int} {v : Value} (h : BkBox W B t v c) {b i j : Nat} (hne : B ≠ b) (u x : Value) : BkBox ((W.setCell ⟨b, i, none⟩ u).setCell ⟨b, j, none⟩ x) B t v c := (h.other hne u).other hne x
set_option maxRecDepth 100000 in
set_option maxHeartbeats 8000000 in
theorem ref_Dispute_any (teams closed i day amount : Int) (q : Option Addr) (n c : Nat) (g : Nat → Pst) (w : World) (hn : n ≤ 1000) (hr : ReadsP w q n g) :
    Calls Tryd.prog 31 #[.agg #[.int .i64 teams, .slice q n c, .int .i64 closed], .int .i64 i, .int .i64 day, .int .i64 amount] w (IsBkC w (DispSpec teams closed n g i day amount)) := by
  have hb1 := BkBox.new w teams closed (.slice q n c)
  have hal1 : Below w.heap.size w (w.alloc (.cells #[.int .i64 teams, .slice q n c, .int .i64 closed] 24)) := (Below.refl _ _).alloc (Nat.le_refl _) _
  obtain ⟨w1, hw1⟩ : ∃ w1, w.alloc (.cells #[.int .i64 teams, .slice q n c, .int .i64 closed] 24) = w1 := ⟨_, rfl⟩
  have hz1 : w1.heap.size = w.heap.size + 1 := by rw [← hw1, World.size_alloc]
  rw [hw1] at hb1 hal1
  have hal3 : Below w1.heap.size w1 (w1.alloc (.cells #[.int .i64 0, .slice none 0 0, .int .i64 0] 24)) := (Below.refl _ _).alloc (Nat.le_refl _) _
  have hr3 := BkBox.new w1 0 0 (.slice none 0 0)
  obtain ⟨w4, hw4⟩ : ∃ w4, w1.alloc (.cells #[.int .i64 0, .slice none 0 0, .int .i64 0] 24) = w4 := ⟨_, rfl⟩
  have hz4 : w4.heap.size = w.heap.size + 2 := by rw [← hw4, World.size_alloc, hz1]
  rw [hw4] at hal3 hr3
  rw [hz1] at hr3
  have hb3 := hb1.below hal3
  have hB3 : Below w.heap.size w w4 := hal1.trans (hal3.mono hal1.size)
  have hW : (w.alloc (.cells #[.int .i64 teams, .slice q n c, .int .i64 closed] 24)).alloc (.cells #[.int .i64 0, .slice none 0 0, .int .i64 0] 24) = w4 := by rw [hw1, hw4]
  have HW := Lib.hid hW
  have hr3' := hr.below hB3
  have HRD4 := Lib.hid hr3'
  have HB4 := Lib.hid hB3
  have HZ4 := Lib.hid hz4
  have HR4 := Lib.hid hr3
  have HBK4 := Lib.hid hb3
  obtain ⟨c0, c1, c2⟩ := hb3.cells
  clear hr hb1 hal1 hw1 hz1 hal3 hr3 hw4 hz4 hb3 hB3 hW hr3'
  go_enter Tryd.func31, Tryd.ntmps31
  go_upto_region 1 with fail
  obtain ⟨S, hS⟩ : ∃ S, w.heap.size = S := ⟨_, rfl⟩
  have HS := Lib.hid hS
  rw [hS] at HR4 HBK4 HZ4 c0 c1 c2
  rw [HW.out, hS]
  clear hS HW
  obtain ⟨r0, r1, r2⟩ := HR4.out.cells
  have f0 := HR4.out.free 0
  have f1 := HR4.out.free 1
  have f2 := HR4.out.free 2
  have HBF := Lib.hid (below_three HB4.out (b := S + 1) (by have := HS.out; omega) (.int .i64 0) (.slice none 0 0) (.int .i64 0))
  by_cases hi0 : 0 ≤ i
  · have e1 : decide (i < 0) = false := decide_eq_false (by omega)
    by_cases hin : i < n
    · have e2 : decide ((n : Int) ≤ i) = false := decide_eq_false (by omega)
      by_cases hw : within amount 0 1000000000
      · have d1 : decide (within amount 0 1000000000) = true := decide_eq_true hw
        have HAM := Lib.hid hw
        obtain ⟨j, rfl⟩ : ∃ j : Nat, i = (j : Int) := ⟨i.toNat, by omega⟩
        have hjn : j < n := by omega
        obtain ⟨bq, oq, rfl, hcs⟩ := HRD4.out j hjn
        obtain ⟨p0, p1, p2, p3, p4, p5, p6⟩ := pcells_of (hcs j hjn)
        have v0 : (0 : Int) ≤ (j : Int) := hi0
        have v1 : (j : Int) < (n : Int) := hin
        have e3 : decide (n ≤ j) = false := decide_eq_false (by omega)
        have hal5 : Below w4.heap.size w4 (w4.alloc (.cells (g j).cells 27)) := (Below.refl _ _).alloc (Nat.le_refl _) _
        have hp5 := PBox.new w4 (g j)
        obtain ⟨w5, hw5⟩ : ∃ w5, w4.alloc (.cells (g j).cells 27) = w5 := ⟨_, rfl⟩
        have hz5 : w5.heap.size = w4.heap.size + 1 := by rw [← hw5, World.size_alloc]
        rw [hw5] at hal5 hp5
        have hal6 : Below w5.heap.size w5 (w5.alloc (.cells (backP (g j) j day).cells 27)) := (Below.refl _ _).alloc (Nat.le_refl _) _
        have hp6 := PBox.new w5 (backP (g j) j day)
        obtain ⟨w6, hw6⟩ : ∃ w6, w5.alloc (.cells (backP (g j) j day).cells 27) = w6 := ⟨_, rfl⟩
        have hz6 : w6.heap.size = w4.heap.size + 2 := by rw [← hw6, World.size_alloc, hz5]
        rw [hw6] at hal6 hp6
        rw [hz5] at hp6
        have hq6 := hp5.below hal6
        have hb46 := hal5.trans (hal6.mono hal5.size)
        have HW6 := Lib.hid (show (w4.alloc (.cells #[.int .i64 (g j).kind, .int .i64 (g j).day, .int .i64 (g j).deb, .int .i64 (g j).cre, .int .i64 (g j).amt, .int .i64 (g j).sub, .int .i64 (g j).of] 27)).alloc (.cells #[.int .i64 2, .int .i64 day, .int .i64 (g j).cre, .int .i64 (g j).deb, .int .i64 (g j).amt, .int .i64 (g j).sub, .int .i64 j] 27) = w6 by rw [← hw6, ← hw5]; rfl)
        have HR6 := Lib.hid (HR4.out.below hb46)
        have HBK6 := Lib.hid (HBK4.out.below hb46)
        have HRD6 := Lib.hid (HRD4.out.below hb46)
        have HB6 := Lib.hid (HB4.out.trans (hb46.mono HB4.out.size))
        have HP6 := Lib.hid hp6
        have HQ6 := Lib.hid hq6
        have HZ6 := Lib.hid hz6
        clear hw hcs hi0 hin hal5 hp5 hw5 hz5 hal6 hp6 hw6 hz6 hq6 hb46
        go_upto_region 5 with (go_at_call 50; refine (in_any _ _ _ _).mono ?_; rintro e w1 ⟨rfl, rfl⟩)
        rw [HW6.out]
        clear HW6
        obtain ⟨Q, hQ⟩ : ∃ Q, w4.heap.size = Q := ⟨_, rfl⟩
        rw [hQ] at HZ6 HP6 HQ6
        rw [hQ]
        have HQ := Lib.hid hQ
        clear hQ c0 c1 c2 r0 r1 r2 f0 f1 f2 p0 p1 p2 p3 p4 p5 p6
        obtain ⟨c0, c1, c2⟩ := HBK6.out.cells
        obtain ⟨q0, q1, q2, q3, q4, q5, q6⟩ := HP6.out.cells
        have HPO := Lib.hid (ref_Post_any teams closed (some ⟨bq, oq, none⟩) n c g (backP (g j) j day) w6 hn HRD6.out)
        go_wp2_with fail
        refine HPO.out.mono ?_
        rintro e w7 ⟨t', c', q', k', kc, g', idx, er, rfl, hsp, hrd7, hq7, hcp7, hb7⟩
        have HCP7 := Lib.hid hcp7
        clear hcp7
        have hal8 : Below w7.heap.size w7 (w7.alloc (.cells #[.int .i64 t', .slice q' k' kc, .int .i64 c'] 24)) := (Below.refl _ _).alloc (Nat.le_refl _) _
        have ho8 := BkBox.new w7 t' c' (.slice q' k' kc)
        obtain ⟨w8, hw8⟩ : ∃ w8, w7.alloc (.cells #[.int .i64 t', .slice q' k' kc, .int .i64 c'] 24) = w8 := ⟨_, rfl⟩
        have hz8 : w8.heap.size = w7.heap.size + 1 := by rw [← hw8, World.size_alloc]
        rw [hw8] at hal8 ho8
        have hb78 := hb7.trans (hal8.mono hb7.size)
        have HR8 := Lib.hid (HR6.out.below hb78)
        have HQ8 := Lib.hid (HQ6.out.below hb78)
        have HRD8 := Lib.hid (hrd7.below hal8)
        have HB8 := Lib.hid (HB6.out.trans (hb78.mono HB6.out.size))
        have HO8 := Lib.hid ho8
        have HW8 := Lib.hid hw8
        have HZ8 := Lib.hid hz8
        have HS7 : Hid (Q + 2 ≤ w7.heap.size) := Lib.hid (by have := HZ6.out; have := hb7.size; omega)
        have HQ7 : Hid (∀ a, q' = some a → Q + 2 ≤ a.block) := Lib.hid (fun a h => by have := hq7 a h; have := HZ6.out; omega)
        have HSP := Lib.hid hsp
        clear c0 c1 c2 q0 q1 q2 q3 q4 q5 q6 hsp hrd7 hq7 hb7 hal8 ho8 hw8 hb78 hz8
        go_upto_region 6 with fail
        rw [HW8.out]
        obtain ⟨T, hT⟩ : ∃ T, w7.heap.size = T := ⟨_, rfl⟩
        rw [hT] at HO8 HZ8 HS7
        rw [hT]
        have HT := Lib.hid hT
        clear hT HW8
        obtain ⟨o0, o1, o2⟩ := HO8.out.cells
        obtain ⟨r0, r1, r2⟩ := HR8.out.cells
        have f0 := HR8.out.free 0
        have f1 := HR8.out.free 1
        have f2 := HR8.out.free 2
        have HS1 : Hid (S + 2 ≤ Q) := Lib.hid (by have := HZ4.out; have := HQ.out; omega)
        by_cases hg : PostGood teams closed n g (backP (g j) j day)
        · have hx : er = 0 ∧ k' = n + 1 ∧ t' = teams ∧ c' = closed ∧ ∀ i, i < n + 1 → g' i = snocP g n (backP (g j) j day) i := by
            rcases HSP.out with h | h
            · exact ⟨h.2.1, h.2.2.2.1, h.2.2.2.2.1, h.2.2.2.2.2.1, h.2.2.2.2.2.2⟩
            · exact absurd hg h.1
          obtain ⟨rfl, rfl, rfl, rfl, hge⟩ := hx
          have HG1 := Lib.hid hg
          have HRD9 := Lib.hid (HRD8.out.congr hge)
          clear hg hge HSP
          by_cases ha : amount = 0
          · have a1 : (amount == 0) = true := by simp [ha]
            have HA := Lib.hid ha
            have HG : Hid (DispGood t' c' n g (j : Int) day amount) := Lib.hid ⟨HG1.out.1, ⟨by omega, by omega⟩, HAM.out, HG1.out.2.1, HG1.out.2.2, fun h => by omega⟩
            have HRDF := Lib.hid (readsP_three HRD9.out (b := S + 1) (fun a h => by have := HQ7.out a h; have := HS1.out; omega) (.int .i64 t') (.slice q' (n + 1) kc) (.int .i64 c'))
            have HBZ := Lib.hid (below_three HB8.out (b := S + 1) (by have := HS.out; omega) (.int .i64 t') (.slice q' (n + 1) kc) (.int .i64 c'))
            have HPB : Hid (∀ a, q' = some a → w.heap.size ≤ a.block) := Lib.hid (fun a h => by have := HQ7.out a h; have := HS.out; have := HS1.out; omega)
            clear ha
            go_wp2_with fail
            refine bodyPost_ret (v := .tuple #[.agg #[.int .i64 t', .slice q' (n + 1) kc, .int .i64 c'], .int .i64 0]) (by simp [results, Tryd.results31, go_sem, r0, r1, r2]) rfl ?_
            exact ⟨t', c', q', n + 1, kc, snocP g n (backP (g j) j day), 0, rfl, .inl ⟨HG.out, rfl, rfl, rfl, fun h => (by have := HA.out; omega), fun _ => ⟨rfl, fun _ _ => rfl⟩⟩, HRDF.out, HPB.out, HCP7.out, HBZ.out⟩
          · have a1 : (amount == 0) = false := by simp [ha]
            have HPOS : Hid (0 < amount) := Lib.hid (by have := HAM.out.1; omega)
            have k1 := HQ8.out.free 1
            have k4 := HQ8.out.free 4
            have hQ10 := HQ8.out.setDA day amount
            have hR10 := HR8.out.two (b := Q) (i := 1) (j := 4) (by have := HS1.out; omega) (.int .i64 day) (.int .i64 amount)
            have hO10 := HO8.out.two (b := Q) (i := 1) (j := 4) (by have := HS7.out; omega) (.int .i64 day) (.int .i64 amount)
            have hRD10 := readsP_far (readsP_far HRD9.out (b := Q) (fun a h => by have := HQ7.out a h; omega) 1 (.int .i64 day)) (b := Q) (fun a h => by have := HQ7.out a h; omega) 4 (.int .i64 amount)
            have hB10 := Below_set (Below_set HB8.out (b := Q) (i := 1) (by have := HS1.out; have := HS.out; omega) (.int .i64 day)) (b := Q) (i := 4) (by have := HS1.out; have := HS.out; omega) (.int .i64 amount)
            have hz10 : T + 1 ≤ ((w8.setCell ⟨Q, 1, none⟩ (.int .i64 day)).setCell ⟨Q, 4, none⟩ (.int .i64 amount)).heap.size := by have := (KeepsWalks.setCell w8 ⟨Q, 1, none⟩ (.int .i64 day)).size; have := (KeepsWalks.setCell (w8.setCell ⟨Q, 1, none⟩ (.int .i64 day)) ⟨Q, 4, none⟩ (.int .i64 amount)).size; have := HZ8.out; omega
            have HR10 := Lib.hid hR10
            have HO10 := Lib.hid hO10
            have HB10 := Lib.hid hB10
            have HZ10 := Lib.hid hz10
            have HRD10 := Lib.hid hRD10
            obtain ⟨q0, q1, q2, q3, q4, q5, q6⟩ := hQ10.cells
            clear o0 o1 o2 r0 r1 r2 f0 f1 f2 hQ10 hR10 hRD10 hB10 hz10 ha
            obtain ⟨o0, o1, o2⟩ := hO10.cells
            obtain ⟨y0, y1, y2, y3, y4, y5, y6⟩ := HQ8.out.cells
            clear hO10
            go_wp2_with fail
            clear o0 o1 o2 q0 q1 q2 q3 q4 q5 q6 k1 k4 y0 y1 y2 y3 y4 y5 y6
            obtain ⟨wx, hwx⟩ : ∃ wx, (w8.setCell ⟨Q, 1, none⟩ (.int .i64 day)).setCell ⟨Q, 4, none⟩ (.int .i64 amount) = wx := ⟨_, rfl⟩
            rw [hwx] at HR10 HO10 HB10 HZ10 HRD10 ⊢
            have HPO2 := Lib.hid (ref_Post_any t' c' q' (n + 1) kc (snocP g n (backP (g j) j day)) (newP (g j) day amount) wx (by have := HG1.out.1.small; omega) HRD10.out)
            clear hwx
            refine HPO2.out.mono ?_
            rintro e w11 ⟨t2, c2, q2', k2, kc2, g2, idx2, er2, rfl, hsp2, hrd11, hq11, hcp11, hb11⟩
            have HCP11 := Lib.hid hcp11
            clear hcp11
            have hR11 := HR10.out.below hb11
            have hO11 := HO10.out.below hb11
            have hB11 := HB10.out.trans (hb11.mono HB10.out.size)
            have hq12 : ∀ a, q2' = some a → T + 1 ≤ a.block := fun a h => by have := hq11 a h; have := HZ10.out; omega
            have hST : S + 1 ≠ T := by have := HS1.out; have := HS7.out; omega
            have HBZ := Lib.hid (below_three (below_three hB11 (b := T) (by have := HS1.out; have := HS7.out; have := HS.out; omega) (.int .i64 t2) (.slice q2' k2 kc2) (.int .i64 c2)) (b := S + 1) (by have := HS.out; omega) (.int .i64 t2) (.slice q2' k2 kc2) (.int .i64 c2))
            have HRDF := Lib.hid (readsP_three (readsP_three hrd11 (b := T) (fun a h => by have := hq12 a h; omega) (.int .i64 t2) (.slice q2' k2 kc2) (.int .i64 c2)) (b := S + 1) (fun a h => by have := hq12 a h; have := HS1.out; have := HS7.out; omega) (.int .i64 t2) (.slice q2' k2 kc2) (.int .i64 c2))
            have HPB : Hid (∀ a, q2' = some a → w.heap.size ≤ a.block) := Lib.hid (fun a h => by have := hq12 a h; have := HS.out; have := HS1.out; have := HS7.out; omega)
            have hRb := ((hR11.other (b := T) (i := 0) hST (.int .i64 t2)).other (b := T) (i := 1) hST (.slice q2' k2 kc2)).other (b := T) (i := 2) hST (.int .i64 c2)
            have HRB := Lib.hid hRb
            obtain ⟨o0, o1, o2⟩ := hO11.cells
            have g0 := hO11.free 0
            have g1 := hO11.free 1
            have g2' := hO11.free 2
            have HSP2 := Lib.hid hsp2
            clear hR11 hO11 hB11 hq12 hrd11 hq11 hb11 hsp2 hRb
            obtain ⟨r0, r1, r2⟩ := HRB.out.cells
            have f0 := HRB.out.free 0
            have f1 := HRB.out.free 1
            have f2 := HRB.out.free 2
            by_cases hg : PostGood t' c' (n + 1) (snocP g n (backP (g j) j day)) (newP (g j) day amount)
            · have hx : er2 = 0 ∧ k2 = n + 1 + 1 ∧ t2 = t' ∧ c2 = c' ∧ ∀ i, i < n + 1 + 1 → g2 i = snocP (snocP g n (backP (g j) j day)) (n + 1) (newP (g j) day amount) i := by
                rcases HSP2.out with h | h
                · exact ⟨h.2.1, h.2.2.2.1, h.2.2.2.2.1, h.2.2.2.2.2.1, h.2.2.2.2.2.2⟩
                · exact absurd hg h.1
              obtain ⟨rfl, rfl, rfl, rfl, hge⟩ := hx
              have HGE := Lib.hid hge
              have HG : Hid (DispGood t2 c2 n g (j : Int) day amount) := Lib.hid ⟨HG1.out.1, ⟨by omega, by omega⟩, HAM.out, HG1.out.2.1, HG1.out.2.2, fun _ => hg.2.2⟩
              clear hg hge HSP2
              go_wp2_with fail
              refine bodyPost_ret (v := .tuple #[.agg #[.int .i64 t2, .slice q2' (n + 1 + 1) kc2, .int .i64 c2], .int .i64 0]) (by simp [results, Tryd.results31, go_sem, r0, r1, r2]) rfl ?_
              exact ⟨t2, c2, q2', n + 1 + 1, kc2, g2, 0, rfl, .inl ⟨HG.out, rfl, rfl, rfl, fun _ => ⟨rfl, HGE.out⟩, fun h => absurd HPOS.out h⟩, HRDF.out, HPB.out, HCP11.out, HBZ.out⟩
            · have hx : er2 = 270 ∧ k2 = 0 ∧ t2 = 0 ∧ c2 = 0 := by
                rcases HSP2.out with h | h
                · exact absurd h.1 hg
                · exact ⟨h.2.1, h.2.2.2.1, h.2.2.2.2.1, h.2.2.2.2.2⟩
              obtain ⟨rfl, rfl, rfl, rfl⟩ := hx
              have HNO : Hid (¬ DispGood t' c' n g (j : Int) day amount) := Lib.hid (fun h => hg ⟨snocP_ok HG1.out, h.2.2.2.1, h.2.2.2.2.2 HPOS.out⟩)
              clear hg HSP2
              go_wp2_with fail
              refine bodyPost_ret (v := .tuple #[.agg #[.int .i64 0, .slice q2' 0 kc2, .int .i64 0], .int .i64 270]) (by simp [results, Tryd.results31, go_sem, r0, r1, r2]) rfl ?_
              exact ⟨0, 0, q2', 0, kc2, g2, 270, rfl, .inr ⟨HNO.out, rfl, rfl, rfl, rfl⟩, HRDF.out, HPB.out, HCP11.out, HBZ.out⟩
        · have hx : er = 270 ∧ k' = 0 ∧ t' = 0 ∧ c' = 0 := by
            rcases HSP.out with h | h
            · exact absurd h.1 hg
            · exact ⟨h.2.1, h.2.2.2.1, h.2.2.2.2.1, h.2.2.2.2.2⟩
          obtain ⟨rfl, rfl, rfl, rfl⟩ := hx
          have HNO : Hid (¬ DispGood teams closed n g (j : Int) day amount) := Lib.hid (fun h => hg ⟨h.1, h.2.2.2.1, h.2.2.2.2.1⟩)
          have HRDF := Lib.hid (readsP_three HRD8.out (b := S + 1) (fun a h => by have := HQ7.out a h; have := HS1.out; omega) (.int .i64 0) (.slice q' 0 kc) (.int .i64 0))
          have HBZ := Lib.hid (below_three HB8.out (b := S + 1) (by have := HS.out; omega) (.int .i64 0) (.slice q' 0 kc) (.int .i64 0))
          have HPB : Hid (∀ a, q' = some a → w.heap.size ≤ a.block) := Lib.hid (fun a h => by have := HQ7.out a h; have := HS.out; have := HS1.out; omega)
          clear hg HSP
          go_wp2_with fail
          refine bodyPost_ret (v := .tuple #[.agg #[.int .i64 0, .slice q' 0 kc, .int .i64 0], .int .i64 270]) (by simp [results, Tryd.results31, go_sem, r0, r1, r2]) rfl ?_
          exact ⟨0, 0, q', 0, kc, g', 270, rfl, .inr ⟨HNO.out, rfl, rfl, rfl, rfl⟩, HRDF.out, HPB.out, HCP7.out, HBZ.out⟩
      · have d1 : decide (within amount 0 1000000000) = false := decide_eq_false hw
        have HNO : Hid (¬ DispGood teams closed n g i day amount) := Lib.hid (fun h => hw h.2.2.1)
        clear hw
        go_wp2_with (go_at_call 50; refine (in_any _ _ _ _).mono ?_; rintro e w1 ⟨rfl, rfl⟩)
        refine bodyPost_ret (v := .tuple #[.agg #[.int .i64 0, .slice none 0 0, .int .i64 0], .int .i64 270]) (by simp [results, Tryd.results31, go_sem, r0, r1, r2]) rfl ?_
        exact IsBkC.bad (fun _ => .inr ⟨HNO.out, rfl, rfl, rfl, rfl⟩) rfl HBF.out
    · have e2 : decide ((n : Int) ≤ i) = true := decide_eq_true (by omega)
      have HNO : Hid (¬ DispGood teams closed n g i day amount) := Lib.hid (fun h => hin h.2.1.2)
      clear hin
      go_wp2_with fail
      refine bodyPost_ret (v := .tuple #[.agg #[.int .i64 0, .slice none 0 0, .int .i64 0], .int .i64 270]) (by simp [results, Tryd.results31, go_sem, r0, r1, r2]) rfl ?_
      exact IsBkC.bad (fun _ => .inr ⟨HNO.out, rfl, rfl, rfl, rfl⟩) rfl HBF.out
  · have e1 : decide (i < 0) = true := decide_eq_true (by omega)
    have HNO : Hid (¬ DispGood teams closed n g i day amount) := Lib.hid (fun h => hi0 h.2.1.1)
    clear hi0
    go_wp2_with fail
    refine bodyPost_ret (v := .tuple #[.agg #[.int .i64 0, .slice none 0 0, .int .i64 0], .int .i64 270]) (by simp [results, Tryd.results31, go_sem, r0, r1, r2]) rfl ?_
    exact IsBkC.bad (fun _ => .inr ⟨HNO.out, rfl, rfl, rfl, rfl⟩) rfl HBF.out
end Go.Proofs.YtcfplkbbgjiocaaDoor
