/- Chapter 27: sane says true. No condition. -/
import Derived.Test.YtcfplkbbgjiocaaDoorBookMade
import Derived.Test.YtcfplkbbgjiocaaDoorBookSame
namespace Go.Proofs.YtcfplkbbgjiocaaDoor
open Go Go.RowKit Go.Shelf
instance (g : Nat → Pst) (n : Nat) (bk : Nat → Bool) (top : Int) (p : Pst) : Decidable (TakesOk g n bk top p) := by unfold TakesOk; infer_instance
instance (teams closed : Int) (n : Nat) (g : Nat → Pst) : Decidable (BookOk teams closed n g) := by unfold BookOk; infer_instance
instance (teams closed : Int) (n : Nat) (g : Nat → Pst) (p : Pst) : Decidable (PostGood teams closed n g p) := by unfold PostGood; infer_instance
instance (teams closed : Int) (n : Nat) (g : Nat → Pst) (i day amount : Int) : Decidable (DispGood teams closed n g i day amount) := by unfold DispGood; infer_instance
instance (teams closed : Int) (n : Nat) (g : Nat → Pst) (m : Int) : Decidable (StatGood teams closed n g m) := by unfold StatGood; infer_instance
instance (teams closed : Int) (n : Nat) (g : Nat → Pst) (m : Int) : Decidable (OwedGood teams closed n g m) := by unfold OwedGood; infer_instance
instance (teams closed : Int) (n : Nat) (g : Nat → Pst) (t m : Int) : Decidable (BalGood teams closed n g t m) := by unfold BalGood; infer_instance
instance (teams closed : Int) (n : Nat) (g : Nat → Pst) (m : Int) : Decidable (CloseGood teams closed n g m) := by unfold CloseGood; infer_instance
def zP : Pst := ⟨0, 0, 0, 0, 0, 0, 0⟩
def sP1 : Pst := ⟨1, 5, 0, 1, 90, 7, -1⟩
def sG1 : Nat → Pst := snocP (fun _ => zP) 0 sP1
def sG3 : Nat → Pst := snocP (snocP sG1 1 (backP (sG1 0) 0 40)) 2 (newP (sG1 0) 40 60)
theorem s_post : PostGood 3 0 0 (fun _ => zP) sP1 := by decide +kernel
theorem s_stat1 : StatGood 3 0 1 sG1 0 := by decide +kernel
theorem s_disp : DispGood 3 0 1 sG1 0 40 60 := by decide +kernel
theorem s_stat3 : StatGood 3 0 3 sG3 0 := by decide +kernel
theorem s_stat31 : StatGood 3 0 3 sG3 1 := by decide +kernel
theorem s_owed : OwedGood 3 0 3 sG3 7 := by decide +kernel
theorem s_disp_no : ¬ DispGood 3 0 3 sG3 0 50 1 := by decide +kernel
theorem s_post_no : ¬ PostGood 3 0 3 sG3 ⟨1, 39, 0, 1, 1, 0, -1⟩ := by decide +kernel
theorem s_close : CloseGood 3 0 3 sG3 0 := by decide +kernel
theorem s_bal : BalGood 3 0 3 sG3 1 1 := by decide +kernel
theorem s_ok3 : BookOk 3 1 3 sG3 := by decide +kernel
theorem s_nok : ¬ BookOk 0 0 0 (fun _ => zP) := by decide +kernel
theorem s_v : balF sG1 0 0 1 = -90 ∧ balF sG1 0 1 1 = 90 ∧ balF sG1 0 2 1 = 0 ∧ balF sG3 0 0 3 = -90 ∧ balF sG3 0 1 3 = 90 ∧ balF sG3 0 2 3 = 0 ∧ balF sG3 1 0 3 = 30 ∧ balF sG3 1 1 3 = -30 ∧ balF sG3 1 2 3 = 0 := by decide +kernel
theorem s_o : sumD (owedD sG3 3 7) sG3 0 3 = -60 ∧ sumD (owedD sG3 3 7) sG3 1 3 = 60 ∧ sumD (owedD sG3 3 7) sG3 2 3 = 0 := by decide +kernel
theorem reads3 (W : World) (a b c : Int) : ReadsI (W.alloc (.cells #[.int .i64 a, .int .i64 b, .int .i64 c] 3)) (some ⟨W.heap.size, 0, none⟩) 3 (fun i => if i = 0 then a else if i = 1 then b else c) := fun i hi => ⟨_, 0, rfl, fun j hj => by
  have h := World.alloc_heap_new W (.cells #[.int .i64 a, .int .i64 b, .int .i64 c] 3)
  unfold World.cell?
  rw [Nat.zero_add, h]
  rcases (show j = 0 ∨ j = 1 ∨ j = 2 by omega) with rfl | rfl | rfl <;> rfl⟩
/-- The reading of three numbers. -/
def tri (a b c : Int) : Nat → Int := fun i => if i = 0 then a else if i = 1 then b else c
theorem stat_tri {closed month : Int} {n k : Nat} {g : Nat → Pst} {f : Nat → Int} {er a b c : Int} (h : StatSpec 3 closed n g month k f er) (hg : StatGood 3 closed n g month) (ha : balF g month 0 n = a) (hb : balF g month 1 n = b) (hc : balF g month 2 n = c) : er = 0 ∧ k = 3 ∧ ∀ i, i < 3 → f i = tri a b c i := by
  rcases h with ⟨_, h1, h2, h3⟩ | ⟨hno, _⟩
  · obtain rfl : k = 3 := by omega
    refine ⟨h1, rfl, fun i hi => ?_⟩
    rw [h3 i hi]
    rcases (show i = 0 ∨ i = 1 ∨ i = 2 by omega) with rfl | rfl | rfl
    · exact ha
    · exact hb
    · exact hc
  · exact absurd hg hno
theorem owed_tri {closed sub : Int} {n k : Nat} {g : Nat → Pst} {f : Nat → Int} {er a b c : Int} (h : OwedSpec 3 closed n g sub k f er) (hg : OwedGood 3 closed n g sub) (ha : sumD (owedD g n sub) g 0 n = a) (hb : sumD (owedD g n sub) g 1 n = b) (hc : sumD (owedD g n sub) g 2 n = c) : er = 0 ∧ k = 3 ∧ ∀ i, i < 3 → f i = tri a b c i := by
  rcases h with ⟨_, h1, h2, h3⟩ | ⟨hno, _⟩
  · obtain rfl : k = 3 := by omega
    refine ⟨h1, rfl, fun i hi => ?_⟩
    rw [h3 i hi]
    rcases (show i = 0 ∨ i = 1 ∨ i = 2 by omega) with rfl | rfl | rfl
    · exact ha
    · exact hb
    · exact hc
  · exact absurd hg hno
theorem ReadsI.congr {W : World} {p : Option Addr} {n : Nat} {f g : Nat → Int} (h : ReadsI W p n f) (e : ∀ i, i < n → f i = g i) : ReadsI W p n g := fun i hi => by
  obtain ⟨b, off, hp, hc⟩ := h i hi
  exact ⟨b, off, hp, fun j hj => by rw [hc j hj, e j hj]⟩
set_option maxRecDepth 100000 in
set_option maxHeartbeats 8000000 in
theorem sane_any (w : World) : Calls Tryd.prog 5 #[] w fun e w' => e = .returned (.bool true) ∧ Below w.heap.size w w' := by
  go_enter Tryd.func5, Tryd.ntmps5
  go_wp2_with fail
  refine (Post_any 3 0 none 0 0 (fun _ => zP) sP1 w (by decide) (fun i hi => by omega)).mono ?_
  rintro e w1 ⟨t1, c1, q1, k1, kc1, g1, idx, er, rfl, hsp, hrd1, hq1, hb1⟩
  have hx : er = 0 ∧ idx = 0 ∧ k1 = 1 ∧ t1 = 3 ∧ c1 = 0 ∧ ∀ i, i < 1 → g1 i = sG1 i := by
    rcases hsp with ⟨_, h1, h2, h3, h4, h5, h6⟩ | ⟨hno, _⟩
    · exact ⟨h1, h2, h3, h4, h5, h6⟩
    · exact absurd s_post hno
  obtain ⟨rfl, rfl, rfl, rfl, rfl, hge⟩ := hx
  replace hrd1 := hrd1.congr hge
  clear hsp hge hq1
  have hal2 : Below w1.heap.size w1 (w1.alloc (.cells #[.int .i64 3, .slice q1 1 kc1, .int .i64 0] 24)) := (Below.refl _ _).alloc (Nat.le_refl _) _
  have hx2 := BkBox.new w1 3 0 (.slice q1 1 kc1)
  obtain ⟨w2, hw2⟩ : ∃ w2, w1.alloc (.cells #[.int .i64 3, .slice q1 1 kc1, .int .i64 0] 24) = w2 := ⟨_, rfl⟩
  have HW2 := Lib.hid hw2
  rw [hw2] at hal2 hx2
  have HB2 := Lib.hid (hb1.trans (hal2.mono hb1.size))
  have HX2 := Lib.hid hx2
  have HR2 := Lib.hid (hrd1.below hal2)
  clear hb1 hrd1 hal2 hx2 hw2
  go_upto_region 2 with fail
  rw [HW2.out]
  obtain ⟨A, hA⟩ : ∃ A, w1.heap.size = A := ⟨_, rfl⟩
  rw [hA] at HX2
  rw [hA]
  clear HW2 hA
  obtain ⟨a0, a1, a2⟩ := HX2.out.cells
  go_wp2_with fail
  refine (Statement_any 3 0 0 q1 1 kc1 sG1 w2 (by decide) HR2.out).mono ?_
  rintro e w3 ⟨p3, k3, kc3, f3, er3, rfl, hsp, hrd3, _, hb3⟩
  obtain ⟨rfl, rfl, hf3⟩ := stat_tri hsp s_stat1 s_v.1 s_v.2.1 s_v.2.2.1
  have HI3 := Lib.hid (hrd3.congr hf3)
  have HB3 := Lib.hid (HB2.out.trans (hb3.mono HB2.out.size))
  have HX3 := Lib.hid (HX2.out.below hb3)
  have HR3 := Lib.hid (HR2.out.below hb3)
  clear hsp hrd3 hb3 hf3 a0 a1 a2
  obtain ⟨a0, a1, a2⟩ := HX3.out.cells
  go_wp2_with fail
  refine (Dispute_any 3 0 0 40 60 q1 1 kc1 sG1 w3 (by decide) HR3.out).mono ?_
  rintro e w4 ⟨t4, c4, q4, k4, kc4, g4, er4, rfl, hsp, hrd4, hq4, hb4⟩
  have hx : er4 = 0 ∧ t4 = 3 ∧ c4 = 0 ∧ k4 = 3 ∧ ∀ i, i < 3 → g4 i = sG3 i := by
    rcases hsp with ⟨_, h1, h2, h3, h4, _⟩ | ⟨hno, _⟩
    · exact ⟨h1, h2, h3, (h4 (by decide)).1, (h4 (by decide)).2⟩
    · exact absurd s_disp hno
  obtain ⟨rfl, rfl, rfl, rfl, hge⟩ := hx
  replace hrd4 := hrd4.congr hge
  have hal5 : Below w4.heap.size w4 (w4.alloc (.cells #[.int .i64 3, .slice q4 3 kc4, .int .i64 0] 24)) := (Below.refl _ _).alloc (Nat.le_refl _) _
  have hx5 := BkBox.new w4 3 0 (.slice q4 3 kc4)
  obtain ⟨w5, hw5⟩ : ∃ w5, w4.alloc (.cells #[.int .i64 3, .slice q4 3 kc4, .int .i64 0] 24) = w5 := ⟨_, rfl⟩
  have HW5 := Lib.hid hw5
  rw [hw5] at hal5 hx5
  have hb5 := hb4.trans (hal5.mono hb4.size)
  have HB5 := Lib.hid (HB3.out.trans (hb5.mono HB3.out.size))
  have HX5 := Lib.hid hx5
  have HR5 := Lib.hid (hrd4.below hal5)
  have HI5 := Lib.hid (HI3.out.below hb5)
  clear hsp hge hq4 hb4 hrd4 hal5 hx5 hw5 hb5 a0 a1 a2
  go_upto_region 4 with fail
  rw [HW5.out]
  obtain ⟨C, hC⟩ : ∃ C, w4.heap.size = C := ⟨_, rfl⟩
  rw [hC] at HX5
  rw [hC]
  clear HW5 hC
  obtain ⟨a0, a1, a2⟩ := HX5.out.cells
  go_wp2_with fail
  refine (Statement_any 3 0 0 q4 3 kc4 sG3 w5 (by decide) HR5.out).mono ?_
  rintro e w6 ⟨p6, k6, kc6, f6, er6, rfl, hsp, hrd6, _, hb6⟩
  obtain ⟨rfl, rfl, hf6⟩ := stat_tri hsp s_stat3 s_v.2.2.2.1 s_v.2.2.2.2.1 s_v.2.2.2.2.2.1
  have HJ6 := Lib.hid (hrd6.congr hf6)
  have HB6 := Lib.hid (HB5.out.trans (hb6.mono HB5.out.size))
  have HX6 := Lib.hid (HX5.out.below hb6)
  have HR6 := Lib.hid (HR5.out.below hb6)
  have HI6 := Lib.hid (HI5.out.below hb6)
  clear hsp hrd6 hb6 hf6 a0 a1 a2
  obtain ⟨a0, a1, a2⟩ := HX6.out.cells
  go_wp2_with fail
  refine (Statement_any 3 0 1 q4 3 kc4 sG3 w6 (by decide) HR6.out).mono ?_
  rintro e w7 ⟨p7, k7, kc7, f7, er7, rfl, hsp, hrd7, _, hb7⟩
  obtain ⟨rfl, rfl, hf7⟩ := stat_tri hsp s_stat31 s_v.2.2.2.2.2.2.1 s_v.2.2.2.2.2.2.2.1 s_v.2.2.2.2.2.2.2.2
  have HK7 := Lib.hid (hrd7.congr hf7)
  have HB7 := Lib.hid (HB6.out.trans (hb7.mono HB6.out.size))
  have HX7 := Lib.hid (HX6.out.below hb7)
  have HR7 := Lib.hid (HR6.out.below hb7)
  have HI7 := Lib.hid (HI6.out.below hb7)
  have HJ7 := Lib.hid (HJ6.out.below hb7)
  clear hsp hrd7 hb7 hf7 a0 a1 a2
  obtain ⟨a0, a1, a2⟩ := HX7.out.cells
  go_wp2_with fail
  refine (Owed_any 3 0 7 q4 3 kc4 sG3 w7 (by decide) HR7.out).mono ?_
  rintro e w8 ⟨p8, k8, kc8, f8, er8, rfl, hsp, hrd8, _, hb8⟩
  obtain ⟨rfl, rfl, hf8⟩ := owed_tri hsp s_owed s_o.1 s_o.2.1 s_o.2.2
  have HL8 := Lib.hid (hrd8.congr hf8)
  have HB8 := Lib.hid (HB7.out.trans (hb8.mono HB7.out.size))
  have HX8 := Lib.hid (HX7.out.below hb8)
  have HR8 := Lib.hid (HR7.out.below hb8)
  have HI8 := Lib.hid (HI7.out.below hb8)
  have HJ8 := Lib.hid (HJ7.out.below hb8)
  have HK8 := Lib.hid (HK7.out.below hb8)
  clear hsp hrd8 hb8 hf8 a0 a1 a2
  obtain ⟨a0, a1, a2⟩ := HX8.out.cells
  go_wp2_with fail
  refine (Dispute_any 3 0 0 50 1 q4 3 kc4 sG3 w8 (by decide) HR8.out).mono ?_
  rintro e w9 ⟨t9, c9, q9, k9, kc9, g9, er9, rfl, hsp, _, _, hb9⟩
  have hx : er9 = 270 := by
    rcases hsp with ⟨h, _⟩ | ⟨_, h, _⟩
    · exact absurd h s_disp_no
    · exact h
  subst hx
  have hb10 := hb9.trans ((Below.refl w9.heap.size w9).alloc (Nat.le_refl _) (.cells #[.int .i64 t9, .slice q9 k9 kc9, .int .i64 c9] 24) |>.mono hb9.size)
  obtain ⟨w10, hw10⟩ : ∃ w10, w9.alloc (.cells #[.int .i64 t9, .slice q9 k9 kc9, .int .i64 c9] 24) = w10 := ⟨_, rfl⟩
  have HW10 := Lib.hid hw10
  rw [hw10] at hb10
  have HB10 := Lib.hid (HB8.out.trans (hb10.mono HB8.out.size))
  have HX10 := Lib.hid (HX8.out.below hb10)
  have HR10 := Lib.hid (HR8.out.below hb10)
  have HI10 := Lib.hid (HI8.out.below hb10)
  have HJ10 := Lib.hid (HJ8.out.below hb10)
  have HK10 := Lib.hid (HK8.out.below hb10)
  have HL10 := Lib.hid (HL8.out.below hb10)
  clear hsp hb9 hb10 hw10 a0 a1 a2
  go_upto_region 8 with fail
  rw [HW10.out]
  clear HW10
  obtain ⟨a0, a1, a2⟩ := HX10.out.cells
  go_wp2_with fail
  refine (Post_any 3 0 q4 3 kc4 sG3 ⟨1, 39, 0, 1, 1, 0, -1⟩ w10 (by decide) HR10.out).mono ?_
  rintro e w11 ⟨t11, c11, q11, k11, kc11, g11, i11, er11, rfl, hsp, _, _, hb11⟩
  have hx : er11 = 270 := by
    rcases hsp with ⟨h, _⟩ | ⟨_, h, _⟩
    · exact absurd h s_post_no
    · exact h
  subst hx
  have hb12 := hb11.trans ((Below.refl w11.heap.size w11).alloc (Nat.le_refl _) (.cells #[.int .i64 t11, .slice q11 k11 kc11, .int .i64 c11] 24) |>.mono hb11.size)
  obtain ⟨w12, hw12⟩ : ∃ w12, w11.alloc (.cells #[.int .i64 t11, .slice q11 k11 kc11, .int .i64 c11] 24) = w12 := ⟨_, rfl⟩
  have HW12 := Lib.hid hw12
  rw [hw12] at hb12
  have HB12 := Lib.hid (HB10.out.trans (hb12.mono HB10.out.size))
  have HX12 := Lib.hid (HX10.out.below hb12)
  have HR12 := Lib.hid (HR10.out.below hb12)
  have HI12 := Lib.hid (HI10.out.below hb12)
  have HJ12 := Lib.hid (HJ10.out.below hb12)
  have HK12 := Lib.hid (HK10.out.below hb12)
  have HL12 := Lib.hid (HL10.out.below hb12)
  clear hsp hb11 hb12 hw12 a0 a1 a2
  go_upto_region 9 with fail
  rw [HW12.out]
  clear HW12
  obtain ⟨a0, a1, a2⟩ := HX12.out.cells
  go_wp2_with fail
  refine (Close_any 3 0 0 q4 3 kc4 sG3 w12 (by decide) HR12.out).mono ?_
  rintro e w13 ⟨t13, c13, q13, k13, kc13, g13, er13, rfl, hsp, hrd13, _, hb13⟩
  have hx : er13 = 0 ∧ k13 = 3 ∧ t13 = 3 ∧ c13 = 1 ∧ ∀ i, i < 3 → g13 i = sG3 i := by
    rcases hsp with ⟨_, h1, h2, h3, h4, h5⟩ | ⟨hno, _⟩
    · exact ⟨h1, h2, h3, h4, h5⟩
    · exact absurd s_close hno
  obtain ⟨rfl, rfl, rfl, rfl, hge⟩ := hx
  replace hrd13 := hrd13.congr hge
  have hal14 : Below w13.heap.size w13 (w13.alloc (.cells #[.int .i64 3, .slice q13 3 kc13, .int .i64 1] 24)) := (Below.refl _ _).alloc (Nat.le_refl _) _
  have hx14 := BkBox.new w13 3 1 (.slice q13 3 kc13)
  obtain ⟨w14, hw14⟩ : ∃ w14, w13.alloc (.cells #[.int .i64 3, .slice q13 3 kc13, .int .i64 1] 24) = w14 := ⟨_, rfl⟩
  have HW14 := Lib.hid hw14
  rw [hw14] at hal14 hx14
  have hb14 := hb13.trans (hal14.mono hb13.size)
  have HB14 := Lib.hid (HB12.out.trans (hb14.mono HB12.out.size))
  have HY14 := Lib.hid hx14
  have HS14 := Lib.hid (hrd13.below hal14)
  have HX14 := Lib.hid (HX12.out.below hb14)
  have HR14 := Lib.hid (HR12.out.below hb14)
  have HI14 := Lib.hid (HI12.out.below hb14)
  have HJ14 := Lib.hid (HJ12.out.below hb14)
  have HK14 := Lib.hid (HK12.out.below hb14)
  have HL14 := Lib.hid (HL12.out.below hb14)
  clear hsp hge hb13 hrd13 hal14 hx14 hw14 hb14 a0 a1 a2
  go_upto_region 10 with fail
  rw [HW14.out]
  obtain ⟨D, hD⟩ : ∃ D, w13.heap.size = D := ⟨_, rfl⟩
  rw [hD] at HY14
  rw [hD]
  clear HW14 hD
  obtain ⟨a0, a1, a2⟩ := HX14.out.cells
  go_wp2_with fail
  refine (Balance_any 3 0 1 1 q4 3 kc4 sG3 w14 (by decide) HR14.out).mono ?_
  rintro e w15 ⟨⟨x15, er15, rfl, hsp⟩, hb15⟩
  have hx : er15 = 0 ∧ x15 = -30 := by
    rcases hsp with ⟨_, h1, h2⟩ | ⟨hno, _⟩
    · exact ⟨h1, h2.trans s_v.2.2.2.2.2.2.2.1⟩
    · exact absurd s_bal hno
  obtain ⟨rfl, rfl⟩ := hx
  have HB15 := Lib.hid (HB14.out.trans (hb15.mono HB14.out.size))
  have HY15 := Lib.hid (HY14.out.below hb15)
  have HS15 := Lib.hid (HS14.out.below hb15)
  have HX15 := Lib.hid (HX14.out.below hb15)
  have HR15 := Lib.hid (HR14.out.below hb15)
  have HI15 := Lib.hid (HI14.out.below hb15)
  have HJ15 := Lib.hid (HJ14.out.below hb15)
  have HK15 := Lib.hid (HK14.out.below hb15)
  have HL15 := Lib.hid (HL14.out.below hb15)
  clear hsp hb15 a0 a1 a2
  obtain ⟨a0, a1, a2⟩ := HX15.out.cells
  go_wp2_with fail
  have hb16 : Below w15.heap.size w15 (w15.alloc (.cells #[.int .i64 (-90), .int .i64 90, .int .i64 0] 3)) := (Below.refl _ _).alloc (Nat.le_refl _) _
  refine (ints_yes p3 _ 3 3 kc3 3 (tri (-90) 90 0) _ _ (by decide) rfl (HI15.out.below hb16) (reads3 w15 (-90) 90 0) (fun i _ => rfl)).mono ?_
  rintro e w17 ⟨rfl, hb17⟩
  replace hb17 := hb16.trans (hb17.mono hb16.size)
  clear hb16
  go_wp2_with fail
  have hb18 := hb17.trans ((Below.refl w17.heap.size w17).alloc (Nat.le_refl _) (.cells #[.int .i64 (-90), .int .i64 90, .int .i64 0] 3) |>.mono hb17.size)
  refine (ints_yes p6 _ 3 3 kc6 3 (tri (-90) 90 0) _ _ (by decide) rfl (HJ15.out.below hb18) (reads3 w17 (-90) 90 0) (fun i _ => rfl)).mono ?_
  rintro e w19 ⟨rfl, hb19⟩
  replace hb19 := hb18.trans (hb19.mono hb18.size)
  clear hb18 hb17
  go_wp2_with fail
  have hb20 := hb19.trans ((Below.refl w19.heap.size w19).alloc (Nat.le_refl _) (.cells #[.int .i64 30, .int .i64 (-30), .int .i64 0] 3) |>.mono hb19.size)
  refine (ints_yes p7 _ 3 3 kc7 3 (tri 30 (-30) 0) _ _ (by decide) rfl (HK15.out.below hb20) (reads3 w19 30 (-30) 0) (fun i _ => rfl)).mono ?_
  rintro e w21 ⟨rfl, hb21⟩
  replace hb21 := hb20.trans (hb21.mono hb20.size)
  clear hb20 hb19
  go_wp2_with fail
  have hb22 := hb21.trans ((Below.refl w21.heap.size w21).alloc (Nat.le_refl _) (.cells #[.int .i64 (-60), .int .i64 60, .int .i64 0] 3) |>.mono hb21.size)
  refine (ints_yes p8 _ 3 3 kc8 3 (tri (-60) 60 0) _ _ (by decide) rfl (HL15.out.below hb22) (reads3 w21 (-60) 60 0) (fun i _ => rfl)).mono ?_
  rintro e w23 ⟨rfl, hb23⟩
  replace hb23 := hb22.trans (hb23.mono hb22.size)
  clear hb22 hb21 a0 a1 a2
  obtain ⟨d0, d1, d2⟩ := (HY15.out.below hb23).cells
  go_wp2_with fail
  refine (valid_any 3 1 q13 3 kc13 sG3 w23 (by decide) (HS15.out.below hb23)).mono ?_
  rintro e w24 ⟨⟨r, rfl, hr⟩, hb24⟩
  obtain rfl : r = true := hr.2 s_ok3
  replace hb24 := hb23.trans (hb24.mono hb23.size)
  clear hr hb23 d0 d1 d2
  go_wp2_with fail
  refine (valid_any 0 0 none 0 0 (fun _ => zP) w24 (by decide) (fun i hi => by omega)).mono ?_
  rintro e w25 ⟨⟨r, rfl, hr⟩, hb25⟩
  obtain rfl : r = false := by
    cases r with
    | false => rfl
    | true => exact absurd (hr.1 rfl) s_nok
  replace hb25 := hb24.trans (hb25.mono hb24.size)
  clear hr hb24
  obtain ⟨a0, a1, a2⟩ := (HX15.out.below hb25).cells
  obtain ⟨b, o, rfl, hc⟩ := (HR15.out.below hb25) 1 (by decide)
  obtain ⟨p0, p1, p2, p3', p4, p5, p6'⟩ := pcells_of (hc 1 (by decide))
  simp only [show sG3 1 = ⟨2, 40, 1, 0, 90, 7, 0⟩ from rfl] at p0 p1 p2 p3' p4 p5 p6'
  clear hc
  have HBF := Lib.hid (HB15.out.trans (hb25.mono HB15.out.size))
  clear hb25
  go_wp2_with fail
  go_ret
  exact ⟨rfl, HBF.out⟩
end Go.Proofs.YtcfplkbbgjiocaaDoor
