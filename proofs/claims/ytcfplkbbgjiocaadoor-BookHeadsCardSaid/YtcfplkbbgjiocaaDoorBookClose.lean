/- Package book: Close. Conditions: a slice of postings that can be read; numbers of 64 bits. -/
import Derived.Test.YtcfplkbbgjiocaaDoorBookPost
namespace Go.Proofs.YtcfplkbbgjiocaaDoor
open Go Go.RowKit Go.Shelf
/-- A call that answers a book and an error. -/
def IsBk (w : World) (Spec : Int → Int → Nat → (Nat → Pst) → Int → Prop) (e : Ending) (w' : World) : Prop :=
  ∃ (t' c' : Int) (q : Option Addr) (k kc : Nat) (g' : Nat → Pst) (er : Int), e = .returned (.tuple #[.agg #[.int .i64 t', .slice q k kc, .int .i64 c'], .int .i64 er]) ∧
    Spec t' c' k g' er ∧ ReadsP w' q k g' ∧ (∀ a, q = some a → w.heap.size ≤ a.block) ∧ Below w.heap.size w w'
theorem IsBk.bad {w w' : World} {Spec : Int → Int → Nat → (Nat → Pst) → Int → Prop} {e : Ending} (h : ∀ g, Spec 0 0 0 g 270) (he : e = .returned (.tuple #[.agg #[.int .i64 0, .slice none 0 0, .int .i64 0], .int .i64 270])) (hb : Below w.heap.size w w') : IsBk w Spec e w' :=
  ⟨0, 0, none, 0, 0, fun _ => ⟨0, 0, 0, 0, 0, 0, 0⟩, 270, he, h _, fun i hi => by omega, nofun, hb⟩
/-- A call that answers a book and an error; the postings have room. -/
def IsBkC (w : World) (Spec : Int → Int → Nat → (Nat → Pst) → Int → Prop) (e : Ending) (w' : World) : Prop :=
  ∃ (t' c' : Int) (q : Option Addr) (k kc : Nat) (g' : Nat → Pst) (er : Int), e = .returned (.tuple #[.agg #[.int .i64 t', .slice q k kc, .int .i64 c'], .int .i64 er]) ∧
    Spec t' c' k g' er ∧ ReadsP w' q k g' ∧ (∀ a, q = some a → w.heap.size ≤ a.block) ∧ k ≤ kc ∧ Below w.heap.size w w'
theorem IsBkC.bad {w w' : World} {Spec : Int → Int → Nat → (Nat → Pst) → Int → Prop} {e : Ending} (h : ∀ g, Spec 0 0 0 g 270) (he : e = .returned (.tuple #[.agg #[.int .i64 0, .slice none 0 0, .int .i64 0], .int .i64 270])) (hb : Below w.heap.size w w') : IsBkC w Spec e w' :=
  ⟨0, 0, none, 0, 0, fun _ => ⟨0, 0, 0, 0, 0, 0, 0⟩, 270, he, h _, fun i hi => by omega, nofun, Nat.le_refl _, hb⟩
theorem IsBkC.bk {w w' : World} {Spec : Int → Int → Nat → (Nat → Pst) → Int → Prop} {e : Ending} (h : IsBkC w Spec e w') : IsBk w Spec e w' := by
  obtain ⟨t', c', q, k, kc, g', er, h1, h2, h3, h4, _, h6⟩ := h
  exact ⟨t', c', q, k, kc, g', er, h1, h2, h3, h4, h6⟩
def CloseGood (teams closed : Int) (n : Nat) (g : Nat → Pst) (month : Int) : Prop := BookOk teams closed n g ∧ month = closed ∧ within month 0 11
/-- What Close answers. -/
def CloseSpec (teams closed : Int) (n : Nat) (g : Nat → Pst) (month : Int) (t' c' : Int) (k : Nat) (g' : Nat → Pst) (er : Int) : Prop :=
  (CloseGood teams closed n g month ∧ er = 0 ∧ k = n ∧ t' = teams ∧ c' = closed + 1 ∧ ∀ i, i < n → g' i = g i) ∨ (¬ CloseGood teams closed n g month ∧ er = 270 ∧ k = 0 ∧ t' = 0 ∧ c' = 0)
set_option maxRecDepth 100000 in
set_option maxHeartbeats 4000000 in
theorem Close_cap (teams closed month : Int) (q : Option Addr) (n c : Nat) (g : Nat → Pst) (w : World) (hn : n ≤ maxLen) (hr : ReadsP w q n g) :
    Calls Tryd.prog 21 #[.agg #[.int .i64 teams, .slice q n c, .int .i64 closed], .int .i64 month] w (IsBkC w (CloseSpec teams closed n g month)) := by
  have hb1 := BkBox.new w teams closed (.slice q n c)
  have hal1 : Below w.heap.size w (w.alloc (.cells #[.int .i64 teams, .slice q n c, .int .i64 closed] 24)) := (Below.refl _ _).alloc (Nat.le_refl _) _
  obtain ⟨w1, hw1⟩ : ∃ w1, w.alloc (.cells #[.int .i64 teams, .slice q n c, .int .i64 closed] 24) = w1 := ⟨_, rfl⟩
  have hz1 : w1.heap.size = w.heap.size + 1 := by rw [← hw1, World.size_alloc]
  rw [hw1] at hb1 hal1
  have hal3 : Below w1.heap.size w1 (w1.alloc (.cells #[.int .i64 0, .slice none 0 0, .int .i64 0] 24)) := (Below.refl _ _).alloc (Nat.le_refl _) _
  have hr3 := BkBox.new w1 0 0 (.slice none 0 0)
  obtain ⟨w3, hw3⟩ : ∃ w3, w1.alloc (.cells #[.int .i64 0, .slice none 0 0, .int .i64 0] 24) = w3 := ⟨_, rfl⟩
  have hz3 : w3.heap.size = w.heap.size + 2 := by rw [← hw3, World.size_alloc, hz1]
  rw [hw3] at hal3 hr3
  rw [hz1] at hr3
  have hb3 := hb1.below hal3
  have hB3 : Below w.heap.size w w3 := hal1.trans (hal3.mono hal1.size)
  have hW : (w.alloc (.cells #[.int .i64 teams, .slice q n c, .int .i64 closed] 24)).alloc (.cells #[.int .i64 0, .slice none 0 0, .int .i64 0] 24) = w3 := by rw [hw1, hw3]
  have HW := Lib.hid hW
  have HO := Lib.hid (open_any teams closed q n c g w3 hn (hr.below hB3))
  have HB3 := Lib.hid hB3
  have HZ3 := Lib.hid hz3
  have HR3 := Lib.hid hr3
  have HBK3 := Lib.hid hb3
  obtain ⟨b0, b1, b2⟩ := hb3.cells
  clear hr hb1 hal1 hw1 hz1 hal3 hr3 hw3 hz3 hb3 hB3 hW
  go_enter Tryd.func21, Tryd.ntmps21
  go_upto_region 1 with fail
  obtain ⟨S, hS⟩ : ∃ S, w.heap.size = S := ⟨_, rfl⟩
  have HS := Lib.hid hS
  rw [hS] at HR3 HBK3 HZ3 b0 b1 b2
  rw [HW.out, hS]
  clear hS HW
  go_wp2_with fail
  refine HO.out.mono ?_
  rintro e w4 ⟨qq, r, rfl, hiff, hb4, hst⟩
  have hr4 := HR3.out.below hb4
  have hbk4 := HBK3.out.below hb4
  have HB4 := Lib.hid (HB3.out.trans (hb4.mono HB3.out.size))
  have HIFF := Lib.hid hiff
  obtain ⟨r0, r1, r2⟩ := hr4.cells
  obtain ⟨c0, c1, c2⟩ := hbk4.cells
  have f0 := hr4.free 0
  have f1 := hr4.free 1
  have f2 := hr4.free 2
  have HBF := Lib.hid (below_three HB4.out (b := S + 1) (by have := HS.out; omega) (.int .i64 0) (.slice none 0 0) (.int .i64 0))
  clear b0 b1 b2 hiff hr4 hbk4 hb4
  cases r with
  | false =>
    have HNO : Hid (¬ CloseGood teams closed n g month) := Lib.hid (fun h => by have := HIFF.out.2 h.1; simp at this)
    clear hst
    go_wp2_with fail
    refine bodyPost_ret (v := .tuple #[.agg #[.int .i64 0, .slice none 0 0, .int .i64 0], .int .i64 270]) (by simp [results, Tryd.results21, go_sem, r0, r1, r2]) rfl ?_
    exact IsBkC.bad (fun _ => .inr ⟨HNO.out, rfl, rfl, rfl, rfl⟩) rfl HBF.out
  | true =>
    obtain ⟨B, base, v, rfl, hBb, hbs, hBl, hx, hrow⟩ := hst rfl
    have HOK : Hid (BookOk teams closed n g) := Lib.hid (HIFF.out.1 (by trivial))
    clear hst
    by_cases hm : month = closed
    · by_cases hw : within month 0 11
      · have d1 : decide (within month 0 11) = true := decide_eq_true hw
        have hw2 : 0 ≤ month ∧ month ≤ 11 := hw
        obtain ⟨hw3, hw4⟩ := hw2
        have HG : Hid (CloseGood teams closed n g month) := Lib.hid ⟨HOK.out, hm, hw⟩
        have HM := Lib.hid hm
        have mb : (month != closed) = false := by simp [hm]
        have hSB : S + 1 < B := by have := HZ3.out; omega
        obtain ⟨pp, cc, rfl, hrd, hpb⟩ := own_readsP hrow
        have HCP := Lib.hid (own_capP hrow)
        obtain ⟨l0, l1, l2, _⟩ := hx.cells
        have g2 := hx.free 2
        have HBF2 := Lib.hid (below_three (Below_set HB4.out (b := B) (i := 2) (by have := HZ3.out; have := HS.out; omega) (.int .i64 (month + 1))) (b := S + 1) (by have := HS.out; omega) (.int .i64 teams) (.slice pp n cc) (.int .i64 (month + 1)))
        have HRD2 := Lib.hid (readsP_three (readsP_far hrd (b := B) (fun a h => by have := hpb a h; omega) 2 (.int .i64 (month + 1))) (b := S + 1) (fun a h => by have := hpb a h; omega) (.int .i64 teams) (.slice pp n cc) (.int .i64 (month + 1)))
        have HPB : Hid (∀ a, pp = some a → w.heap.size ≤ a.block) := Lib.hid (fun a h => by have := hpb a h; have := HS.out; omega)
        clear hw hm hx hrow hrd hpb
        go_wp2_with (go_at_call 41; refine (isIn_any _ _ _ _).mono ?_; rintro e w1 ⟨rfl, rfl⟩)
        refine bodyPost_ret (v := .tuple #[.agg #[.int .i64 teams, .slice pp n cc, .int .i64 (month + 1)], .int .i64 0]) (by simp [results, Tryd.results21, go_sem, r0, r1, r2]) rfl ?_
        exact ⟨teams, month + 1, pp, n, cc, g, 0, rfl, .inl ⟨HG.out, rfl, rfl, rfl, by rw [HM.out], fun i _ => rfl⟩, HRD2.out, HPB.out, HCP.out, HBF2.out⟩
      · have d1 : decide (within month 0 11) = false := decide_eq_false hw
        have HNO : Hid (¬ CloseGood teams closed n g month) := Lib.hid (fun h => hw h.2.2)
        have mb : (month != closed) = false := by simp [hm]
        clear hw hm hx hrow
        go_wp2_with (go_at_call 41; refine (isIn_any _ _ _ _).mono ?_; rintro e w1 ⟨rfl, rfl⟩)
        refine bodyPost_ret (v := .tuple #[.agg #[.int .i64 0, .slice none 0 0, .int .i64 0], .int .i64 270]) (by simp [results, Tryd.results21, go_sem, r0, r1, r2]) rfl ?_
        exact IsBkC.bad (fun _ => .inr ⟨HNO.out, rfl, rfl, rfl, rfl⟩) rfl HBF.out
    · have HNO : Hid (¬ CloseGood teams closed n g month) := Lib.hid (fun h => hm h.2.1)
      have mb : (month != closed) = true := by simp [hm]
      clear hm hx hrow
      go_wp2_with fail
      refine bodyPost_ret (v := .tuple #[.agg #[.int .i64 0, .slice none 0 0, .int .i64 0], .int .i64 270]) (by simp [results, Tryd.results21, go_sem, r0, r1, r2]) rfl ?_
      exact IsBkC.bad (fun _ => .inr ⟨HNO.out, rfl, rfl, rfl, rfl⟩) rfl HBF.out
theorem Close_any (teams closed month : Int) (q : Option Addr) (n c : Nat) (g : Nat → Pst) (w : World) (hn : n ≤ maxLen) (hr : ReadsP w q n g) :
    Calls Tryd.prog 21 #[.agg #[.int .i64 teams, .slice q n c, .int .i64 closed], .int .i64 month] w (IsBk w (CloseSpec teams closed n g month)) :=
  (Close_cap teams closed month q n c g w hn hr).mono fun _ _ h => h.bk
end Go.Proofs.YtcfplkbbgjiocaaDoor
