/- Package book: Dispute. Conditions: a slice of postings that can be read; numbers of 64 bits. -/
import Derived.Test.YtcfplkbbgjiocaaDoorBookClose
namespace Go.Proofs.YtcfplkbbgjiocaaDoor
open Go Go.RowKit Go.Shelf
def backP (q : Pst) (i day : Int) : Pst := ⟨2, day, q.cre, q.deb, q.amt, q.sub, i⟩
def newP (q : Pst) (day amount : Int) : Pst := ⟨q.kind, day, q.deb, q.cre, amount, q.sub, q.of⟩
theorem bkOf_snoc (g : Nat → Pst) (n : Nat) (p : Pst) : bkOf (snocP g n p) (n + 1) = bkNext (bkOf g n) p := by
  show bkNext (bkOf (snocP g n p) n) (snocP g n p n) = _
  have h := bkOf_congr (f := g) (g := snocP g n p) n (fun i hi => if_neg (by omega))
  rw [h, show snocP g n p n = p from if_pos rfl]
def DispGood (teams closed : Int) (n : Nat) (g : Nat → Pst) (i day amount : Int) : Prop :=
  BookOk teams closed n g ∧ (0 ≤ i ∧ i < n) ∧ within amount 0 1000000000 ∧ 30 * closed ≤ day ∧ TakesOk g n (bkOf g n) (teams - 1) (backP (g i.toNat) i day) ∧
    (0 < amount → TakesOk (snocP g n (backP (g i.toNat) i day)) (n + 1) (bkOf (snocP g n (backP (g i.toNat) i day)) (n + 1)) (teams - 1) (newP (g i.toNat) day amount))
/-- What Dispute answers. -/
def DispSpec (teams closed : Int) (n : Nat) (g : Nat → Pst) (i day amount : Int) (t' c' : Int) (k : Nat) (g' : Nat → Pst) (er : Int) : Prop :=
  (DispGood teams closed n g i day amount ∧ er = 0 ∧ t' = teams ∧ c' = closed ∧ (0 < amount → k = n + 2 ∧ ∀ j, j < n + 2 → g' j = snocP (snocP g n (backP (g i.toNat) i day)) (n + 1) (newP (g i.toNat) day amount) j) ∧
    (¬ 0 < amount → k = n + 1 ∧ ∀ j, j < n + 1 → g' j = snocP g n (backP (g i.toNat) i day) j)) ∨ (¬ DispGood teams closed n g i day amount ∧ er = 270 ∧ k = 0 ∧ t' = 0 ∧ c' = 0)
set_option maxRecDepth 100000 in
set_option maxHeartbeats 8000000 in
theorem Dispute_cap (teams closed i day amount : Int) (q : Option Addr) (n c : Nat) (g : Nat → Pst) (w : World) (hn : n ≤ maxLen) (hr : ReadsP w q n g) :
    Calls Tryd.prog 19 #[.agg #[.int .i64 teams, .slice q n c, .int .i64 closed], .int .i64 i, .int .i64 day, .int .i64 amount] w (IsBkC w (DispSpec teams closed n g i day amount)) := by
  have hb1 := BkBox.new w teams closed (.slice q n c)
  have hal1 : Below w.heap.size w (w.alloc (.cells #[.int .i64 teams, .slice q n c, .int .i64 closed] 24)) := (Below.refl _ _).alloc (Nat.le_refl _) _
  obtain ⟨w1, hw1⟩ : ∃ w1, w.alloc (.cells #[.int .i64 teams, .slice q n c, .int .i64 closed] 24) = w1 := ⟨_, rfl⟩
  have hz1 : w1.heap.size = w.heap.size + 1 := by rw [← hw1, World.size_alloc]
  rw [hw1] at hb1 hal1
  have hal3 : Below w1.heap.size w1 (w1.alloc (.cells #[.int .i64 0, .slice none 0 0, .int .i64 0] 24)) := (Below.refl _ _).alloc (Nat.le_refl _) _
  have hr3 := BkBox.new w1 0 0 (.slice none 0 0)
  obtain ⟨w3, hw3⟩ : ∃ w3, w1.alloc (.cells #[.int .i64 0, .slice none 0 0, .int .i64 0] 24) = w3 := ⟨_, rfl⟩
  have hz3 : w3.heap.size = w.heap.size + 2 := by rw [← hw3, World.size_alloc, hz1]
  rw [hw3] at hal3 hr3
  rw [hz1] at hr3
  have hb3 := hb1.below hal3
  have hB3 : Below w.heap.size w w3 := hal1.trans (hal3.mono hal1.size)
  have hW : (w.alloc (.cells #[.int .i64 teams, .slice q n c, .int .i64 closed] 24)).alloc (.cells #[.int .i64 0, .slice none 0 0, .int .i64 0] 24) = w3 := by rw [hw1, hw3]
  have HW := Lib.hid hW
  have hr3' := hr.below hB3
  have HRD := Lib.hid hr3'
  have HO := Lib.hid (open_any teams closed q n c g w3 hn hr3')
  have HB3 := Lib.hid hB3
  have HZ3 := Lib.hid hz3
  have HR3 := Lib.hid hr3
  have HBK3 := Lib.hid hb3
  obtain ⟨b0, b1, b2⟩ := hb3.cells
  unfold maxLen at hn
  clear hr hb1 hal1 hw1 hz1 hal3 hr3 hw3 hz3 hb3 hB3 hW hr3'
  go_enter Tryd.func19, Tryd.ntmps19
  go_upto_region 1 with fail
  obtain ⟨S, hS⟩ : ∃ S, w.heap.size = S := ⟨_, rfl⟩
  have HS := Lib.hid hS
  rw [hS] at HR3 HBK3 HZ3 b0 b1 b2
  rw [HW.out, hS]
  clear hS HW
  go_wp2_with fail
  refine HO.out.mono ?_
  rintro e w4 ⟨qq, r, rfl, hiff, hb4, hst⟩
  have hr4 := HR3.out.below hb4
  have hbk4 := HBK3.out.below hb4
  have hrd4 := HRD.out.below hb4
  have HB4 := Lib.hid (HB3.out.trans (hb4.mono HB3.out.size))
  have HIFF := Lib.hid hiff
  obtain ⟨r0, r1, r2⟩ := hr4.cells
  obtain ⟨c0, c1, c2⟩ := hbk4.cells
  have f0 := hr4.free 0
  have f1 := hr4.free 1
  have f2 := hr4.free 2
  have HBF := Lib.hid (below_three HB4.out (b := S + 1) (by have := HS.out; omega) (.int .i64 0) (.slice none 0 0) (.int .i64 0))
  have HRD4 := Lib.hid hrd4
  have HR4 := Lib.hid hr4
  clear b0 b1 b2 hiff hr4 hbk4 hb4 hrd4
  cases r with
  | false =>
    have HNO : Hid (¬ DispGood teams closed n g i day amount) := Lib.hid (fun h => by have := HIFF.out.2 h.1; simp at this)
    clear hst
    go_wp2_with fail
    refine bodyPost_ret (v := .tuple #[.agg #[.int .i64 0, .slice none 0 0, .int .i64 0], .int .i64 270]) (by simp [results, Tryd.results19, go_sem, r0, r1, r2]) rfl ?_
    exact IsBkC.bad (fun _ => .inr ⟨HNO.out, rfl, rfl, rfl, rfl⟩) rfl HBF.out
  | true =>
    obtain ⟨B, base, v, rfl, hBb, hbs, hBl, hx, hrow⟩ := hst rfl
    have HOK : Hid (BookOk teams closed n g) := Lib.hid (HIFF.out.1 (by trivial))
    have HX := Lib.hid hx
    have HROW := Lib.hid hrow
    clear hst hx hrow
    by_cases hi0 : 0 ≤ i
    · by_cases hin : i < n
      · by_cases hw : within amount 0 1000000000
        · have d1 : decide (within amount 0 1000000000) = true := decide_eq_true hw
          have HAM := Lib.hid hw
          obtain ⟨j, rfl⟩ : ∃ j : Nat, i = (j : Int) := ⟨i.toNat, by omega⟩
          have hjn : j < n := by omega
          obtain ⟨bq, oq, rfl, hcs⟩ := HRD4.out j hjn
          obtain ⟨p0, p1, p2, p3, p4, p5, p6⟩ := pcells_of (hcs j hjn)
          have v0 : (0 : Int) ≤ (j : Int) := hi0
          have v1 : (j : Int) < (n : Int) := hin
          clear hw hcs hi0 hin
          go_wp2_with (go_at_call 41; refine (isIn_any _ _ _ _).mono ?_; rintro e w1 ⟨rfl, rfl⟩)
          have htop : IntKind.i64.wrap (teams - 1) = teams - 1 := by
            have := HOK.out.1.1
            unfold within at this
            exact IntWalk.i64_in _ (by omega)
          have HTOP := Lib.hid htop
          have hal5 : Below w4.heap.size w4 (w4.alloc (.cells (newP (g j) day amount).cells 27)) := (Below.refl _ _).alloc (Nat.le_refl _) _
          have hal6 : Below w4.heap.size w4 ((w4.alloc (.cells (newP (g j) day amount).cells 27)).alloc (.cells (backP (g j) j day).cells 27)) := hal5.alloc hal5.size _
          have hx6 := HX.out.below hal6
          have hrow6 := ownP_below HROW.out hal6
          have hr6 := HR4.out.below hal6
          have hp5 := PCells.new w4 (newP (g j) day amount) 27
          have hp6 := hp5.below ((Below.refl (w4.alloc (.cells (newP (g j) day amount).cells 27)).heap.size (w4.alloc (.cells (newP (g j) day amount).cells 27))).alloc (Nat.le_refl _) (.cells (backP (g j) j day).cells 27))
          have hB6 := HB4.out.trans (hal6.mono HB4.out.size)
          have hD6 : w4.heap.size < ((w4.alloc (.cells (newP (g j) day amount).cells 27)).alloc (.cells (backP (g j) j day).cells 27)).heap.size := by rw [World.size_alloc, World.size_alloc]; omega
          have hDB : w4.heap.size ≠ B := by have := HX.out.lt; omega
          have hDo : some w4.heap.size ≠ v.ownBlock := fun e => by have := (HROW.out.lt _ e.symm).2; omega
          have hSB : S + 1 < B := by have := HZ3.out; omega
          have HPO := Lib.hid (post_any B base teams closed v n g (bkOf g n) (backP (g j) j day) _ hx6 hrow6 hBb (Nat.le_trans hbs hal6.size) HOK.out.small HOK.out.1.2)
          have HR6 := Lib.hid hr6
          have HP6 := Lib.hid hp6
          have HB6 := Lib.hid hB6
          have HD6 := Lib.hid hD6
          clear htop hal5 hal6 hx6 hrow6 hr6 hp5 hp6 hB6 hD6 p0 p1 p2 p3 p4 p5 p6
          refine HPO.out.mono ?_
          rintro e w7 ⟨rr, rfl, hiff7, hb7, hst7, hk7⟩
          rw [HTOP.out] at hiff7
          have hr7 := HR6.out.low hb7 hSB
          have hB7 := HB6.out.trans (hb7.mono (by have := HS.out; omega))
          have hD7 := hk7 _ HD6.out hDB hDo
          have hcell : ∀ o, w7.cell? ⟨w4.heap.size, o, none⟩ = _ := fun o => World.cell?_of_block (a := ⟨w4.heap.size, o, none⟩) hD7
          have hp7 : PCells w7 w4.heap.size 0 (newP (g j) day amount) := by
            obtain ⟨z0, z1, z2, z3, z4, z5, z6⟩ := HP6.out
            exact ⟨(hcell _).trans z0, (hcell _).trans z1, (hcell _).trans z2, (hcell _).trans z3, (hcell _).trans z4, (hcell _).trans z5, (hcell _).trans z6⟩
          clear r0 r1 r2 f0 f1 f2 c0 c1 c2 hcell hk7 hD7
          obtain ⟨r0, r1, r2⟩ := hr7.cells
          have f0 := hr7.free 0
          have f1 := hr7.free 1
          have f2 := hr7.free 2
          cases rr with
          | false =>
            have HNO : Hid (¬ DispGood teams closed n g (j : Int) day amount) := Lib.hid (fun h => by have := hiff7.2 ⟨h.2.2.2.1, h.2.2.2.2.1⟩; simp at this)
            have HBZ := Lib.hid (below_three hB7 (b := S + 1) (by have := HS.out; omega) (.int .i64 0) (.slice none 0 0) (.int .i64 0))
            clear hst7 hiff7 hb7 hp7
            go_wp2_with fail
            refine bodyPost_ret (v := .tuple #[.agg #[.int .i64 0, .slice none 0 0, .int .i64 0], .int .i64 270]) (by simp [results, Tryd.results19, go_sem, r0, r1, r2]) rfl ?_
            exact IsBkC.bad (fun _ => .inr ⟨HNO.out, rfl, rfl, rfl, rfl⟩) rfl HBZ.out
          | true =>
            obtain ⟨v', hx7, hrow7⟩ := hst7 rfl
            have hok7 := hiff7.1 (by trivial)
            have HOK7 := Lib.hid hok7
            rw [← snocP_flat] at hrow7
            obtain ⟨q0, q1, q2, q3, q4, q5, q6⟩ := hp7
            by_cases hpos : 0 < amount
            · have e1 : decide (0 < amount) = true := decide_eq_true hpos
              have HPOS := Lib.hid hpos
              have HPO2 := Lib.hid (post_any B base teams closed v' (n + 1) (snocP g n (backP (g j) j day)) (bkNext (bkOf g n) (backP (g j) j day)) (newP (g j) day amount) w7 hx7 hrow7 hBb (Nat.le_trans hbs (Nat.le_trans (by rw [World.size_alloc, World.size_alloc]; omega) hb7.size)) (by have := hok7.2.1; omega) HOK.out.1.2)
              have HR7 := Lib.hid hr7
              clear hst7 hiff7 hb7 hpos hx7 hrow7 hok7 hr7
              go_wp2_with fail
              refine HPO2.out.mono ?_
              rintro e w8 ⟨rr, rfl, hiff8, hb8, hst8, _⟩
              rw [HTOP.out, ← bkOf_snoc] at hiff8
              have hr8 := HR7.out.low hb8 hSB
              have hB8 := hB7.trans (hb8.mono (by have := HS.out; omega))
              clear r0 r1 r2 f0 f1 f2 q0 q1 q2 q3 q4 q5 q6
              obtain ⟨r0, r1, r2⟩ := hr8.cells
              have f0 := hr8.free 0
              have f1 := hr8.free 1
              have f2 := hr8.free 2
              cases rr with
              | false =>
                have HNO : Hid (¬ DispGood teams closed n g (j : Int) day amount) := Lib.hid (fun h => by have := hiff8.2 ⟨h.2.2.2.1, h.2.2.2.2.2 HPOS.out⟩; simp at this)
                have HBZ := Lib.hid (below_three hB8 (b := S + 1) (by have := HS.out; omega) (.int .i64 0) (.slice none 0 0) (.int .i64 0))
                clear hst8 hiff8 hb8
                go_wp2_with fail
                refine bodyPost_ret (v := .tuple #[.agg #[.int .i64 0, .slice none 0 0, .int .i64 0], .int .i64 270]) (by simp [results, Tryd.results19, go_sem, r0, r1, r2]) rfl ?_
                exact IsBkC.bad (fun _ => .inr ⟨HNO.out, rfl, rfl, rfl, rfl⟩) rfl HBZ.out
              | true =>
                obtain ⟨vF, hxF, hrowF⟩ := hst8 rfl
                rw [← snocP_flat] at hrowF
                have hok8 := hiff8.1 (by trivial)
                have HG : Hid (DispGood teams closed n g (j : Int) day amount) := Lib.hid ⟨HOK.out, ⟨by omega, by omega⟩, HAM.out, hok8.1, HOK7.out.2, fun _ => hok8.2⟩
                have hBF' := hB8
                clear hst8 hiff8 hb8 hok8
                obtain ⟨pp, cc, rfl, hrd, hpb⟩ := own_readsP hrowF
                have HCP := Lib.hid (own_capP hrowF)
                obtain ⟨l0, l1, l2, _⟩ := hxF.cells
                have HRDF := Lib.hid (readsP_three hrd (b := S + 1) (fun a h => by have := hpb a h; omega) (.int .i64 teams) (.slice pp (n + 1 + 1) cc) (.int .i64 closed))
                have HBZ := Lib.hid (below_three hBF' (b := S + 1) (by have := HS.out; omega) (.int .i64 teams) (.slice pp (n + 1 + 1) cc) (.int .i64 closed))
                have HPB : Hid (∀ a, pp = some a → w.heap.size ≤ a.block) := Lib.hid (fun a h => by have := hpb a h; have := HS.out; omega)
                clear hrowF hxF hrd hpb
                go_wp2_with fail
                refine bodyPost_ret (v := .tuple #[.agg #[.int .i64 teams, .slice pp (n + 1 + 1) cc, .int .i64 closed], .int .i64 0]) (by simp [results, Tryd.results19, go_sem, r0, r1, r2]) rfl ?_
                exact ⟨teams, closed, pp, n + 1 + 1, cc, snocP (snocP g n (backP (g j) j day)) (n + 1) (newP (g j) day amount), 0, rfl, .inl ⟨HG.out, rfl, rfl, rfl, fun _ => ⟨rfl, fun _ _ => rfl⟩, fun h => absurd HPOS.out h⟩, HRDF.out, HPB.out, HCP.out, HBZ.out⟩
            · have e1 : decide (0 < amount) = false := decide_eq_false hpos
              have HPOS := Lib.hid hpos
              have hxF := hx7
              have hrowF := hrow7
              have HG : Hid (DispGood teams closed n g (j : Int) day amount) := Lib.hid ⟨HOK.out, ⟨by omega, by omega⟩, HAM.out, hok7.1, hok7.2, fun h => absurd h hpos⟩
              have hBF' := hB7
              clear hst7 hiff7 hb7 hpos hx7 hrow7 hok7
              obtain ⟨pp, cc, rfl, hrd, hpb⟩ := own_readsP hrowF
              have HCP := Lib.hid (own_capP hrowF)
              obtain ⟨l0, l1, l2, _⟩ := hxF.cells
              have HRDF := Lib.hid (readsP_three hrd (b := S + 1) (fun a h => by have := hpb a h; omega) (.int .i64 teams) (.slice pp (n + 1) cc) (.int .i64 closed))
              have HBZ := Lib.hid (below_three hBF' (b := S + 1) (by have := HS.out; omega) (.int .i64 teams) (.slice pp (n + 1) cc) (.int .i64 closed))
              have HPB : Hid (∀ a, pp = some a → w.heap.size ≤ a.block) := Lib.hid (fun a h => by have := hpb a h; have := HS.out; omega)
              clear hrowF hxF hrd hpb
              go_wp2_with fail
              refine bodyPost_ret (v := .tuple #[.agg #[.int .i64 teams, .slice pp (n + 1) cc, .int .i64 closed], .int .i64 0]) (by simp [results, Tryd.results19, go_sem, r0, r1, r2]) rfl ?_
              exact ⟨teams, closed, pp, n + 1, cc, snocP g n (backP (g j) j day), 0, rfl, .inl ⟨HG.out, rfl, rfl, rfl, fun h => (by have := HPOS.out; omega), fun _ => ⟨rfl, fun _ _ => rfl⟩⟩, HRDF.out, HPB.out, HCP.out, HBZ.out⟩
        · have d1 : decide (within amount 0 1000000000) = false := decide_eq_false hw
          have HNO : Hid (¬ DispGood teams closed n g i day amount) := Lib.hid (fun h => hw h.2.2.1)
          clear hw
          go_wp2_with (go_at_call 41; refine (isIn_any _ _ _ _).mono ?_; rintro e w1 ⟨rfl, rfl⟩)
          refine bodyPost_ret (v := .tuple #[.agg #[.int .i64 0, .slice none 0 0, .int .i64 0], .int .i64 270]) (by simp [results, Tryd.results19, go_sem, r0, r1, r2]) rfl ?_
          exact IsBkC.bad (fun _ => .inr ⟨HNO.out, rfl, rfl, rfl, rfl⟩) rfl HBF.out
      · have HNO : Hid (¬ DispGood teams closed n g i day amount) := Lib.hid (fun h => hin h.2.1.2)
        go_wp2_with fail
        refine bodyPost_ret (v := .tuple #[.agg #[.int .i64 0, .slice none 0 0, .int .i64 0], .int .i64 270]) (by simp [results, Tryd.results19, go_sem, r0, r1, r2]) rfl ?_
        exact IsBkC.bad (fun _ => .inr ⟨HNO.out, rfl, rfl, rfl, rfl⟩) rfl HBF.out
    · have HNO : Hid (¬ DispGood teams closed n g i day amount) := Lib.hid (fun h => hi0 h.2.1.1)
      go_wp2_with fail
      refine bodyPost_ret (v := .tuple #[.agg #[.int .i64 0, .slice none 0 0, .int .i64 0], .int .i64 270]) (by simp [results, Tryd.results19, go_sem, r0, r1, r2]) rfl ?_
      exact IsBkC.bad (fun _ => .inr ⟨HNO.out, rfl, rfl, rfl, rfl⟩) rfl HBF.out
theorem Dispute_any (teams closed i day amount : Int) (q : Option Addr) (n c : Nat) (g : Nat → Pst) (w : World) (hn : n ≤ maxLen) (hr : ReadsP w q n g) :
    Calls Tryd.prog 19 #[.agg #[.int .i64 teams, .slice q n c, .int .i64 closed], .int .i64 i, .int .i64 day, .int .i64 amount] w (IsBk w (DispSpec teams closed n g i day amount)) :=
  (Dispute_cap teams closed i day amount q n c g w hn hr).mono fun _ _ h => h.bk
end Go.Proofs.YtcfplkbbgjiocaaDoor
