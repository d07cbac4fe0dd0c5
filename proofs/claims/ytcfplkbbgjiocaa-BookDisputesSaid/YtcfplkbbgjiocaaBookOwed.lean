/- Package book: Owed. Conditions: a slice of postings that can be read; numbers of 64 bits. -/
import Derived.Test.YtcfplkbbgjiocaaBookStat
namespace Go.Proofs.Ytcfplkbbgjiocaa
open Go Go.RowKit Go.Shelf
attribute [local go_sem] Oper.semAt_some
/-- Which postings stand for a subject. -/
def owedD (g : Nat → Pst) (n : Nat) (sub : Int) : Nat → Bool := fun j => decide ((g j).kind = 1 ∧ (g j).sub = sub ∧ bkOf g n j = false)
def OwedGood (teams closed : Int) (n : Nat) (g : Nat → Pst) (sub : Int) : Prop := BookOk teams closed n g ∧ within sub 0 999
/-- What Owed answers. -/
def OwedSpec (teams closed : Int) (n : Nat) (g : Nat → Pst) (sub : Int) (k : Nat) (f : Nat → Int) (er : Int) : Prop :=
  (OwedGood teams closed n g sub ∧ er = 0 ∧ (k : Int) = teams ∧ ∀ i, i < k → f i = sumD (owedD g n sub) g i n) ∨ (¬ OwedGood teams closed n g sub ∧ er = 270 ∧ k = 0)
theorem OwedSpec.unique {teams closed sub : Int} {n : Nat} {g : Nat → Pst} {k k' : Nat} {f f' : Nat → Int} {e e' : Int} (h : OwedSpec teams closed n g sub k f e) (h' : OwedSpec teams closed n g sub k' f' e') : e = e' ∧ k = k' ∧ ∀ j, j < k → f j = f' j := by
  rcases h with ⟨a, rfl, hk, hf⟩ | ⟨a, rfl, rfl⟩
  · rcases h' with ⟨_, rfl, hk', hf'⟩ | ⟨b, _⟩
    · obtain rfl : k = k' := by omega
      exact ⟨rfl, rfl, fun j hj => by rw [hf j hj, hf' j hj]⟩
    · exact absurd a b
  · rcases h' with ⟨b, _⟩ | ⟨_, rfl, rfl⟩
    · exact absurd b a
    · exact ⟨rfl, rfl, fun j hj => by omega⟩
set_option maxRecDepth 100000 in
set_option maxHeartbeats 8000000 in
theorem Owed_in (teams closed sub : Int) (q : Option Addr) (n c : Nat) (g : Nat → Pst) (w : World) (hn : n ≤ maxLen) (hr : ReadsP w q n g) :
    CallsIn Fence.wide 9 Try.prog 24 #[.agg #[.int .i64 teams, .slice q n c, .int .i64 closed], .int .i64 sub] w (IsIntsW w (OwedSpec teams closed n g sub)) := by
  have hb1 := BkBox.new w teams closed (.slice q n c)
  have hal1 : Below w.heap.size w (w.alloc (.cells #[.int .i64 teams, .slice q n c, .int .i64 closed] 24)) := (Below.refl _ _).alloc (Nat.le_refl _) _
  obtain ⟨w1, hw1⟩ : ∃ w1, w.alloc (.cells #[.int .i64 teams, .slice q n c, .int .i64 closed] 24) = w1 := ⟨_, rfl⟩
  have hz1 : w1.heap.size = w.heap.size + 1 := by rw [← hw1, World.size_alloc]
  rw [hw1] at hb1 hal1
  have hal3 : Below w1.heap.size w1 (w1.alloc (.cells #[.int .i64 sub] 3)) := (Below.refl _ _).alloc (Nat.le_refl _) _
  have hm3 := World.alloc_heap_new w1 (.cells #[.int .i64 sub] 3)
  obtain ⟨w3, hw3⟩ : ∃ w3, w1.alloc (.cells #[.int .i64 sub] 3) = w3 := ⟨_, rfl⟩
  have hz3 : w3.heap.size = w.heap.size + 2 := by rw [← hw3, World.size_alloc, hz1]
  rw [hw3] at hal3 hm3
  rw [hz1] at hm3
  have hc3 : w3.cell? ⟨w.heap.size + 1, 0, none⟩ = some (.int .i64 sub) := by
    unfold World.cell?
    rw [hm3]
    rfl
  have hb3 := hb1.below hal3
  have hB3 : Below w.heap.size w w3 := hal1.trans (hal3.mono hal1.size)
  have HW := Lib.hid (show (w.alloc (.cells #[.int .i64 teams, .slice q n c, .int .i64 closed] 24)).alloc (.cells #[.int .i64 sub] 3) = w3 by rw [hw1, hw3])
  have hr3 := hr.below hB3
  have HRD := Lib.hid hr3
  have HO := Lib.hid (open_any teams closed q n c g w3 hn hr3)
  have HB3 := Lib.hid hB3
  have HZ3 := Lib.hid hz3
  have HBK3 := Lib.hid hb3
  have HC3 := Lib.hid hc3
  obtain ⟨b0, b1, b2⟩ := hb3.cells
  unfold maxLen at hn
  clear hr hb1 hal1 hw1 hz1 hal3 hm3 hw3 hz3 hc3 hb3 hB3 hr3
  refine callsIn_of_wp_marks Try.func24 rfl trivial ?_ rfl
  simp only [Try.ntmps24, List.size_toArray, List.length_cons, List.length_nil, Nat.reduceAdd, Nat.reduceSub, Array.replicate_succ, Array.replicate_zero, List.push_toArray, List.append_toArray, List.nil_append, List.cons_append]
  gi_wp2_with fail
  refine ⟨trivial, ?_⟩
  rw [HW.out]
  obtain ⟨S, hS⟩ : ∃ S, w.heap.size = S := ⟨_, rfl⟩
  have HS := Lib.hid hS
  rw [hS] at HBK3 HZ3 HC3 b0 b1 b2
  rw [hS]
  clear hS HW
  refine (callsIn_wide.2 HO.out).mono ?_
  rintro e w2 ⟨qq, r, rfl, hiff, hb2, hst⟩
  have halL : Below w2.heap.size w2 (w2.alloc (.cells #[.pointer qq] 52)) := (Below.refl _ _).alloc (Nat.le_refl _) _
  have hcL : (w2.alloc (.cells #[.pointer qq] 52)).cell? ⟨w2.heap.size, 0, none⟩ = some (.pointer qq) := by simp
  obtain ⟨w4, hw4⟩ : ∃ w4, w2.alloc (.cells #[.pointer qq] 52) = w4 := ⟨_, rfl⟩
  have HW4 := Lib.hid hw4
  rw [hw4] at halL hcL
  have hb4 := hb2.trans (halL.mono hb2.size)
  have HB4 := Lib.hid (HB3.out.trans (hb4.mono HB3.out.size))
  have HBK4 := Lib.hid (HBK3.out.below hb4)
  have c4 := (hb4.cell (p := ⟨S + 1, 0, none⟩) (cell_lt HC3.out)).trans HC3.out
  have HC4 := Lib.hid c4
  have HCL := Lib.hid hcL
  have HALL := Lib.hid halL
  have HIFF := Lib.hid hiff
  clear b0 b1 b2 hb4 hiff hb2 hw4 halL
  cases r with
  | false =>
    have HNO : Hid (¬ OwedGood teams closed n g sub) := Lib.hid (fun h => by have := HIFF.out.2 h.1; simp at this)
    clear hst
    gi_wp2_with fail
    refine ⟨trivial, ?_⟩
    gi_wp2_with fail
    rw [HW4.out]
    refine ⟨.tuple #[.slice none 0 0, .int .i64 270], by simp [results, Try.results24, go_sem], ?_⟩
    exact ⟨none, 0, 0, fun _ => 0, 270, rfl, .inr ⟨HNO.out, rfl, rfl⟩, fun i hi => by omega, nofun, nofun, HB4.out⟩
  | true =>
    obtain ⟨B, base, v, rfl, hBb, hbs, hBl, hx, hrow⟩ := hst rfl
    have HOK : Hid (BookOk teams closed n g) := Lib.hid (HIFF.out.1 (by trivial))
    have HX := Lib.hid (hx.below HALL.out)
    have HROW := Lib.hid (ownP_below hrow HALL.out)
    replace hbs := Nat.le_trans hbs HALL.out.size
    clear hst hx hrow HIFF
    by_cases hm : within sub 0 999
    · have d1 : decide (within sub 0 999) = true := decide_eq_true hm
      have HG : Hid (OwedGood teams closed n g sub) := Lib.hid ⟨HOK.out, hm⟩
      clear hm
      have c5 := c4
      rw [← HW4.out] at c5
      gi_wp2_with fail
      clear c5
      refine ⟨trivial, ?_⟩
      refine (callsIn_wide.2 (isIn_any _ _ _ _)).mono ?_
      rintro e w5 ⟨rfl, rfl⟩
      rw [HW4.out]
      have hal5 : Below w4.heap.size w4 (w4.alloc (.cells #[.int .i64 0, .int .i64 0, .int .i64 0, .int .i64 0] 63)) := (Below.refl _ _).alloc (Nat.le_refl _) _
      have ha5 : ABox (w4.alloc (.cells #[.int .i64 0, .int .i64 0, .int .i64 0, .int .i64 0] 63)) w4.heap.size (fun _ => 0) := ⟨_, _, World.alloc_heap_new w4 _, fun i hi => by
        rcases (show i = 0 ∨ i = 1 ∨ i = 2 ∨ i = 3 by omega) with rfl | rfl | rfl | rfl <;> rfl⟩
      obtain ⟨w5, hw5⟩ : ∃ w5, w4.alloc (.cells #[.int .i64 0, .int .i64 0, .int .i64 0, .int .i64 0] 63) = w5 := ⟨_, rfl⟩
      have hz5 : w5.heap.size = w4.heap.size + 1 := by rw [← hw5, World.size_alloc]
      have HW5 := Lib.hid hw5
      have c6 := (hal5.cell (p := ⟨w2.heap.size, 0, none⟩) (cell_lt HCL.out)).trans HCL.out
      rw [hw5] at hal5 ha5
      have HA5 := Lib.hid ha5
      have HAL5 := Lib.hid hal5
      have HZ5 := Lib.hid hz5
      clear ha5 hal5 hz5 hw5
      gi_wp2_with fail
      clear c6
      refine ⟨trivial, ?_⟩
      rw [HW5.out]
      refine (callsIn_wide.2 (those_any _ _ _ _)).mono ?_
      rintro e W0 ⟨rfl, hW0⟩
      gi_wp2_with fail
      obtain ⟨G, hG⟩ : ∃ G, w4.heap.size = G := ⟨_, rfl⟩
      have HG4 := Lib.hid hG
      rw [hG] at HZ5 HA5
      have hal6 : Below w5.heap.size w5 ((w5.alloc (.cells #[.pointer (some ⟨B, 0, none⟩)] 52)).alloc (.cells #[.func (.func 37) #[] #[.pointer (some ⟨S + 1, 0, none⟩), .pointer (some ⟨w2.heap.size, 0, none⟩)]] 66)) := ((Below.refl _ _).alloc (Nat.le_refl _) _).alloc (by simp) _
      have hx0 : ((w5.alloc (.cells #[.pointer (some ⟨B, 0, none⟩)] 52)).alloc (.cells #[.func (.func 37) #[] #[.pointer (some ⟨S + 1, 0, none⟩), .pointer (some ⟨w2.heap.size, 0, none⟩)]] 66)).cell? ⟨G + 1, 0, none⟩ = some (.pointer (some ⟨B, 0, none⟩)) := by
        rw [← HZ5.out]
        exact (((Below.refl (w5.heap.size + 1) _).alloc (by simp) _).cell (p := ⟨w5.heap.size, 0, none⟩) (by show w5.heap.size < w5.heap.size + 1; omega)).trans (by simp)
      have hx1 : ((w5.alloc (.cells #[.pointer (some ⟨B, 0, none⟩)] 52)).alloc (.cells #[.func (.func 37) #[] #[.pointer (some ⟨S + 1, 0, none⟩), .pointer (some ⟨w2.heap.size, 0, none⟩)]] 66)).cell? ⟨G + 2, 0, none⟩ = some (.func (.func 37) #[] #[.pointer (some ⟨S + 1, 0, none⟩), .pointer (some ⟨w2.heap.size, 0, none⟩)]) := by
        have h := World.alloc_heap_new (w5.alloc (.cells #[.pointer (some ⟨B, 0, none⟩)] 52)) (.cells #[.func (.func 37) #[] #[.pointer (some ⟨S + 1, 0, none⟩), .pointer (some ⟨w2.heap.size, 0, none⟩)]] 66)
        rw [World.size_alloc, HZ5.out] at h
        unfold World.cell?
        rw [show G + 2 = G + 1 + 1 by omega, h]
        rfl
      have hz0 : ((w5.alloc (.cells #[.pointer (some ⟨B, 0, none⟩)] 52)).alloc (.cells #[.func (.func 37) #[] #[.pointer (some ⟨S + 1, 0, none⟩), .pointer (some ⟨w2.heap.size, 0, none⟩)]] 66)).heap.size = G + 3 := by rw [World.size_alloc, World.size_alloc, HZ5.out]
      rw [hW0] at hal6 hx0 hx1 hz0
      have hb40 : Below G w4 W0 := by
        have h := HAL5.out.trans (hal6.mono HAL5.out.size)
        rwa [hG] at h
      have hA0 := HA5.out.below hal6
      obtain ⟨pp, cc, rfl, hrd, hpb⟩ := own_readsP HROW.out
      have HRD4 := Lib.hid hrd
      have HB0 : Hid (Below w.heap.size w W0) := Lib.hid (HB4.out.trans (hb40.mono (by have := HB4.out.size; omega)))
      have HB40 := Lib.hid hb40
      have HX0 := Lib.hid hx0
      have HX1 := Lib.hid hx1
      have HZ0 := Lib.hid hz0
      have HA0 := Lib.hid hA0
      have hwG : w.heap.size ≤ G := by have := HB4.out.size; omega
      have hSG : S + 2 ≤ G := by have := HBK4.out.lt; have := cell_lt HC4.out; omega
      clear hG hal6 hx0 hx1 hz0 hb40 hA0 hrd hpb hW0 c4
      have hts := HOK.out.1.1
      unfold within at hts
      obtain ⟨tn, rfl⟩ : ∃ tn : Nat, teams = (tn : Int) := ⟨teams.toNat, by omega⟩
      have htn : 2 ≤ tn ∧ tn ≤ 4 := by omega
      obtain ⟨htn1, htn2⟩ := htn
      clear hts
      have hn200 := HOK.out.small
      refine rangeFunc_open rfl (by omega) (gf := 39) (lb := #[.pointer (some ⟨w5.heap.size, 0, none⟩), .pointer (some ⟨w5.heap.size + 1, 0, none⟩)]) rfl trivial (enters_of Try.func39 (by kernel_rfl) rfl) (G + 3) HZ0.out ?_
      intro W1 rr _ hrr hL ⟨o, o', hW1⟩
      rw [show w5.heap.size = G + 1 from HZ5.out]
      have hJ0 : SumAt w W0 G (fun t : Nat => sumD (owedD g n sub) g (t : Int) 0) rr .ready W1 := by
        have hb1 : Below W0.heap.size W0 W1 := by rw [hW1]; exact ((Below.refl _ _).alloc (Nat.le_refl _) _).alloc (by simp) _
        refine ⟨HB0.out.trans (hb1.mono HB0.out.size), by rw [hW1, World.size_alloc, World.size_alloc]; exact Nat.le_refl _, HA0.out.below hb1, fun b hl _ => hb1.block b hl, ?_⟩
        rw [HZ0.out]
        exact hL
      have HJ0 := Lib.hid hJ0
      clear hJ0 hW1 hL
      refine (those1_in 8 (G + 3 + 1) (G + 1) (G + 1 + 1) B 37 #[.pointer (some ⟨S + 1, 0, none⟩), .pointer (some ⟨w2.heap.size, 0, none⟩)] (tn : Int) closed pp n cc g (bkOf g n) (owedD g n sub) (by omega) (by omega) (enters_of Try.func37 (by kernel_rfl) rfl)
        (fun k W => SumAt w W0 G (fun t : Nat => sumD (owedD g n sub) g (t : Int) k) rr .ready W) ?hY ?hN ?hJ ?hb ?hI W1 HJ0.out).mono ?_
      case hJ => exact fun k W W' h hb => h.keep hb
      case hN =>
        intro k W hk h hd
        refine h.congr fun i _ => ?_
        show sumD _ g (i : Int) k + _ = _
        rw [if_neg (fun e => Bool.noConfusion (hd.symm.trans e))]
        omega
      case hb =>
        intro k W h
        have hlow := h.low HG4.out HB40.out
        refine ⟨?_, ?_, low_lbox hlow HX.out, low_reads hlow HRD4.out⟩
        · exact (World.cell?_of_block (w := W0) (w' := W) (a := ⟨G + 1, 0, none⟩) (h.rest (G + 1) (by have := HZ0.out; omega) (by omega))).trans HX0.out
        · exact (World.cell?_of_block (w := W0) (w' := W) (a := ⟨G + 2, 0, none⟩) (h.rest (G + 2) (by have := HZ0.out; omega) (by omega))).trans HX1.out
      case hI =>
        intro k W hk h
        have hlow := h.low HG4.out HB40.out
        have hday := (HOK.out.2 k hk).2.1.1
        unfold within at hday
        exact owed1_any k (S + 1) w2.heap.size B (g k) (tn : Int) closed _ (bkOf g n) sub W (by omega) (low_cell hlow HC4.out) (low_cell hlow HCL.out) (low_lbox hlow HX.out)
      case hY =>
        intro k W hk hJ hd
        have hf := (HOK.out.2 k hk).2.1
        obtain ⟨cn, dn, e1, e2, e3, e4, e5, _, _, e6, e7⟩ := formed_teams hf htn2
        refine (yield_open (On := fun W' => SumAt w W0 G (fun t : Nat => sumD (owedD g n sub) g (t : Int) (k + 1)) rr .ready W') (Out := fun _ _ => False) (D := G + 3) (l := G + 3 + 1) (by have h := hJ.loop; rwa [HZ0.out] at h) trivial hrr rfl ?_).mono ?_
        · intro R hR
          have HR := Lib.hid hR
          have HD := Lib.hid hd
          have HJ := Lib.hid hJ
          have HF := Lib.hid hf
          have HE1 := Lib.hid e1
          have HE2 := Lib.hid e2
          have HE6 := Lib.hid (And.intro e6 e7)
          clear hR hd hJ hf e1 e2 e6 e7
          unfold Pst.cells
          gi_wp2_with fail
          have hal : Below W.heap.size W (W.alloc (.cells (g k).cells 27)) := (Below.refl _ _).alloc (Nat.le_refl _) _
          have hp := PCells.new W (g k) 27
          have hJ2 := HJ.out.keep hal
          have hl2 := hJ2.loop
          have hJ3 := hJ2.put (st' := .busy) (by have := HB0.out.size; omega) (by have := HZ0.out; omega)
          rw [HZ0.out] at hl2 hJ3
          refine ⟨_, hl2.begin, ?_⟩
          have hPG : W.heap.size ≠ G + 3 + 1 := by have := HJ.out.size; have := HZ0.out; omega
          have hpc : ∀ c v, (W.alloc (.cells (g k).cells 27)).cell? ⟨W.heap.size, c, none⟩ = some v → ((W.alloc (.cells (g k).cells 27)).putObj (G + 3 + 1) (.loop { rr with state := .busy, pending := none })).cell? ⟨W.heap.size, c, none⟩ = some v := fun c v h =>
            (World.cell?_of_block (w := W.alloc (.cells (g k).cells 27)) (a := ⟨W.heap.size, c, none⟩) (World.putObj_heap_other hPG)).trans h
          obtain ⟨q0, q1, q2, q3, q4, q5, q6⟩ := hp
          have q0 := hpc _ _ q0
          have q1 := hpc _ _ q1
          have q2 := hpc _ _ q2
          have q3 := hpc _ _ q3
          have q4 := hpc _ _ q4
          have q5 := hpc _ _ q5
          have q6 := hpc _ _ q6
          obtain ⟨W3, hW3⟩ : ∃ W3, (W.alloc (.cells (g k).cells 27)).putObj (G + 3 + 1) (.loop { rr with state := .busy, pending := none }) = W3 := ⟨_, rfl⟩
          rw [hW3] at q0 q1 q2 q3 q4 q5 q6 hJ3
          rw [hW3]
          obtain ⟨P, hP⟩ : ∃ P, W.heap.size = P := ⟨_, rfl⟩
          rw [hP] at q0 q1 q2 q3 q4 q5 q6
          rw [hP, HG4.out]
          have HADD := Lib.hid (add_any G (fun t : Nat => sumD (owedD g n sub) g (t : Int) k) (g k) cn dn W3 hJ3.box HE1.out HE2.out e3 e4 e5 (fun i _ => by
            have h := sumD_bd (d := owedD g n sub) (team := (i : Int)) k (fun i hi => (HOK.out.2 i (by omega)).2.1)
            have hk2 : (k : Int) ≤ 200 := by omega
            exact ⟨Int.le_trans (show (-300000000000 : Int) ≤ -(k * 1000000000 : Int) by omega) h.1, Int.le_trans h.2 (show (k * 1000000000 : Int) ≤ 300000000000 by omega)⟩) HE6.out)
          have HJ3 := Lib.hid hJ3
          clear hal hJ2 hl2 hJ3 hPG hpc hW3 hP
          gi_wp2_with fail
          refine ⟨trivial, ?_⟩
          refine (callsIn_wide.2 HADD.out).mono ?_
          rintro e W4 ⟨⟨v, rfl⟩, hA4, hB4, hS4⟩
          have hJ4 := HJ3.out.add hwG (by have := HZ0.out; omega) hA4 hB4 hS4
          have hJ5 : SumAt w W0 G (fun t : Nat => sumD (owedD g n sub) g (t : Int) (k + 1)) rr .busy W4 := hJ4.congr fun i _ => by
            show sumD _ g (i : Int) k + _ = _
            rw [if_pos HD.out]
          have hl5 := hJ5.loop
          have hJ6 := hJ5.put (st' := .ready) (by have := HB0.out.size; omega) (by have := HZ0.out; omega)
          rw [HZ0.out] at hl5 hJ6
          have HL5 := Lib.hid hl5
          have HJ6 := Lib.hid hJ6
          clear hJ4 hJ5 hl5 hJ6 q0 q1 q2 q3 q4 q5 q6
          gi_wp2
          rw [HR.out]
          exact ⟨HL5.out, HJ6.out⟩
        · rintro e W' (⟨rfl, _, h⟩ | ⟨_, c, _, h⟩)
          · exact ⟨rfl, h⟩
          · exact h.elim
      rintro e W2 ⟨⟨v, rfl⟩, hJ⟩
      have hl := hJ.loop
      rw [HZ0.out] at hl
      refine rangePost_done hl fun hL2 => ?_
      have hJ2 := hJ.put (st' := .exhausted) (by have := HB0.out.size; omega) (by have := HZ0.out; omega)
      rw [HZ0.out] at hJ2
      have HL2 := Lib.hid hL2
      obtain ⟨W3, hW3⟩ : ∃ W3, W2.putObj (G + 3 + 1) (.loop { rr with state := .exhausted, pending := none }) = W3 := ⟨_, rfl⟩
      have HW3 := Lib.hid hW3
      rw [hW3] at hJ2 HL2
      rw [hW3]
      have hlow := hJ2.low HG4.out HB40.out
      have b0 := low_cell hlow HBK4.out.cells.1
      have x0 := hJ2.box.cell 0 (by omega)
      have x1 := hJ2.box.cell 1 (by omega)
      have x2 := hJ2.box.cell 2 (by omega)
      have x3 := hJ2.box.cell 3 (by omega)
      have HLI := Lib.hid (list_any (fun t : Nat => sumD (owedD g n sub) g (t : Int) n) tn W3 (by omega) htn2)
      have HJ2 := Lib.hid hJ2
      rw [HG4.out]
      clear hJ hl hL2 hJ2 hW3 HW3 hlow
      gi_wp2_with fail
      refine ⟨trivial, ?_⟩
      refine (callsIn_wide.2 HLI.out).mono ?_
      rintro e W4 ⟨p4, c4, rfl, hrd4, hp4, hfr4, hb4⟩
      have HFR := Lib.hid hfr4
      have hJ4 := HJ2.out.keep hb4
      have hds := hJ4.loop.ds
      rw [HZ0.out] at hds
      have HDS := Lib.hid hds
      have HJ4 := Lib.hid hJ4
      have HRD := Lib.hid hrd4
      have HP4 : Hid (∀ a, p4 = some a → G + 3 < a.block) := Lib.hid (fun a h => by have := hp4 a h; have := HJ2.out.size; have := HZ0.out; omega)
      clear b0 x0 x1 x2 x3 hrd4 hp4 hfr4 hb4 hJ4 hds
      gi_wp2
      refine ⟨by simp, .inl ⟨_, _, rfl, run_takeDeferred HDS.out, ?_⟩⟩
      refine ⟨.tuple #[.slice p4 tn c4, .int .i64 0], by simp [results, Try.results24, go_sem], ?_⟩
      refine ⟨p4, tn, c4, _, 0, rfl, .inl ⟨HG.out, rfl, rfl, fun i _ => ?_⟩, readsI_put HRD.out HP4.out, fun a h => by have := HP4.out a h; omega, FreeAt.put HFR.out HP4.out, Below_put HJ4.out.below (by omega) HJ4.out.below.size⟩
      rfl
    · have d1 : decide (within sub 0 999) = false := decide_eq_false hm
      have HNO : Hid (¬ OwedGood teams closed n g sub) := Lib.hid (fun h => hm h.2)
      clear hm
      have c5 := c4
      rw [← HW4.out] at c5
      gi_wp2_with fail
      clear c5
      refine ⟨trivial, ?_⟩
      refine (callsIn_wide.2 (isIn_any _ _ _ _)).mono ?_
      rintro e w5 ⟨rfl, rfl⟩
      rw [HW4.out]
      gi_wp2_with fail
      refine ⟨.tuple #[.slice none 0 0, .int .i64 270], by simp [results, Try.results24, go_sem], ?_⟩
      exact ⟨none, 0, 0, fun _ => 0, 270, rfl, .inr ⟨HNO.out, rfl, rfl⟩, fun i hi => by omega, nofun, nofun, HB4.out⟩
theorem Owed_w (teams closed sub : Int) (q : Option Addr) (n c : Nat) (g : Nat → Pst) (w : World) (hn : n ≤ maxLen) (hr : ReadsP w q n g) :
    Calls Try.prog 24 #[.agg #[.int .i64 teams, .slice q n c, .int .i64 closed], .int .i64 sub] w (IsIntsW w (OwedSpec teams closed n g sub)) :=
  callsIn_wide.1 (Owed_in teams closed sub q n c g w hn hr)
theorem Owed_any (teams closed sub : Int) (q : Option Addr) (n c : Nat) (g : Nat → Pst) (w : World) (hn : n ≤ maxLen) (hr : ReadsP w q n g) :
    Calls Try.prog 24 #[.agg #[.int .i64 teams, .slice q n c, .int .i64 closed], .int .i64 sub] w (IsInts w (OwedSpec teams closed n g sub)) :=
  (Owed_w teams closed sub q n c g w hn hr).mono fun _ _ h => h.ints
end Go.Proofs.Ytcfplkbbgjiocaa
