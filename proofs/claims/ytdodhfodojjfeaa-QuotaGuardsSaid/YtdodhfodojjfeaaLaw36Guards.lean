/- QuotaGuards returns true. Condition: slices of numbers that came in. -/
import Derived.Test.YtdodhfodojjfeaaLaw36Copy
import Derived.Deep.RegionHeld3
namespace Go.Proofs.Ytdodhfodojjfeaa
open Go Go.RowKit Go.Shelf
set_option maxRecDepth 100000 in
set_option maxHeartbeats 4000000 in
theorem quotaGuards_any (a0 a2 a3 : Int) (p q : Option Addr) (n0 c0 m0 e0 : Nat) (f g : Nat → Int) (w : World) (hin : IntsIn w p n0 f) (hin2 : IntsIn w q m0 g)
    (b0 : -9223372036854775808 ≤ a0 ∧ a0 ≤ 9223372036854775807) (b2 : -9223372036854775808 ≤ a2 ∧ a2 ≤ 9223372036854775807) (b3 : -9223372036854775808 ≤ a3 ∧ a3 ≤ 9223372036854775807) :
    Calls Try.prog 4 #[.int .i64 a0, .slice p n0 c0, .int .i64 a2, .int .i64 a3, .slice q m0 e0] w fun e w' => e = .returned (.bool true) ∧ Below w.heap.size w w' := by
  obtain ⟨i0, hi, hz0, hz1, hz2⟩ := info_parts Try.infoInt
  have hm0 := hin2.small
  unfold maxLen at hm0
  have HIN := Lib.hid hin
  have HIN2 := Lib.hid hin2
  clear hin hin2
  go_enter Try.func4, Try.ntmps4
  go_wp2_with fail
  refine (sane_any w).mono ?_
  rintro e w1 ⟨rfl, hB1⟩
  go_wp2_with fail
  refine (demands_any p n0 c0 f w1 (HIN.out.below hB1)).mono ?_
  rintro e w2 ⟨G, n, cp, d, rfl, hn1, hn8, hd, hG, hat, hb2⟩
  have hB2 := hB1.trans (hb2.mono hB1.size)
  have hwG : w.heap.size ≤ G := Nat.le_trans hB1.size hG
  clear hb2 hB1
  go_wp2_with fail
  refine (pick_any a0 1000001 1000001 _ rfl b0.1 b0.2 (by omega) (by omega)).mono ?_
  rintro e w3 ⟨rfl, rfl⟩
  have hc := pickN_lt a0 (show 0 < 1000001 by omega)
  obtain ⟨c, hce⟩ : ∃ c, pickN a0 1000001 = c := ⟨_, rfl⟩
  rw [hce] at hc ⊢
  clear hce
  go_wp2_with fail
  refine (pick_any a2 n n _ rfl b2.1 b2.2 (by omega) (by omega)).mono ?_
  rintro e w3 ⟨rfl, rfl⟩
  have ht := pickN_lt a2 (show 0 < n by omega)
  obtain ⟨t, hte⟩ : ∃ t, pickN a2 n = t := ⟨_, rfl⟩
  rw [hte] at ht ⊢
  clear hte
  go_wp2_with fail
  refine (pick_any a3 n n _ rfl b3.1 b3.2 (by omega) (by omega)).mono ?_
  rintro e w3 ⟨rfl, rfl⟩
  have hi2 := pickN_lt a3 (show 0 < n by omega)
  obtain ⟨i, hie⟩ : ∃ i, pickN a3 n = i := ⟨_, rfl⟩
  rw [hie] at hi2 ⊢
  clear hie
  have HR := Lib.hid (range_ints d n)
  go_wp2_with (first | (at_builtin; refine wpList_append_own (o := ⟨some 40, _, _, _, _, _⟩) _ rfl _ _ 22 rfl w2.heap.size 3 i0 (.int .i64 0) 1 8 Try.underlying22 hi hz0 hz1 hz2 rfl (by decide) _ 0 [] rfl (empty_own w2) ⟨G, 0, none⟩ n cp ((List.range n).map fun i => Value.int .i64 ((d i : Nat) : Int)) rfl (by simp) (Hid.out (Lib.hid (hat.alloc (.cells #[] 3)).news)) HR.out (by unfold maxLen; omega) (by omega) (by simp) ?_; intro v' w3 hown' hgrow _; obtain ⟨⟨F, fp, rfl, hF, hFl⟩, hb3⟩ := after_copy hn1 hown' hgrow; have hB3 := hB2.trans (hb3.mono hB2.size); have hat3 := hat.below hb3; have hwF : w.heap.size ≤ F := Nat.le_trans hB2.size hFl; have hGF : G < F := Nat.lt_of_lt_of_le hat.lt hFl; clear hown' hgrow hb3 hB2 hat) | (at_builtin; refine wpList_append_own (o := ⟨some 43, _, _, _, _, _⟩) _ rfl _ _ 22 rfl w3.heap.size 3 i0 (.int .i64 0) 1 8 Try.underlying22 hi hz0 hz1 hz2 rfl (by decide) _ 0 [] rfl (empty_own w3) ⟨G, 0, none⟩ n cp ((List.range n).map fun i => Value.int .i64 ((d i : Nat) : Int)) rfl (by simp) (Hid.out (Lib.hid (hat3.alloc (.cells #[] 3)).news)) HR.out (by unfold maxLen; omega) (by omega) (by simp) ?_; intro v' w4 hown' hgrow _; obtain ⟨⟨A, ap, rfl, hA, hAl⟩, hb4⟩ := after_copy hn1 hown' hgrow; have hB4 := hB3.trans (hb4.mono hB3.size); have hat4 := hat3.below hb4; have hF4 := hF.below hb4; have hwA : w.heap.size ≤ A := Nat.le_trans hB3.size hAl; have hFA : F < A := Nat.lt_of_lt_of_le hF.lt hAl; clear hown' hgrow hb4 hB3 hat3 hF HR))
  go_loopw [18] (fun v wr => ∃ (k : Nat) (fl : Nat → Nat), k ≤ n ∧ v = .int .i64 k ∧ IntsAt wr G n d ∧ IntsAt wr F n fl ∧ IntsAt wr A n (fun j => if j < k ∧ j ≠ i then 1000000 else d j) ∧ (∀ j, j < n → d j ≤ fl j ∧ fl j ≤ 1000000) ∧ fl i = d i ∧ Below w.heap.size w wr) (fun v _ => n - (intOf v).toNat)
  case atStart => exact ⟨0, d, by omega, rfl, hat4, hF4, hA.congr (fun j _ => by rw [if_neg (by omega)]), fun j hj => ⟨Nat.le_refl _, hd j hj⟩, rfl, hB4⟩
  case round =>
    obtain ⟨k, fl, hk, rfl, hg, hf, ha, hfl, hfi, hB⟩ := hrel
    clear hat4 hF4 hA hB4
    have HFL := Lib.hid hfl
    have HFI := Lib.hid hfi
    clear hfl hfi
    by_cases hlt : k < n
    · have k0 : (0 : Int) ≤ (k : Int) := by omega
      have k1 : (k : Int) < (n : Int) := by omega
      by_cases hki : k = i
      · have e1 : ((k : Int) == (i : Int)) = true := by simp [hki]
        have e2 : (k == i) = true := by simp [hki]
        have HKI := Lib.hid hki
        clear hki
        go_wp2_with fail
        exact ⟨⟨k + 1, fl, by omega, by go_num, hg, hf, ha.congr (fun j _ => by
          by_cases h : j < k ∧ j ≠ i
          · rw [if_pos h, if_pos ⟨by omega, h.2⟩]
          · rw [if_neg h, if_neg (fun x => h ⟨by have := x.1; have := x.2; have := HKI.out; omega, x.2⟩)]), HFL.out, HFI.out, hB⟩, by simp [intOf]; omega⟩
      · have e1 : ((k : Int) == (i : Int)) = false := by simp; omega
        have e2 : (k == i) = false := by simp; omega
        have x5 := ha.free k
        have x6 := ha.cell k hlt
        rw [if_neg (by omega)] at x6
        have HKI := Lib.hid hki
        have hka : ∀ W, IntsAt W A n (fun j => if j < k ∧ j ≠ i then 1000000 else d j) → IntsAt (W.setCell ⟨A, k, none⟩ (.int .i64 1000000)) A n (fun j => if j < k + 1 ∧ j ≠ i then 1000000 else d j) := fun W h => (h.set k 1000000 hlt).congr (fun j _ => by
          by_cases e : j = k
          · subst e; rw [if_pos ⟨by omega, HKI.out⟩, if_pos rfl]
          · rw [if_neg e]
            by_cases h : j < k ∧ j ≠ i
            · rw [if_pos h, if_pos ⟨by omega, h.2⟩]
            · rw [if_neg h, if_neg (fun x => h ⟨by have := x.1; omega, x.2⟩)])
        have HKA := Lib.hid hka
        clear hki hka
        by_cases hm : k < m0
        · obtain ⟨bm, om, rfl, hbm, hcm⟩ := HIN2.out.cell k hm
          have c1 : wr.cell? ⟨bm, om + k, none⟩ = some (.int .i64 (g k)) := (hB.cell (p := ⟨bm, om + k, none⟩) hbm).trans (hcm k hm)
          have c2 := hg.cell k hlt
          have c3 := hf.free k
          have c4 := hf.cell k hlt
          have hgb := HIN2.out.bd k hm
          have m1 : (k : Int) < (m0 : Int) := by omega
          have hu := pickN_lt (g k) (show 0 < 100 by omega)
          have q1 := fun W => pick_any (g k) 100 100 W rfl hgb.1 hgb.2 (by omega) (by omega)
          obtain ⟨u, hue⟩ : ∃ u, pickN (g k) 100 = u := ⟨_, rfl⟩
          rw [hue] at hu q1
          have Q1 := Lib.hid q1
          have hdk := hd k hlt
          obtain ⟨x, hx⟩ : ∃ x, d k = x := ⟨_, rfl⟩
          rw [hx] at c2 hdk
          have HX := Lib.hid hx
          clear hcm q1 hue hx
          obtain ⟨mm, hmm⟩ : ∃ mm, min 1000000 (x + u) = mm := ⟨_, rfl⟩
          have HIF : Hid ((if IntKind.i64.wrap ((x : Int) + (u : Int)) < 1000000 then IntKind.i64.wrap ((x : Int) + (u : Int)) else 1000000) = (mm : Int)) := by rw [IntWalk.i64_in ((x : Int) + (u : Int)) (by omega), ← hmm]; exact Lib.hid (by split <;> omega)
          have HMM := Lib.hid hmm
          clear hmm
          go_wp2_with fail
          go_region_held3 (fun w' => w'.cell? ⟨G, k, none⟩ = some (.int .i64 ((x : Nat) : Int)) ∧ w'.cell? ⟨bm, om + k, none⟩ = some (.int .i64 (g k))) (first | exact ⟨by assumption, by assumption⟩ | exact ⟨(cell_other (by omega)).trans c2, (cell_other (by omega)).trans c1⟩ | go_keep) ((go_at_call 12; refine (Q1.out _).mono ?_; rintro e w' ⟨rfl, rfl⟩))
          rw [HIF.out]
          have hg5 := (hg.other (b := F) (i := k) (by omega) (.int .i64 (mm : Int))).drew
          have hf5 := (hf.set k mm hlt).drew
          have ha5 := (ha.other (b := F) (i := k) (by omega) (.int .i64 (mm : Int))).drew
          have hB5 := (Below_set hB (b := F) (i := k) hwF (.int .i64 (mm : Int))).drew
          obtain ⟨wa, hwa⟩ : ∃ wa, (wr.setCell ⟨F, k, none⟩ (.int .i64 (mm : Int))).drew = wa := ⟨_, rfl⟩
          rw [hwa] at hg5 hf5 ha5 hB5 ⊢
          clear hwa hg hf ha hB x5 x6 c1 c2 c3 c4
          have x5 := ha5.free k
          have x6 := ha5.cell k hlt
          rw [if_neg (by omega)] at x6
          go_wp2_with fail
          exact ⟨⟨k + 1, fun j => if j = k then mm else fl j, by omega, by go_num, hg5.other (by omega) _, hf5.other (by omega) _, HKA.out _ ha5, fun j hj => by
            by_cases e : j = k
            · have h1 := HX.out
              have h2 := HMM.out
              have h3 := hd k hlt
              simp only [e, if_true]; omega
            · simp only [e, if_false]; exact HFL.out j hj, by
            have := HKI.out
            show (if i = k then mm else fl i) = d i
            rw [if_neg (fun e => this e.symm)]; exact HFI.out, Below_set hB5 (by omega) _⟩, by simp [intOf]; omega⟩
        · have hm1 : ¬ (k : Int) < (m0 : Int) := by omega
          go_wp2_with fail
          exact ⟨⟨k + 1, fl, by omega, by go_num, hg.other (by omega) _, hf.other (by omega) _, HKA.out _ ha, HFL.out, HFI.out, Below_set hB (by omega) _⟩, by simp [intOf]; omega⟩
    · obtain rfl : n = k := by omega
      have hal : IntsAt wr A n (fun j => if j = i then d j else 1000000) := ha.congr (fun j hj => by
        by_cases e : j = i
        · rw [if_pos e, if_neg (fun x => x.2 e)]
        · rw [if_neg e, if_pos ⟨hj, e⟩])
      clear ha
      go_wp2_with fail
      refine (divide_any c n t d _ cp _ (by omega) hn1 hn8 ht hd hg.reads).mono ?_
      rintro e w5 ⟨R1, s1, rfl, hR1, hs1, hdiv1, hb⟩
      have hg1 := hg.below hb
      have hf1 := hf.below hb
      have ha1 := hal.below hb
      have hB1 := hB.trans (hb.mono hB.size)
      have D1 := Lib.hid hdiv1
      clear hg hf hal hB hb hdiv1
      go_wp2_with fail
      refine (divide_any c n t fl _ fp _ (by omega) hn1 hn8 ht (fun j hj => (HFL.out j hj).2) hf1.reads).mono ?_
      rintro e w6 ⟨R2, s2, rfl, hR2, hs2, hdiv2, hb⟩
      have ha2 := ha1.below hb
      have hs12 := hs1.below hb
      have hB2 := hB1.trans (hb.mono hB1.size)
      have D2 := Lib.hid hdiv2
      have hg2 := hg1.below hb
      clear hg1 hf1 ha1 hB1 hs1 hb hdiv2
      go_wp2_with fail
      refine (divide_any c n t (fun j => if j = i then d j else 1000000) _ ap _ (by omega) hn1 hn8 ht (fun j hj => by have := hd j hj; show (if j = i then d j else 1000000) ≤ 1000000; split <;> omega) ha2.reads).mono ?_
      rintro e w7 ⟨R3, s3, rfl, hR3, hs3, hdiv3, hb⟩
      have hs13 := hs12.below hb
      have hg3 := hg2.below hb
      have hs23 := hs2.below hb
      have hB3 := hB2.trans (hb.mono hB2.size)
      have g1 : s2 i ≤ s1 i := D1.out.guards D2.out ht hi2 (fun j hj => (HFL.out j hj).1) HFI.out
      have g2 : s3 i ≤ s2 i := D2.out.guards hdiv3 ht hi2 (fun j hj => by
        show fl j ≤ if j = i then d j else 1000000
        by_cases e : j = i
        · rw [if_pos e, e, HFI.out]; exact Nat.le_refl _
        · rw [if_neg e]; exact (HFL.out j hj).2) (by show (if i = i then d i else 1000000) = fl i; rw [if_pos rfl, HFI.out])
      have g3 : min (d i) (c / n) ≤ s3 i := by
        have := hdiv3.even (i := i) hi2
        rwa [if_pos rfl] at this
      have x1 := hs13.cell i hi2
      have x2 := hs23.cell i hi2
      have x3 := hs3.cell i hi2
      have x4 := hg3.cell i hi2
      obtain ⟨y1, e1⟩ : ∃ y, s1 i = y := ⟨_, rfl⟩
      obtain ⟨y2, e2⟩ : ∃ y, s2 i = y := ⟨_, rfl⟩
      obtain ⟨y3, e3⟩ : ∃ y, s3 i = y := ⟨_, rfl⟩
      obtain ⟨y4, e4⟩ : ∃ y, d i = y := ⟨_, rfl⟩
      obtain ⟨q, eq⟩ : ∃ y, c / n = y := ⟨_, rfl⟩
      obtain ⟨mn, em⟩ : ∃ y, min y4 q = y := ⟨_, rfl⟩
      rw [e1] at x1 g1
      rw [e2] at x2 g1 g2
      rw [e3] at x3 g2 g3
      rw [e4] at x4 g3
      rw [eq] at g3
      rw [em] at g3
      have i1 : (if (q : Int) < (y4 : Int) then (q : Int) else (y4 : Int)) = (mn : Int) := by rw [← em]; split <;> omega
      have i2 : (if q < y4 then (q : Int) else (y4 : Int)) = (mn : Int) := by rw [← em]; split <;> omega
      have i3 : (c : Int) / (n : Int) = (q : Int) := by rw [← eq]; simp
      have hq2 : q ≤ 1000000 := by rw [← eq]; exact Nat.le_trans (Nat.div_le_self c n) (by omega)
      have k0 : (0 : Int) ≤ (i : Int) := by omega
      have k1 : (i : Int) < (n : Int) := by omega
      have t1 : decide (y2 ≤ y1) = true := decide_eq_true g1
      have t2 : decide (y3 ≤ y2) = true := decide_eq_true g2
      have t3 : decide (mn ≤ y3) = true := decide_eq_true g3
      clear ha2 hs12 hs2 hB2 hb hdiv3 e1 e2 e3 e4 eq em g1 g2 g3 hg2
      go_wp2_with fail
      go_quiet (fail)
      go_wp2_with fail
      go_ret
      exact ⟨rfl, Below_drewN hB3 _⟩
end Go.Proofs.Ytdodhfodojjfeaa
