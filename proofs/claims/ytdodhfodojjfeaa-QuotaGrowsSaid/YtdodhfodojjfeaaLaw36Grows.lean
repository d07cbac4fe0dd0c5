/- QuotaGrows returns true. Condition: a slice of numbers that came in. -/
import Derived.Test.YtdodhfodojjfeaaLaw36Copy
import Derived.Deep.RegionHeld3
namespace Go.Proofs.Ytdodhfodojjfeaa
open Go Go.RowKit Go.Shelf
theorem min_cap (c v : Nat) (hc : c < 1000001) (hv : v < 100) : ∃ s c9 : Nat, (c : Int) + (v : Int) = (s : Int) ∧ s ≤ 1000200 ∧ (c ≤ c9 ∧ c9 ≤ 1000000) ∧ (if (s : Int) < 1000000 then (s : Int) else 1000000) = (c9 : Int) := by
  by_cases h : c + v < 1000000
  · exact ⟨c + v, c + v, by omega, by omega, ⟨by omega, by omega⟩, by rw [if_pos (by omega)]⟩
  · exact ⟨c + v, 1000000, by omega, by omega, ⟨by omega, by omega⟩, by rw [if_neg (by omega)]; rfl⟩
set_option maxRecDepth 100000 in
set_option maxHeartbeats 4000000 in
theorem quotaGrows_any (a0 a2 a3 a4 a5 : Int) (p : Option Addr) (n0 c0 : Nat) (f : Nat → Int) (w : World) (hin : IntsIn w p n0 f)
    (b0 : -9223372036854775808 ≤ a0 ∧ a0 ≤ 9223372036854775807) (b2 : -9223372036854775808 ≤ a2 ∧ a2 ≤ 9223372036854775807) (b3 : -9223372036854775808 ≤ a3 ∧ a3 ≤ 9223372036854775807) (b4 : -9223372036854775808 ≤ a4 ∧ a4 ≤ 9223372036854775807) (b5 : -9223372036854775808 ≤ a5 ∧ a5 ≤ 9223372036854775807) :
    Calls Try.prog 5 #[.int .i64 a0, .slice p n0 c0, .int .i64 a2, .int .i64 a3, .int .i64 a4, .int .i64 a5] w fun e w' => e = .returned (.bool true) ∧ Below w.heap.size w w' := by
  obtain ⟨i0, hi, hz0, hz1, hz2⟩ := info_parts Try.infoInt
  have HIN := Lib.hid hin
  clear hin
  go_enter Try.func5, Try.ntmps5
  go_wp2_with fail
  refine (sane_any w).mono ?_
  rintro e w1 ⟨rfl, hB1⟩
  go_wp2_with fail
  refine (demands_any p n0 c0 f w1 (HIN.out.below hB1)).mono ?_
  rintro e w2 ⟨G, n, cp, d, rfl, hn1, hn8, hd, hG, hat, hb2⟩
  have hB2 := hB1.trans (hb2.mono hB1.size)
  have hwG : w.heap.size ≤ G := Nat.le_trans hB1.size hG
  clear hb2 hB1
  go_wp2_with fail
  refine (pick_any a0 1000001 1000001 _ rfl b0.1 b0.2 (by omega) (by omega)).mono ?_
  rintro e w3 ⟨rfl, rfl⟩
  have hc := pickN_lt a0 (show 0 < 1000001 by omega)
  obtain ⟨c, hce⟩ : ∃ c, pickN a0 1000001 = c := ⟨_, rfl⟩
  rw [hce] at hc ⊢
  clear hce
  go_wp2_with fail
  refine (pick_any a2 n n _ rfl b2.1 b2.2 (by omega) (by omega)).mono ?_
  rintro e w3 ⟨rfl, rfl⟩
  have ht := pickN_lt a2 (show 0 < n by omega)
  obtain ⟨t, hte⟩ : ∃ t, pickN a2 n = t := ⟨_, rfl⟩
  rw [hte] at ht ⊢
  clear hte
  go_wp2_with fail
  refine (pick_any a4 n n _ rfl b4.1 b4.2 (by omega) (by omega)).mono ?_
  rintro e w3 ⟨rfl, rfl⟩
  have hi2 := pickN_lt a4 (show 0 < n by omega)
  obtain ⟨i, hie⟩ : ∃ i, pickN a4 n = i := ⟨_, rfl⟩
  rw [hie] at hi2 ⊢
  clear hie
  have HR := Lib.hid (range_ints d n)
  go_wp2_with (at_builtin; refine wpList_append_own (o := ⟨some 41, _, _, _, _, _⟩) _ rfl _ _ 22 rfl w2.heap.size 3 i0 (.int .i64 0) 1 8 Try.underlying22 hi hz0 hz1 hz2 rfl (by decide) _ 0 [] rfl (empty_own w2) ⟨G, 0, none⟩ n cp ((List.range n).map fun i => Value.int .i64 ((d i : Nat) : Int)) rfl (by simp) (Hid.out (Lib.hid (hat.alloc (.cells #[] 3)).news)) HR.out (by unfold maxLen; omega) (by omega) (by simp) ?_; intro v' w3 hown' hgrow _; obtain ⟨⟨F, fp, rfl, hF, hFl⟩, hb3⟩ := after_copy hn1 hown' hgrow; have hB3 := hB2.trans (hb3.mono hB2.size); have hat3 := hat.below hb3; have hwF : w.heap.size ≤ F := Nat.le_trans hB2.size hFl; have hGF : G < F := Nat.lt_of_lt_of_le hat.lt hFl; clear hown' hgrow hb3 hB2 hat)
  clear HR
  have hu := pickN_lt a5 (show 0 < 1000 by omega)
  have q1 := fun W => pick_any a5 1000 1000 W rfl b5.1 b5.2 (by omega) (by omega)
  obtain ⟨u, hue⟩ : ∃ u, pickN a5 1000 = u := ⟨_, rfl⟩
  rw [hue] at hu q1
  have Q1 := Lib.hid q1
  have c2 := hat3.cell i hi2
  have c3 := hF.free i
  have c4 := hF.cell i hi2
  have hdi := hd i hi2
  have k0 : (0 : Int) ≤ (i : Int) := by omega
  have k1 : (i : Int) < (n : Int) := by omega
  obtain ⟨x, hx⟩ : ∃ x, d i = x := ⟨_, rfl⟩
  rw [hx] at c2 hdi c4
  obtain ⟨mm, hmm⟩ : ∃ mm, min 1000000 (x + u) = mm := ⟨_, rfl⟩
  have HIF : Hid ((if IntKind.i64.wrap ((x : Int) + (u : Int)) < 1000000 then IntKind.i64.wrap ((x : Int) + (u : Int)) else 1000000) = (mm : Int)) := by rw [IntWalk.i64_in ((x : Int) + (u : Int)) (by omega), ← hmm]; exact Lib.hid (by split <;> omega)
  have HMM := Lib.hid hmm
  have HX := Lib.hid hx
  clear hmm hx q1 hue
  go_region_held3 (fun w' => w'.cell? ⟨G, i, none⟩ = some (.int .i64 ((x : Nat) : Int))) (first | assumption | exact (cell_other (by omega)).trans c2 | go_keep) ((go_at_call 12; refine (Q1.out _).mono ?_; rintro e w' ⟨rfl, rfl⟩))
  rw [HIF.out]
  have hg5 := (hat3.other (b := F) (i := i) (by omega) (.int .i64 (mm : Int))).drew
  have hf5 := (hF.set i mm hi2).drew
  have hB5 := (Below_set hB3 (b := F) (i := i) hwF (.int .i64 (mm : Int))).drew
  obtain ⟨wa, hwa⟩ : ∃ wa, (w3.setCell ⟨F, i, none⟩ (.int .i64 (mm : Int))).drew = wa := ⟨_, rfl⟩
  rw [hwa] at hg5 hf5 hB5 ⊢
  clear hwa hat3 hF hB3 c2 c3 c4
  have hfd : ∀ j, j < n → (fun j => if j = i then mm else d j) j ≤ 1000000 := fun j hj => by
    have h1 := HMM.out
    have h2 := hd j hj
    show (if j = i then mm else d j) ≤ 1000000
    split <;> omega
  go_wp2_with fail
  refine (divide_any c n t d _ cp _ (by omega) hn1 hn8 ht hd hg5.reads).mono ?_
  rintro e w5 ⟨R1, s1, rfl, hR1, hs1, hdiv1, hb⟩
  have hg1 := hg5.below hb
  have hf1 := hf5.below hb
  have hB1 := hB5.trans (hb.mono hB5.size)
  have D1 := Lib.hid hdiv1
  clear hg5 hf5 hB5 hb hdiv1
  have hv := pickN_lt a3 (show 0 < 100 by omega)
  go_wp2_with fail
  refine (pick_any a3 100 100 _ rfl b3.1 b3.2 (by omega) (by omega)).mono ?_
  rintro e w6 ⟨rfl, rfl⟩
  obtain ⟨v, hve⟩ : ∃ v, pickN a3 100 = v := ⟨_, rfl⟩
  rw [hve] at hv ⊢
  obtain ⟨s, c9, z1, z3, hc9, z2⟩ := min_cap c v hc hv
  have HC9 := Lib.hid hc9
  clear hve hc9
  go_wp2_with fail
  refine (divide_any c9 n t d _ cp _ HC9.out.2 hn1 hn8 ht hd hg1.reads).mono ?_
  rintro e w6 ⟨R2, s2, rfl, hR2, hs2, hdiv2, hb⟩
  have hf2 := hf1.below hb
  have hg2 := hg1.below hb
  have hs12 := hs1.below hb
  have hB2 := hB1.trans (hb.mono hB1.size)
  have D2 := Lib.hid hdiv2
  clear hg1 hf1 hB1 hs1 hb hdiv2 z1 z2 z3 hv
  go_wp2_with fail
  refine (divide_any c n t (fun j => if j = i then mm else d j) _ fp _ (by omega) hn1 hn8 ht hfd hf2.reads).mono ?_
  rintro e w7 ⟨R3, s3, rfl, hR3, hs3, hdiv3, hb⟩
  have hg3 := hg2.below hb
  have hs13 := hs12.below hb
  have hs23 := hs2.below hb
  have hB3 := hB2.trans (hb.mono hB2.size)
  have hmono : ∀ k, k < n → s1 k ≤ s2 k := fun k hk => D1.out.grows D2.out ht hk HC9.out.1
  have hboast : min (d i) (s3 i) = s1 i := D1.out.boast hdiv3 hi2 (fun k hk e => by show (if k = i then mm else d k) = d k; rw [if_neg e]) (by
    show d i ≤ if i = i then mm else d i
    have h1 := HMM.out
    have h2 := HX.out
    rw [if_pos rfl]; omega)
  have HMO := Lib.hid hmono
  have HBO := Lib.hid hboast
  clear hf2 hg2 hB2 hs2 hs12 hb hdiv3 hmono hboast hfd
  go_wp2_with fail
  go_loopw [25] (fun z wr => ∃ k : Nat, k ≤ n ∧ z = .int .i64 k ∧ IntsAt wr R1 n s1 ∧ IntsAt wr R2 n s2 ∧ IntsAt wr R3 n s3 ∧ IntsAt wr G n d ∧ Below w.heap.size w wr) (fun z _ => n - (intOf z).toNat)
  case atStart => exact ⟨0, by omega, rfl, hs13, hs23, hs3, hg3, hB3⟩
  case round =>
    obtain ⟨k, hk, rfl, h1, h2, h3, h4, hB⟩ := hrel
    clear hs13 hs23 hs3 hg3 hB3
    by_cases hlt : k < n
    · have x1 := h1.cell k hlt
      have x2 := h2.cell k hlt
      have hle := HMO.out k hlt
      have j0 : (0 : Int) ≤ (k : Int) := by omega
      have j1 : (k : Int) < (n : Int) := by omega
      obtain ⟨y1, e1⟩ : ∃ y, s1 k = y := ⟨_, rfl⟩
      obtain ⟨y2, e2⟩ : ∃ y, s2 k = y := ⟨_, rfl⟩
      rw [e1] at x1 hle
      rw [e2] at x2 hle
      have t1 : decide (y2 < y1) = false := decide_ff (by omega)
      clear e1 e2 hle
      go_wp2_with fail
      go_quiet (fail)
      go_wp2_with fail
      exact ⟨⟨k + 1, by omega, by go_num, h1.drewN _, h2.drewN _, h3.drewN _, h4.drewN _, Below_drewN hB _⟩, by simp [intOf]; omega⟩
    · obtain rfl : n = k := by omega
      have x1 := h1.cell i hi2
      have x3 := h3.cell i hi2
      have x4 := h4.cell i hi2
      have hbo := HBO.out
      obtain ⟨y1, e1⟩ : ∃ y, s1 i = y := ⟨_, rfl⟩
      obtain ⟨y3, e3⟩ : ∃ y, s3 i = y := ⟨_, rfl⟩
      obtain ⟨y4, e4⟩ : ∃ y, d i = y := ⟨_, rfl⟩
      rw [e1] at x1 hbo
      rw [e3] at x3 hbo
      rw [e4] at x4 hbo
      have i1 : (if (y3 : Int) < (y4 : Int) then (y3 : Int) else (y4 : Int)) = (y1 : Int) := by rw [← hbo]; split <;> omega
      have i2 : (if y3 < y4 then (y3 : Int) else (y4 : Int)) = (y1 : Int) := by rw [← hbo]; split <;> omega
      clear e1 e3 e4 hbo
      go_wp2_with fail
      go_quiet (fail)
      go_wp2_with fail
      go_ret
      exact ⟨rfl, Below_drewN hB _⟩
end Go.Proofs.Ytdodhfodojjfeaa
