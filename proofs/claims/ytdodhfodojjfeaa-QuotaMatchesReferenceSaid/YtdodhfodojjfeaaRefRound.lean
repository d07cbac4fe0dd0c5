/- The reference of chapter 36: Round. Conditions: slices that can be read; numbers of 64 bits. -/
import Derived.Test.YtdodhfodojjfeaaRefValid
import Derived.Test.YtdodhfodojjfeaaRefBad
import Derived.Deep.AppendLies
import Derived.Deep.DeepMust
namespace Go.Proofs.Ytdodhfodojjfeaa
open Go Go.RowKit Go.Shelf
theorem rown_ne {W : World} {base : Nat} {e : TypeId} {size : Nat} {v : Value} {n : Nat} {xs : List Value} (h : W.ownsRow base e size v n xs) {b : Nat} (hb : b < base) : some b ≠ v.ownBlock := fun e => by have := (h.lt b e.symm).1; omega
theorem own_apart {u v : Value} (h : ∀ g, v.ownBlock = some g → u.ownBlock ≠ some g) : u.ownBlock = none ∨ u.ownBlock ≠ v.ownBlock := by
  cases hv : v.ownBlock with
  | none => cases hu : u.ownBlock with
    | none => exact .inl rfl
    | some _ => exact .inr (by simp)
  | some g => exact .inr (h g hv)
theorem cell_one_at (w : World) (B : Nat) (hB : w.heap.size = B) (x : Value) (t : TypeId) : ∀ j u, [x][j]? = some u → (w.alloc (.cells #[x] t)).cell? ((⟨B, 0, none⟩ : Addr).add j) = some u := by subst hB; exact cell_one_new w x t
theorem range_succ_map (f : Nat → Value) (k : Nat) : (List.range (k + 1)).map f = (List.range k).map f ++ [f k] := by rw [List.range_succ, List.map_append]; rfl
set_option maxRecDepth 100000 in
set_option maxHeartbeats 4000000 in
theorem ref_round_any (cap t lim n c m : Nat) (p q : Option Addr) (wt ar : Nat → Nat) (w : World) (hcap : cap ≤ 1000000) (hlim : lim ≤ 1000000) (hn1 : 1 ≤ n) (hn : n ≤ 8) (ht : t < n)
    (hwt : ∀ i, i < n → wt i ≤ lim) (har : ∀ i, i < n → ar i ≤ 1000000) (hp : ReadsI w p n (fun i => ((wt i : Nat) : Int))) (hq : ReadsI w q n (fun i => ((ar i : Nat) : Int))) :
    Calls Try.prog 21 #[.agg #[.int .i64 (cap : Int), .int .i64 (t : Int), .int .i64 (lim : Int), .slice p n c], .slice q n m] w (IsRound w cap t lim n wt ar) := by
  have hok : QuotaOk cap t lim n (fun i => ((wt i : Nat) : Int)) := ⟨⟨by omega, by omega⟩, ⟨by omega, by omega⟩, ⟨hn1, hn, fun i hi => ⟨by show (0:Int) ≤ (wt i : Nat); omega, by have := hwt i hi; show ((wt i : Nat) : Int) ≤ 1000000; omega⟩⟩, by omega, by omega, fun i hi => by have := hwt i hi; show ((wt i : Nat) : Int) ≤ lim; omega⟩
  have hda : demandsB n (fun i => ((ar i : Nat) : Int)) := ⟨hn1, hn, fun i hi => ⟨by show (0:Int) ≤ (ar i : Nat); omega, by have := har i hi; show ((ar i : Nat) : Int) ≤ 1000000; omega⟩⟩
  obtain ⟨i0, hi0, hj0, hj1, hj2⟩ := info_parts Try.infoInt
  have HP := Lib.hid hp
  have HQ := Lib.hid hq
  have HV := fun W (hb : Below w.heap.size w W) => (ref_valid_any cap t lim p n c (fun i => ((wt i : Nat) : Int)) W (by unfold maxLen; omega) (HP.out.below hb)).mono fun e w' ⟨h1, h2⟩ => (⟨h1.yes hok, h2⟩ : e = Ending.returned (.bool true) ∧ Below W.heap.size W w')
  have HA := fun W (hb : Below w.heap.size w W) => (ref_units_any q n m (fun i => ((ar i : Nat) : Int)) W (by unfold maxLen; omega) (HQ.out.below hb)).mono fun e w' ⟨h1, h2⟩ => (⟨h1.yes hda, h2⟩ : e = Ending.returned (.bool true) ∧ W = w')
  have HV' := Lib.hid HV
  have HA' := Lib.hid HA
  have hB0 := ((Below.refl w.heap.size w).alloc (Nat.le_refl _) (.cells #[.int .i64 (cap : Int), .int .i64 (t : Int), .int .i64 (lim : Int), .slice p n c] 35)).alloc (by simp) (.cells #[.int .i64 0, .int .i64 0, .int .i64 0, .slice none 0 0] 35)
  have hx0 := (QBox.new w cap t lim (.slice p n c)).alloc (.cells #[.int .i64 0, .int .i64 0, .int .i64 0, .slice none 0 0] 35)
  have hy0 := QBox.new (w.alloc (.cells #[.int .i64 (cap : Int), .int .i64 (t : Int), .int .i64 (lim : Int), .slice p n c] 35)) 0 0 0 (.slice none 0 0)
  clear hp hq HV HA hok hda
  go_enter Try.func21, Try.ntmps21
  go_wp2_with fail
  refine (HV'.out _ hB0).mono ?_
  rintro e w1 ⟨rfl, hb1⟩
  have hB1 := hB0.trans (hb1.mono hB0.size)
  have hx1 := hx0.below hb1
  have hy1 := hy0.below hb1
  rw [World.size_alloc] at hy1
  obtain ⟨x0, x1, x2, x3⟩ := hx1.cells
  clear hx0 hy0 hB0 hb1
  go_wp2_with fail
  refine (HA'.out _ hB1).mono ?_
  rintro e w2 ⟨rfl, rfl⟩
  have hyl := hy1.lt
  have hx2 := hx1.alloc (.cells #[.int .i64 (cap : Int), .int .i64 (t : Int), .int .i64 (lim : Int), .slice none 0 0] 35)
  have hy2 := hy1.alloc (.cells #[.int .i64 (cap : Int), .int .i64 (t : Int), .int .i64 (lim : Int), .slice none 0 0] 35)
  have hz2' := QBox.new w1 cap t lim (.slice none 0 0)
  have hB2 := hB1.alloc hB1.size (.cells #[.int .i64 (cap : Int), .int .i64 (t : Int), .int .i64 (lim : Int), .slice none 0 0] 35)
  clear hx1 hy1
  go_wp2_with fail
  obtain ⟨Z, hZ⟩ : ∃ Z, w1.heap.size = Z := ⟨_, rfl⟩
  obtain ⟨w2, hw2⟩ : ∃ w2, w1.alloc (.cells #[.int .i64 (cap : Int), .int .i64 (t : Int), .int .i64 (lim : Int), .slice none 0 0] 35) = w2 := ⟨_, rfl⟩
  rw [hw2] at hx2 hy2 hz2' hB2 ⊢
  rw [hZ] at hz2' hyl ⊢
  clear hw2 hZ x0 x1 x2 x3 hB1
  have hZl := hz2'.lt
  go_loopw [9, 10] (fun u z wr => ∃ (k : Nat) (v : Value), k ≤ n ∧ z = .int .i64 k ∧ QBox wr w.heap.size cap t lim (.slice p n c) ∧ QBox wr (w.heap.size + 1) 0 0 0 (.slice none 0 0) ∧ QBox wr Z cap t lim v ∧
    wr.ownsRow (Z + 1) 3 1 v k ((List.range k).map fun i => Value.int .i64 ((min (wt i + ar i) lim : Nat) : Int)) ∧ wr.ownsRow (Z + 1) 3 1 u k ((List.range k).map fun i => Value.int .i64 ((wt i + ar i - min (wt i + ar i) lim : Nat) : Int)) ∧
    (∀ g, v.ownBlock = some g → u.ownBlock ≠ some g) ∧ Below w.heap.size w wr ∧ Z + 1 ≤ wr.heap.size) (fun _ z _ => n - (intOf z).toNat)
  case atStart => exact ⟨0, _, by omega, rfl, hx2, hy2, hz2', World.ownsRow_nil _ _ _ _, World.ownsRow_nil _ _ _ _, fun g hg => by simp [Value.ownBlock] at hg, hB2, hZl⟩
  case round =>
    obtain ⟨k, v, hk, rfl, hx, hy, hz, hv, hu, hvu, hB, hsz⟩ := hrel
    clear hx2 hy2 hz2' hB2 hZl
    by_cases hlt : k < n
    · obtain ⟨vp, vc, rfl⟩ : ∃ vp vc, v = .slice vp k vc := by
        rcases hv.2 with ⟨h, h0⟩ | ⟨g, cap, cur, h, _⟩
        · exact ⟨none, 0, by rw [h, h0]⟩
        · exact ⟨_, _, h⟩
      obtain ⟨up, uc, rfl⟩ : ∃ vp vc, u9 = .slice vp k vc := by
        rcases hu.2 with ⟨h, h0⟩ | ⟨g, cap, cur, h, _⟩
        · exact ⟨none, 0, by rw [h, h0]⟩
        · exact ⟨_, _, h⟩
      obtain ⟨bp, op1, rfl, hcp⟩ := HP.out.below hB k hlt
      obtain ⟨bq, oq1, rfl, hcq⟩ := HQ.out.below hB k hlt
      have c1 : wr.cell? ⟨bp, op1 + k, none⟩ = some (.int .i64 ((wt k : Nat) : Int)) := hcp k hlt
      have c2 : wr.cell? ⟨bq, oq1 + k, none⟩ = some (.int .i64 ((ar k : Nat) : Int)) := hcq k hlt
      have hak := har k hlt
      have hwk := hwt k hlt
      obtain ⟨x0, x1, x2, x3⟩ := hx.cells
      have k0 : (0 : Int) ≤ (k : Int) := by omega
      have k1 : (k : Int) < (n : Int) := by omega
      obtain ⟨x, hx9⟩ : ∃ x, wt k = x := ⟨_, rfl⟩
      obtain ⟨y, hy9⟩ : ∃ y, ar k = y := ⟨_, rfl⟩
      rw [hx9] at c1 hwk
      rw [hy9] at c2 hak
      obtain ⟨s, hs9⟩ : ∃ s, x + y = s := ⟨_, rfl⟩
      have hs2 : s ≤ 2000000 := by omega
      have E1 : IntKind.i64.wrap ((x : Int) + (y : Int)) = (s : Int) := by rw [IntWalk.i64_in _ (by omega)]; omega
      have HX9 := Lib.hid hx9
      have HY9 := Lib.hid hy9
      have HS9 := Lib.hid hs9
      clear hcp hcq hx9 hy9 hs9
      go_wp2_with fail
      go_quiet (fail)
      have hx1 : QBox (wr.drewN nq) w.heap.size cap t lim (.slice (some ⟨bp, op1, none⟩) n c) := hx
      have hy1 : QBox (wr.drewN nq) (w.heap.size + 1) 0 0 0 (.slice none 0 0) := hy
      have hz1 : QBox (wr.drewN nq) Z cap t lim (.slice vp k vc) := hz
      have hv1 : (wr.drewN nq).ownsRow (Z + 1) 3 1 (.slice vp k vc) k ((List.range k).map fun i => Value.int .i64 ((min (wt i + ar i) lim : Nat) : Int)) := hv
      have hu1 : (wr.drewN nq).ownsRow (Z + 1) 3 1 (.slice up k uc) k ((List.range k).map fun i => Value.int .i64 ((wt i + ar i - min (wt i + ar i) lim : Nat) : Int)) := hu
      have hB1 := Below_drewN hB nq
      have hsz1 : Z + 1 ≤ (wr.drewN nq).heap.size := hsz
      obtain ⟨wd, hwd⟩ : ∃ wd, wr.drewN nq = wd := ⟨_, rfl⟩
      rw [hwd] at hx1 hy1 hz1 hv1 hu1 hB1 hsz1 ⊢
      clear hwd hx hy hz hv hu hB hsz c1 c2 x0 x1 x2 x3 E1
      obtain ⟨x0, x1, x2, x3⟩ := hx1.cells
      have z3 := hz1.cells.2.2.2
      have z4 := hz1.free 3
      have hZ1 := hz1.lt
      obtain ⟨mm, hmm⟩ : ∃ m, min s lim = m := ⟨_, rfl⟩
      have m1 : (if (lim : Int) < (s : Int) then (lim : Int) else (s : Int)) = (mm : Int) := by rw [← hmm]; split <;> omega
      have m2 : (if lim < s then (lim : Int) else (s : Int)) = (mm : Int) := by rw [← hmm]; split <;> omega
      have m3 : mm ≤ s := by omega
      have HMM := Lib.hid hmm
      clear hmm x0 x1 x3
      go_wp2_with (at_builtin; (first
        | (refine wpList_append_lies (o := ⟨some 57, _, _, _, _, _⟩) _ rfl _ _ 22 rfl (Z + 1) 3 i0 (.int .i64 0) 1 8 Try.underlying22 hi0 hj0 hj1 hj2 rfl (by decide) (.slice vp k vc) k _ rfl (hv1.alloc _) ⟨wd.heap.size, 0, none⟩ 1 1 [.int .i64 _] rfl rfl (cell_one_new _ _ _) (by simp [Value.oneCell']) (by decide) (by unfold maxLen; omega) (by omega) (by simp; omega) _ rfl ?_; intro g cp1 w5 hown1 hgrow1 hat1 hlt1
           have hx5 := ((hx1.alloc _).kept hgrow1 (rown_ne hv1 (by omega))).other (b := Z) (i := 3) (by omega) (.slice (some ⟨g, 0, none⟩) (k + 1) cp1)
           have hy5 := ((hy1.alloc _).kept hgrow1 (rown_ne hv1 (by omega))).other (b := Z) (i := 3) (by omega) (.slice (some ⟨g, 0, none⟩) (k + 1) cp1)
           have hz5' := (hz1.alloc _).kept hgrow1 (rown_ne hv1 (by omega))
           have hz5 := hz5'.setW (.slice (some ⟨g, 0, none⟩) (k + 1) cp1)
           have z4 := hz5'.free 3
           have z3 := hz5'.cells.2.2.2
           have hu5 := ownsRow_setCell_below ((hu1.alloc _).kept hgrow1 (own_apart hvu)) (a := ⟨Z, 3, none⟩) (show Z < Z + 1 by omega) (.slice (some ⟨g, 0, none⟩) (k + 1) cp1)
           have hv5 := ownsRow_setCell_below hown1 (a := ⟨Z, 3, none⟩) (show Z < Z + 1 by omega) (.slice (some ⟨g, 0, none⟩) (k + 1) cp1)
           have hB5 := Below_set ((hB1.alloc hB1.size _).grown hgrow1 (by have := hB1.size; simp; omega) (fun j e => by have := (hv1.lt j e).1; omega)) (b := Z) (i := 3) (by omega) (.slice (some ⟨g, 0, none⟩) (k + 1) cp1)
           have hs5 : wd.heap.size + 1 ≤ w5.heap.size := by have := hgrow1.size; simpa using this
           have hug := hu1.lt
           obtain ⟨x0, x1, x2, x3⟩ := hx5.cells
           clear x0 x1 x3)
        | (go_must (refine wpList_append_lies (o := ⟨some 67, _, _, _, _, _⟩) _ rfl _ _ 22 rfl (Z + 1) 3 i0 (.int .i64 0) 1 8 Try.underlying22 hi0 hj0 hj1 hj2 rfl (by decide) (.slice up k uc) k _ rfl (hu5.alloc _) ⟨w5.heap.size, 0, none⟩ 1 1 [.int .i64 _] rfl rfl (cell_one_at _ _ (by simp) _ _) (by simp [Value.oneCell']) (by decide) (by unfold maxLen; omega) (by omega) (by simp; omega) _ rfl ?_); intro g2 cp2 w7 hown2 hgrow2 hat2 hlt2)
        ))
      have hg2 := hgrow2.size
      rw [World.size_alloc, World.size_setCell] at hg2
      have hap : ∀ g', (Value.slice up k uc).ownBlock = some g' → (Value.slice (some ⟨g, 0, none⟩) (k + 1) cp1).ownBlock ≠ some g' := fun g' h1 h2 => by
        have h3 : g = g' := by simpa [Value.ownBlock] using h2
        subst h3
        rcases hat1 with h4 | h4
        · exact hvu g h4 h1
        · rw [World.size_alloc] at h4
          have := (hug g h1).2
          omega
      have hsm : ((s - mm : Nat) : Int) = (s : Int) - (mm : Int) := by omega
      refine ⟨⟨k + 1, _, by omega, by go_num, (hx5.alloc _).kept hgrow2 (rown_ne hu5 (by omega)), (hy5.alloc _).kept hgrow2 (rown_ne hu5 (by omega)), (hz5.alloc _).kept hgrow2 (rown_ne hu5 (by omega)), ?_, ?_, ?_, (hB5.alloc hB5.size _).grown hgrow2 (by have := hB5.size; rw [World.size_alloc]; omega) (fun j e => by have := (hu5.lt j e).1; omega), by omega⟩, by simp [intOf]; omega⟩
      · rw [range_succ_map, HX9.out, HY9.out, HS9.out, HMM.out]
        exact (hv5.alloc _).kept hgrow2 (own_apart hap)
      · rw [range_succ_map, HX9.out, HY9.out, HS9.out, HMM.out, hsm]
        exact hown2
      · intro g' h1 h2
        have h3 : g = g' := by simpa [Value.ownBlock] using h1
        have h4 : g2 = g' := by simpa [Value.ownBlock] using h2
        subst h3
        subst h4
        rcases hat2 with h5 | h5
        · exact hap _ h5 rfl
        · rw [World.size_alloc, World.size_setCell] at h5
          omega
    · obtain rfl : n = k := by omega
      obtain ⟨G1, c1, rfl, hM, hG1⟩ := IntsAt.of_form hn1 hv
      obtain ⟨G3, c3, rfl, hDr, hG3⟩ := IntsAt.of_form hn1 hu
      have hne : G1 ≠ G3 := fun e => hvu G1 rfl (by rw [e]; rfl)
      obtain ⟨z0, z1, z2, z3⟩ := hx.cells
      obtain ⟨y0, y1, y2, y3⟩ := hz.cells
      clear hv hu hvu z2 y0 y1 y2 z3
      go_wp2_with fail
      refine (ref_divide_any cap n t (fun i => min (wt i + ar i) lim) _ c1 wr hcap hn1 hn ht (fun i hi => by show min (wt i + ar i) lim ≤ 1000000; omega) hM.reads).mono ?_
      rintro e w5 ⟨G2, sv, rfl, hG2, hsv, hdiv, hb5⟩
      have hle := (hdiv.fair ht).2.1
      have HDIV := Lib.hid hdiv
      have HLE := Lib.hid hle
      clear z0 z1 y3 hdiv hle
      have hx6 := hx.below hb5
      have hy6 := hy.below hb5
      have hz6 := hz.below hb5
      have hM6 := hM.below hb5
      have hD6 := hDr.below hb5
      have hB6 := hB.trans (hb5.mono hB.size)
      have hG1l := hM.lt
      have hDl2 := hDr.lt
      clear hx hy hz hM hDr hB hb5
      go_wp2_with fail
      obtain ⟨w6, rfl⟩ : ∃ w6 : World, w5 = w6 := ⟨_, rfl⟩
      go_loopw [14] (fun i wv => ∃ k : Nat, k ≤ n ∧ i = .int .i64 k ∧ QBox wv w.heap.size cap t lim (.slice p n c) ∧ QBox wv (w.heap.size + 1) 0 0 0 (.slice none 0 0) ∧ QBox wv Z cap t lim (.slice (some ⟨G1, 0, none⟩) n c1) ∧
        IntsAt wv G3 n (fun i => wt i + ar i - min (wt i + ar i) lim) ∧ IntsAt wv G2 n sv ∧ IntsAt wv G1 n (fun i => if i < k then min (wt i + ar i) lim - sv i else min (wt i + ar i) lim) ∧ Below w.heap.size w wv) (fun i _ => n - (intOf i).toNat)
      case atStart => exact ⟨0, by omega, rfl, hx6, hy6, hz6, hD6, hsv, hM6.congr (fun i _ => by rw [if_neg (by omega)]), hB6⟩
      case round =>
        obtain ⟨k, hk, rfl, hx, hy, hz, hD, hsk, hat, hB⟩ := hrel
        clear hx6 hy6 hz6 hM6 hD6 hB6 hsv
        by_cases hlt : k < n
        · have hle := HLE.out k hlt
          have hmm : min (wt k + ar k) lim ≤ 1000000 := by omega
          obtain ⟨z0, z1, z2, z3⟩ := hz.cells
          have z4 := hsk.cell k hlt
          have z6 := hat.cell k hlt
          have z7 := hat.free k
          rw [if_neg (by omega)] at z6
          obtain ⟨x, hx0⟩ : ∃ x, min (wt k + ar k) lim = x := ⟨_, rfl⟩
          obtain ⟨y, hy0⟩ : ∃ y, sv k = y := ⟨_, rfl⟩
          rw [hx0] at z6 hmm
          rw [hy0] at z4
          have hle2 : y ≤ x := by rw [← hx0, ← hy0]; exact hle
          have k0 : (0 : Int) ≤ (k : Int) := by omega
          have k1 : (k : Int) < (n : Int) := by omega
          clear z0 z1 z2 hle
          go_wp2_with fail
          go_region
          all_goals (try go_wp2)
          rw [show (x : Int) - (y : Int) = ((x - y : Nat) : Int) by omega]
          exact ⟨⟨k + 1, by omega, by go_num, (hx.other (by omega) _).drew, (hy.other (by omega) _).drew, (hz.other (by omega) _).drew, (hD.other (by omega) _).drew, (hsk.other (by omega) _).drew, (hat.set k (x - y) hlt).drew.congr (fun i hi => by
            by_cases e : i = k
            · rw [if_pos (by omega), if_pos e, e, hx0, hy0]
            · rw [if_neg e]
              by_cases h : i < k
              · rw [if_pos h, if_pos (by omega)]
              · rw [if_neg h, if_neg (by omega)]), (Below_set hB (by omega) _).drew⟩, by simp [intOf]; omega⟩
        · obtain rfl : n = k := by omega
          obtain ⟨z0, z1, z2, z3⟩ := hx.cells
          have z4 := hz.free 1
          have hzl := hz.lt
          obtain ⟨y0, y1, y2, y3⟩ := hz.cells
          obtain ⟨tt, htt⟩ : ∃ tt : Nat, (t + 1) % n = tt := ⟨_, rfl⟩
          have e1 : ((t : Int) + 1) % (n : Int) = (tt : Int) := by rw [← htt]; simp
          have hz7 := hz.setT tt
          have hy7 := hy.other (b := Z) (i := 1) (by omega) (.int .i64 (tt : Int))
          have HT := Lib.hid htt
          have hD7 := hD.other (b := Z) (i := 1) (by omega) (.int .i64 (tt : Int))
          have hs7 := hsk.other (b := Z) (i := 1) (by omega) (.int .i64 (tt : Int))
          have ha7 := hat.other (b := Z) (i := 1) (by omega) (.int .i64 (tt : Int))
          have hB7 := Below_set hB (b := Z) (i := 1) (by omega) (.int .i64 (tt : Int))
          obtain ⟨q0, q1, q2, q3⟩ := hz7.cells
          obtain ⟨r0, r1, r2, r3⟩ := hy7.cells
          have r4 := hy7.free 0
          have r5 := hy7.free 1
          have r6 := hy7.free 2
          have r7 := hy7.free 3
          clear htt hx hy hz hD hsk hat hB
          go_wp2_with fail
          refine bodyPost_ret (v := .tuple #[.agg #[.int .i64 (cap : Int), .int .i64 (tt : Int), .int .i64 (lim : Int), .slice (some ⟨G1, 0, none⟩) n c1], .slice (some ⟨G2, 0, none⟩) n n, .slice (some ⟨G3, 0, none⟩) n c3, .int .i64 0]) (by simp [results, Try.results21, go_sem, r0, r1, r2, r3]) rfl ?_
          refine ⟨G1, G2, G3, c1, n, c3, sv, by rw [HT.out], HDIV.out, ?_, ?_, ?_, ⟨by omega, by omega, by omega⟩, ?_⟩
          · exact ((((ha7.congr (fun i hi => by rw [if_pos hi])).other (by omega) _).other (by omega) _).other (by omega) _).other (by omega) _
          · exact (((hs7.other (by omega) _).other (by omega) _).other (by omega) _).other (by omega) _
          · exact (((hD7.other (by omega) _).other (by omega) _).other (by omega) _).other (by omega) _
          · exact Below_set (Below_set (Below_set (Below_set hB7 (by omega) _) (by omega) _) (by omega) _) (by omega) _
end Go.Proofs.Ytdodhfodojjfeaa
