/- QuotaKeeps returns true. Conditions: numbers of 64 bits; slices that came in. -/
import Derived.Test.YtdodhfodojjfeaaLaw36Uniq
import Derived.Deep.DeepCutAuto
namespace Go.Proofs.Ytdodhfodojjfeaa
open Go Go.RowKit Go.Shelf
set_option maxRecDepth 100000 in
set_option maxHeartbeats 8000000 in
theorem quotaKeeps_any (a0 a1 a2 : Int) (p q : Option Addr) (n0 c0 m0 e0 : Nat) (f : Nat → Int) (A : Nat → Option Addr) (L C : Nat → Nat) (Z : Nat → Nat → Int) (w : World) (hin : IntsIn w p n0 f) (hrows : RowsIn w q m0 A L C Z)
    (b0 : -9223372036854775808 ≤ a0 ∧ a0 ≤ 9223372036854775807) (b1 : -9223372036854775808 ≤ a1 ∧ a1 ≤ 9223372036854775807) (b2 : -9223372036854775808 ≤ a2 ∧ a2 ≤ 9223372036854775807) :
    Calls Try.prog 8 #[.int .i64 a0, .int .i64 a1, .int .i64 a2, .slice p n0 c0, .slice q m0 e0] w fun e w' => e = .returned (.bool true) ∧ Below w.heap.size w w' := by
  have HIN := Lib.hid hin
  have HROWS := Lib.hid hrows
  clear hin hrows
  go_enter Try.func8, Try.ntmps8
  go_wp2_with fail
  refine (sane_any w).mono ?_
  rintro e w1 ⟨rfl, hB1⟩
  go_wp2_with fail
  refine (made_any a0 a1 a2 p q n0 c0 m0 e0 f A L C Z w1 (HIN.out.below hB1) (HROWS.out.below hB1) b0 b1 b2).mono ?_
  rintro e w2 ⟨cap, t, lim, n, m, GW, cw, cm, base, rp, wt, B, CC, ar, rfl, ⟨k1, k2, hn1, hn8, ht, hm⟩, hwt, har, hW, hGl, hGb, hor, hb2⟩
  have hB2 := hB1.trans (hb2.mono hB1.size)
  clear hb2 hB1
  have hxq := QBox.new w2 cap t lim (.slice (some ⟨GW, 0, none⟩) n cw)
  have ha := (Below.refl w2.heap.size w2).alloc (Nat.le_refl _) (.cells #[.int .i64 (cap : Int), .int .i64 (t : Int), .int .i64 (lim : Int), .slice (some ⟨GW, 0, none⟩) n cw] 35)
  have hW2 := hW.below ha
  have hor2 := hor.below ha
  have hB3 := hB2.trans (ha.mono hB2.size)
  clear hW hor hB2 ha
  go_wp2_with fail
  obtain ⟨w3, hw3⟩ : ∃ w3, w2.alloc (.cells #[.int .i64 (cap : Int), .int .i64 (t : Int), .int .i64 (lim : Int), .slice (some ⟨GW, 0, none⟩) n cw] 35) = w3 := ⟨_, rfl⟩
  obtain ⟨Q, hQ⟩ : ∃ Q, w2.heap.size = Q := ⟨_, rfl⟩
  rw [hw3, hQ] at hxq
  rw [hw3] at hW2 hor2 hB3
  rw [hw3, hQ]
  clear hw3 hQ
  have HX3 := Lib.hid hxq
  have HW3 := Lib.hid hW2
  have HOR3 := Lib.hid hor2
  have HB3 := Lib.hid hB3
  refine (run_any cap t lim n cw m cm _ _ wt ar _ CC w3 (by omega) (by omega) hn1 hn8 ht (by omega) hwt (fun k hk i hi => by have := har k hk i hi; omega) hW2.reads hor2.reads).mono ?_
  rintro e w4 ⟨G1, G2, G3, c1, U, S, rfl, hrun, i1, i2, i3, ⟨l1, l2, l3, l4, l5, l6⟩, hb⟩
  obtain ⟨tm, htm⟩ : ∃ tm, (t + m) % n = tm := ⟨_, rfl⟩
  have htm2 : tm < n := by rw [← htm]; exact Nat.mod_lt _ (by omega)
  rw [htm]
  have hwait := hrun.waiting hwt
  have hB4 := hB3.trans (hb.mono hB3.size)
  have hQl := hxq.lt
  have hxq4 := (hxq.below hb).alloc (.cells #[.int .i64 (cap : Int), .int .i64 (tm : Int), .int .i64 (lim : Int), .slice (some ⟨G1, 0, none⟩) n c1] 35)
  have hW4 := (hW2.below hb).alloc (.cells #[.int .i64 (cap : Int), .int .i64 (tm : Int), .int .i64 (lim : Int), .slice (some ⟨G1, 0, none⟩) n c1] 35)
  have hor4 := (hor2.below hb).below ((Below.refl w4.heap.size w4).alloc (Nat.le_refl _) (.cells #[.int .i64 (cap : Int), .int .i64 (tm : Int), .int .i64 (lim : Int), .slice (some ⟨G1, 0, none⟩) n c1] 35))
  have hB35 := hb.alloc hb.size (.cells #[.int .i64 (cap : Int), .int .i64 (tm : Int), .int .i64 (lim : Int), .slice (some ⟨G1, 0, none⟩) n c1] 35)
  have hB5 := hB4.alloc hB4.size (.cells #[.int .i64 (cap : Int), .int .i64 (tm : Int), .int .i64 (lim : Int), .slice (some ⟨G1, 0, none⟩) n c1] 35)
  have hlast := QBox.new w4 cap tm lim (.slice (some ⟨G1, 0, none⟩) n c1)
  have j1 := i1.alloc (.cells #[.int .i64 (cap : Int), .int .i64 (tm : Int), .int .i64 (lim : Int), .slice (some ⟨G1, 0, none⟩) n c1] 35)
  have j2 := i2.alloc (.cells #[.int .i64 (cap : Int), .int .i64 (tm : Int), .int .i64 (lim : Int), .slice (some ⟨G1, 0, none⟩) n c1] 35)
  have j3 := i3.alloc (.cells #[.int .i64 (cap : Int), .int .i64 (tm : Int), .int .i64 (lim : Int), .slice (some ⟨G1, 0, none⟩) n c1] 35)
  have g1 := i1.lt
  have g2 := i2.lt
  have g3 := i3.lt
  have g4 := hB4.size
  have g5 := (hxq.below hb).lt
  have g6 := (hW2.below hb).lt
  have HRUN := Lib.hid hrun
  have HWAIT := Lib.hid hwait
  have HTM := Lib.hid htm
  clear hxq hW2 hor2 hB3 hb hB4 i1 i2 i3 hrun hwait htm
  obtain ⟨z0, z1, z2, z3⟩ := hxq4.cells
  go_wp2_with fail
  obtain ⟨N, hN⟩ : ∃ N, w4.heap.size = N := ⟨_, rfl⟩
  obtain ⟨w5, hw5⟩ : ∃ w5, w4.alloc (.cells #[.int .i64 (cap : Int), .int .i64 (tm : Int), .int .i64 (lim : Int), .slice (some ⟨G1, 0, none⟩) n c1] 35) = w5 := ⟨_, rfl⟩
  rw [hw5] at hxq4 hW4 hor4 hB5 hB35 hlast j1 j2 j3 z0 z1 z2 z3 ⊢
  rw [hN] at hlast g1 g2 g3 g4 g5 g6 ⊢
  clear hw5 hN
  obtain ⟨y0, y1, y2, y3⟩ := hlast.cells
  have hQ5 : Q < w5.heap.size := hxq4.lt
  have hN5 : N < w5.heap.size := hlast.lt
  have hv5 : ∀ W, Below w5.heap.size w5 W → Calls Try.prog 17 #[.agg #[.int .i64 (cap : Int), .int .i64 (tm : Int), .int .i64 (lim : Int), .slice (some ⟨G1, 0, none⟩) n c1]] W fun e w' => e = .returned (.bool true) ∧ Below w5.heap.size w5 w' := fun W hb =>
    (valid_any _ _ _ _ _ _ _ W (by unfold maxLen; omega) (j1.reads.below hb)).mono fun e w' h => by
      obtain ⟨⟨r, rfl, hr⟩, hb2⟩ := h
      have := hr.2 ⟨⟨by omega, by omega⟩, ⟨by omega, by omega⟩, ⟨hn1, hn8, fun i hi => ⟨by show (0:Int) ≤ (U m i : Nat); omega, by have := HWAIT.out m (by omega) i hi; show ((U m i : Nat) : Int) ≤ 1000000; omega⟩⟩, by omega, by omega, fun i hi => by have := HWAIT.out m (by omega) i hi; show ((U m i : Nat) : Int) ≤ lim; omega⟩
      exact ⟨by rw [this], hb.trans (hb2.mono hb.size)⟩
  have hks : ∀ W, Below w5.heap.size w5 W → (Below w5.heap.size w5 W ∧ W.cell? ⟨N, 0, none⟩ = some (.int .i64 (cap : Int)) ∧ W.cell? ⟨N, 1, none⟩ = some (.int .i64 (tm : Int)) ∧ W.cell? ⟨N, 2, none⟩ = some (.int .i64 (lim : Int)) ∧ W.cell? ⟨N, 3, none⟩ = some (.slice (some ⟨G1, 0, none⟩) n c1) ∧ W.cell? ⟨Q, 0, none⟩ = some (.int .i64 (cap : Int)) ∧ W.cell? ⟨Q, 1, none⟩ = some (.int .i64 (t : Int)) ∧ W.cell? ⟨Q, 2, none⟩ = some (.int .i64 (lim : Int))) := fun W hb =>
    ⟨hb, (hb.cell hN5).trans y0, (hb.cell hN5).trans y1, (hb.cell hN5).trans y2, (hb.cell hN5).trans y3, (hb.cell hQ5).trans z0, (hb.cell hQ5).trans z1, (hb.cell hQ5).trans z2⟩
  have HV := Lib.hid hv5
  have HKS := Lib.hid hks
  clear hv5 hks
  have e1 : IntKind.i64.wrap ((t : Int) + (m : Int)) = (t : Int) + (m : Int) := IntWalk.i64_in _ (by omega)
  have e2 : ((t : Int) + (m : Int)).tmod (n : Int) = (tm : Int) := by rw [← HTM.out]; rfl
  have e3 : ¬ ((n : Int) = 0) := by omega
  have e4 : ¬ (n = 0) := by omega
  have e5 : ((t : Int) + (m : Int)) % (n : Int) = (tm : Int) := by rw [← HTM.out]; rfl
  have e6 : IntKind.i64.wrap (tm : Int) = (tm : Int) := IntWalk.i64_in _ (by omega)
  go_region_held3 (fun W => Below w5.heap.size w5 W ∧ W.cell? ⟨N, 0, none⟩ = some (.int .i64 (cap : Int)) ∧ W.cell? ⟨N, 1, none⟩ = some (.int .i64 (tm : Int)) ∧ W.cell? ⟨N, 2, none⟩ = some (.int .i64 (lim : Int)) ∧ W.cell? ⟨N, 3, none⟩ = some (.slice (some ⟨G1, 0, none⟩) n c1) ∧ W.cell? ⟨Q, 0, none⟩ = some (.int .i64 (cap : Int)) ∧ W.cell? ⟨Q, 1, none⟩ = some (.int .i64 (t : Int)) ∧ W.cell? ⟨Q, 2, none⟩ = some (.int .i64 (lim : Int)))
    (first | exact HKS.out _ (Below.refl _ _) | exact HKS.out _ (by assumption) | exact HKS.out _ (Below.drew (by assumption)) | exact HKS.out _ (Below.refl _ _).drew | go_keep) ((go_at_call 17; refine (HV.out _ ?_).mono ?_; (first | assumption | exact Below.refl _ _ | exact Below.drew (Below.refl _ _) | exact Below.drew (by assumption)); rintro e w' ⟨rfl, hb'⟩))
  rename_i hHeld
  clear hHeld e1 e2 e3 e4 e5 e6 HV HKS y0 y1 y2 y3 z0 z1 z2 z3 hB5 hor4 hW4 g6
  have hXQ := (HX3.out.below hB35).below hb'
  have hN6 := (hlast.below hb').alloc (.cells #[.int .i64 (cap : Int), .int .i64 (t : Int), .int .i64 (lim : Int), .slice (some ⟨GW, 0, none⟩) n cw] 35)
  have j16 := (j1.below hb').alloc (.cells #[.int .i64 (cap : Int), .int .i64 (t : Int), .int .i64 (lim : Int), .slice (some ⟨GW, 0, none⟩) n cw] 35)
  have j26 := (j2.below hb').alloc (.cells #[.int .i64 (cap : Int), .int .i64 (t : Int), .int .i64 (lim : Int), .slice (some ⟨GW, 0, none⟩) n cw] 35)
  have j36 := (j3.below hb').alloc (.cells #[.int .i64 (cap : Int), .int .i64 (t : Int), .int .i64 (lim : Int), .slice (some ⟨GW, 0, none⟩) n cw] 35)
  have hB36 := hB35.trans (hb'.mono hB35.size)
  have hB37 := hB36.alloc hB36.size (.cells #[.int .i64 (cap : Int), .int .i64 (t : Int), .int .i64 (lim : Int), .slice (some ⟨GW, 0, none⟩) n cw] 35)
  have hnow := QBox.new w' cap t lim (.slice (some ⟨GW, 0, none⟩) n cw)
  have hNX := (hlast.below hb').lt
  have hGW3 := HW3.out.lt
  have hw3X := hB36.size
  obtain ⟨z0, z1, z2, z3⟩ := hXQ.cells
  clear hb' hB35 hB36 hxq4 hlast j1 j2 j3 hQ5 hN5
  go_wp2_with fail
  obtain ⟨X, hX⟩ : ∃ X, w'.heap.size = X := ⟨_, rfl⟩
  obtain ⟨w7, hw7⟩ : ∃ w7, w'.alloc (.cells #[.int .i64 (cap : Int), .int .i64 (t : Int), .int .i64 (lim : Int), .slice (some ⟨GW, 0, none⟩) n cw] 35) = w7 := ⟨_, rfl⟩
  rw [hX] at hnow hNX hw3X ⊢
  rw [hw7] at hN6 j16 j26 j36 hB37 hnow ⊢
  clear hX hw7 z0 z1 z2 z3 hXQ
  go_loopw [20] (fun z wr => ∃ (k GX cx : Nat), k ≤ m ∧ z = .int .i64 k ∧ QBox wr X cap ((t + k) % n) lim (.slice (some ⟨GX, 0, none⟩) n cx) ∧ IntsAt wr GX n (U k) ∧ QBox wr N cap tm lim (.slice (some ⟨G1, 0, none⟩) n c1) ∧ IntsAt wr G1 n (U m) ∧
    IntsAt wr G2 n (fun i => servedF S m i - servedF S k i) ∧ IntsAt wr G3 n (fun i => droppedF lim ar U m i - droppedF lim ar U k i) ∧ (GX ≠ G2 ∧ GX ≠ G3 ∧ GX ≠ X) ∧ Below w3.heap.size w3 wr) (fun z _ => m - (intOf z).toNat)
  case atStart => exact ⟨0, GW, cw, by omega, rfl, by rw [Nat.add_zero, Nat.mod_eq_of_lt ht]; exact hnow, ((HW3.out.below hB37).congr fun i hi => HRUN.out.1 i hi), hN6, j16, j26.congr (fun i _ => by simp [servedF, sumTo]), j36.congr (fun i _ => by simp [droppedF, sumTo]), ⟨by omega, by omega, by omega⟩, hB37⟩
  case round =>
    obtain ⟨k, GX, cx, hk, rfl, hx, hU, hN, hG1, hG2, hG3, ⟨n1, n2, n3⟩, hb⟩ := hrel
    clear hN6 j16 j26 j36 hB37 hnow
    have htk : (t + k) % n < n := Nat.mod_lt _ (by omega)
    obtain ⟨tk, htke⟩ : ∃ tk, (t + k) % n = tk := ⟨_, rfl⟩
    rw [htke] at hx htk
    have HTK := Lib.hid htke
    clear htke
    by_cases hlt : k < m
    · have HG1 := Lib.hid hG1
      have HG2 := Lib.hid hG2
      have HG3 := Lib.hid hG3
      have HN := Lib.hid hN
      have HU := Lib.hid hU
      have HX := Lib.hid hx
      obtain ⟨O, rfl, _, hO9, hO3⟩ := HOR3.out.outer k hlt
      have hrow := ((HOR3.out.below hb).rows k hlt).1
      have hbk9 := (HOR3.out.rows k hlt).1.lt
      have hc1 := (hb.cell (p := ⟨O, k, none⟩) hO9).trans (hO3 k hlt)
      have hO2 := Nat.lt_of_lt_of_le hO9 hb.size
      obtain ⟨bk, hbk⟩ : ∃ b, B k = b := ⟨_, rfl⟩
      obtain ⟨ck, hck⟩ : ∃ b, CC k = b := ⟨_, rfl⟩
      rw [hbk] at hrow hc1 hbk9
      rw [hck] at hc1
      have v0 : (0 : Int) ≤ (k : Int) := by omega
      have v1 : (k : Int) < (m : Int) := by omega
      obtain ⟨tn, htn⟩ : ∃ tn, (tk + 1) % n = tn := ⟨_, rfl⟩
      have htn2 : tn < n := by rw [← htn]; exact Nat.mod_lt _ (by omega)
      have hrd : ∀ W, Below wr.heap.size wr W → Calls Try.prog 16 #[.agg #[.int .i64 (cap : Int), .int .i64 (tk : Int), .int .i64 (lim : Int), .slice (some ⟨GX, 0, none⟩) n cx], .slice (some ⟨bk, 0, none⟩) n ck] W fun e W' =>
          ∃ (H1 H2 H3 d1 d2 d3 : Nat) (sv : Nat → Nat), e = .returned (.tuple #[.agg #[.int .i64 (cap : Int), .int .i64 (tn : Int), .int .i64 (lim : Int), .slice (some ⟨H1, 0, none⟩) n d1], .slice (some ⟨H2, 0, none⟩) n d2, .slice (some ⟨H3, 0, none⟩) n d3, .int .i64 0]) ∧
          DivIs n (fun i => min (U k i + ar k i) lim) cap tk sv ∧ IntsAt W' H1 n (fun i => min (U k i + ar k i) lim - sv i) ∧ IntsAt W' H2 n sv ∧ IntsAt W' H3 n (fun i => U k i + ar k i - min (U k i + ar k i) lim) ∧ (W.heap.size ≤ H1 ∧ W.heap.size ≤ H2 ∧ W.heap.size ≤ H3) ∧ Below wr.heap.size wr W' ∧ Below W.heap.size W W' := fun W hbW =>
        (round_any cap tk lim n cx ck _ _ (U k) (ar k) W (by omega) (by omega) hn1 hn8 htk (HWAIT.out k (by omega)) (fun i hi => by have := har k hlt i hi; omega) (HU.out.reads.below hbW) (hrow.reads.below hbW)).mono fun e w' h => by
          obtain ⟨H1, H2, H3, d1, d2, d3, sv, rfl, h1, h2, h3, h4, ⟨l1, l2, l3⟩, h5⟩ := h
          exact ⟨H1, H2, H3, d1, d2, d3, sv, by rw [htn], h1, h2, h3, h4, ⟨l1, l2, l3⟩, hbW.trans (h5.mono hbW.size), h5⟩
      obtain ⟨y0, y1, y2, y3⟩ := hx.cells
      have hXl := hx.lt
      have hks : ∀ W, Below wr.heap.size wr W → (Below wr.heap.size wr W ∧ W.cell? ⟨X, 0, none⟩ = some (.int .i64 (cap : Int)) ∧ W.cell? ⟨X, 1, none⟩ = some (.int .i64 (tk : Int)) ∧ W.cell? ⟨X, 2, none⟩ = some (.int .i64 (lim : Int)) ∧ W.cell? ⟨X, 3, none⟩ = some (.slice (some ⟨GX, 0, none⟩) n cx) ∧ W.cell? ⟨O, k, none⟩ = some (.slice (some ⟨bk, 0, none⟩) n ck)) := fun W hb =>
        ⟨hb, (hb.cell hXl).trans y0, (hb.cell hXl).trans y1, (hb.cell hXl).trans y2, (hb.cell hXl).trans y3, (hb.cell hO2).trans hc1⟩
      have HRD := Lib.hid hrd
      have HKS := Lib.hid hks
      have HTN := Lib.hid htn
      have HROW := Lib.hid hrow
      have HC1 := Lib.hid hc1
      clear hrd hks htn hrow hO3 hbk hck hx hU hN hG1 hG2 hG3
      go_wp2_with fail
      go_upto_region 11 with fail
      go_cut [21, 22, 23, 24] from 100 to 215 (fun s1 s2 s3 s4 wx => ∃ (M H1 H2 H3 d1 d2 d3 : Nat) (sv : Nat → Nat), s1 = .pointer (some ⟨M, 0, none⟩) ∧ s2 = .slice (some ⟨H2, 0, none⟩) n d2 ∧ s3 = .slice (some ⟨H3, 0, none⟩) n d3 ∧ s4 = .int .i64 0 ∧
        DivIs n (fun i => min (U k i + ar k i) lim) cap tk sv ∧ QBox wx M cap tn lim (.slice (some ⟨H1, 0, none⟩) n d1) ∧ IntsAt wx H1 n (fun i => min (U k i + ar k i) lim - sv i) ∧ IntsAt wx H2 n sv ∧ IntsAt wx H3 n (fun i => U k i + ar k i - min (U k i + ar k i) lim) ∧ (wr.heap.size ≤ M ∧ wr.heap.size ≤ H1 ∧ wr.heap.size ≤ H2 ∧ wr.heap.size ≤ H3) ∧ Below wr.heap.size wr wx)
      case first =>
        go_region_held3 (fun W => Below wr.heap.size wr W ∧ W.cell? ⟨X, 0, none⟩ = some (.int .i64 (cap : Int)) ∧ W.cell? ⟨X, 1, none⟩ = some (.int .i64 (tk : Int)) ∧ W.cell? ⟨X, 2, none⟩ = some (.int .i64 (lim : Int)) ∧ W.cell? ⟨X, 3, none⟩ = some (.slice (some ⟨GX, 0, none⟩) n cx) ∧ W.cell? ⟨O, k, none⟩ = some (.slice (some ⟨bk, 0, none⟩) n ck))
          (first | exact HKS.out _ (Below.refl _ _) | exact HKS.out _ (by assumption) | exact HKS.out _ (Below.drew (by assumption)) | exact HKS.out _ (Below.refl _ _).drew | exact HKS.out _ (Below.alloc (Below.refl _ _).drew (Nat.le_refl _) _) | exact HKS.out _ (Below.alloc (Below.refl _ _) (Nat.le_refl _) _) | exact HKS.out _ (Below.alloc (by assumption) (Below.size (by assumption)) _) | exact HKS.out _ (Below.drew (Below.alloc (by assumption) (Below.size (by assumption)) _)) | exact HKS.out _ (Below_set (Below_set (Below_set (Below_set (by assumption) (Nat.le_refl _) _) (Nat.le_refl _) _) (Nat.le_refl _) _) (Nat.le_refl _) _) | go_keep)
          ((go_at_call 16; refine (HRD.out _ ?_).mono ?_; (first | assumption | exact Below.refl _ _ | exact Below.drew (Below.refl _ _) | exact Below.drew (by assumption) | exact Below.alloc (Below.refl _ _).drew (Nat.le_refl _) _); rintro e W1 ⟨H1, H2, H3, d1, d2, d3, sv, rfl, hdv, i1, i2, i3, ⟨l1, l2, l3⟩, hbW, hbV⟩; (first | (have hqq : Below wr.drew.heap.size wr.drew W1 := hbV; clear hqq) | (have hqq : Below wr.heap.size wr W1 := hbV; clear hqq) | (have hz : QBox W1 wr.heap.size 0 0 0 (.slice none 0 0) := (QBox.new wr 0 0 0 (.slice none 0 0)).drew.below hbV; obtain ⟨z0, z1, z2, z3⟩ := hz.cells; have f0 := hz.free 0; have f1 := hz.free 1; have f2 := hz.free 2; have f3 := hz.free 3))))
        all_goals (go_wp2_with fail; go_meet)
        · have l1' : wr.heap.size ≤ H1 := l1
          have l2' : wr.heap.size ≤ H2 := l2
          have l3' : wr.heap.size ≤ H3 := l3
          exact ⟨_, H1, H2, H3, d1, d2, d3, sv, rfl, rfl, rfl, rfl, hdv, QBox.new W1 cap tn lim _, i1.alloc _, i2.alloc _, i3.alloc _, ⟨hbW.size, l1', l2', l3'⟩, hbW.alloc hbW.size _⟩
        · have hs1 : ∀ o : Obj, (wr.alloc o).drew.heap.size = wr.heap.size + 1 := fun o => by show (wr.alloc o).heap.size = _; simp
          rw [hs1] at l1 l2 l3
          exact ⟨_, H1, H2, H3, d1, d2, d3, sv, rfl, rfl, rfl, rfl, hdv, hz.setAll cap tn lim _, (((i1.other (by omega) _).other (by omega) _).other (by omega) _).other (by omega) _, (((i2.other (by omega) _).other (by omega) _).other (by omega) _).other (by omega) _, (((i3.other (by omega) _).other (by omega) _).other (by omega) _).other (by omega) _, ⟨Nat.le_refl _, by omega, by omega, by omega⟩, Below_set (Below_set (Below_set (Below_set hbW (Nat.le_refl _) _) (Nat.le_refl _) _) (Nat.le_refl _) _) (Nat.le_refl _) _⟩
      case rest =>
        obtain ⟨M, H1, H2, H3, d1, d2, d3, sv, rfl, rfl, rfl, rfl, hdv, hM, i1, i2, i3, ⟨o1, o2, o3, o4⟩, hbx⟩ := hcut
        have hsv : ∀ i, i < n → sv i = S k i := hdv.unique (by rw [← HTK.out]; exact (HRUN.out.2 k hlt).1)
        have hb1 := hb.trans (hbx.mono hb.size)
        have p1 : IntsAt wc H1 n (U (k + 1)) := i1.congr fun i hi => by rw [(HRUN.out.2 k hlt).2 i hi, hsv i hi]
        have p2 : IntsAt wc H2 n (S k) := i2.congr fun i hi => (hsv i hi).symm
        have p3 : IntsAt wc H3 n (dropF lim ar U k) := i3.congr fun i hi => rfl
        have p4 := HX.out.below hbx
        have p5 := HU.out.below hbx
        have p6 := HN.out.below hbx
        have p7 := HG1.out.below hbx
        have p8 := HG2.out.below hbx
        have p9 := HG3.out.below hbx
        have p10 := HROW.out.below hbx
        have hOc : O < wc.heap.size := Nat.lt_of_lt_of_le hO2 hbx.size
        have p11 := (hbx.cell (p := ⟨O, k, none⟩) hO2).trans HC1.out
        have p12 := HX3.out.below hb1
        have hsum : sumTo (S k) n ≤ cap := by
          have h1 := (hdv.fair htk).1
          have h2 := sumTo_congr n hsv
          omega
        have hSk : ∀ i, i < n → S k i ≤ min (U k i + ar k i) lim := fun i hi => HRUN.out.served (by omega) hlt hi
        have SX : Hid (∀ W : World, IntsAt W H2 n (S k) → Calls Try.prog 14 #[.slice (some ⟨H2, 0, none⟩) n d2] W fun e w' => e = .returned (.int .i64 (sumTo (S k) n : Nat)) ∧ w' = W) := Lib.hid fun W hW => (sum_any _ _ _ _ W (by omega) hW.reads (fun i hi => by have := hSk i hi; omega)).mono fun e w' h => ⟨h.1, h.2.symm⟩
        obtain ⟨sm, hsm⟩ : ∃ sm, sumTo (S k) n = sm := ⟨_, rfl⟩
        rw [hsm] at SX hsum
        have q1 : decide ((cap : Int) < (sm : Int)) = false := decide_ff (by omega)
        have q2 : decide (cap < sm) = false := decide_ff (by omega)
        have q3 : ¬ (cap < sm) := by omega
        have e1 := hM.lt
        have e2 := p5.lt
        have e3 := p8.lt
        have e4 := p9.lt
        have e5 := p4.lt
        have hGs : G2 < wr.heap.size ∧ G3 < wr.heap.size ∧ GX < wr.heap.size ∧ X < wr.heap.size ∧ G1 < wr.heap.size ∧ N < wr.heap.size := ⟨HG2.out.lt, HG3.out.lt, HU.out.lt, HX.out.lt, HG1.out.lt, HN.out.lt⟩
        obtain ⟨r1, r2, r3, r4, r5, r6⟩ := hGs
        clear hdv i1 i2 i3 hsv hbx HX HU HN HG1 HG2 HG3 HROW HRD HKS HC1 y0 y1 y2 y3 hc1 hsm
        obtain ⟨z0, _, _, _⟩ := p12.cells
        go_wp2_with fail
        go_quiet ((go_at_call 14; exact Calls.quiet_of_same (SX.out _ (p2.drewN _))))
        have hbd : Below wc.heap.size wc (wc.drewN nq) := Below_drewN (Below.refl _ _) nq
        have hRR : ∃ R : World → Prop, R (wc.drewN nq) ∧ (∀ wv, R wv → QBox wv X cap tk lim (.slice (some ⟨GX, 0, none⟩) n cx) ∧ QBox wv M cap tn lim (.slice (some ⟨H1, 0, none⟩) n d1) ∧ QBox wv N cap tm lim (.slice (some ⟨G1, 0, none⟩) n c1) ∧
            IntsAt wv GX n (U k) ∧ IntsAt wv H1 n (U (k + 1)) ∧ IntsAt wv H2 n (S k) ∧ IntsAt wv H3 n (dropF lim ar U k) ∧ IntsAt wv G1 n (U m) ∧ IntsAt wv bk n (ar k) ∧ wv.cell? ⟨O, k, none⟩ = some (.slice (some ⟨bk, 0, none⟩) n ck) ∧ Below w3.heap.size w3 wv) ∧
            (∀ wv j, R wv → R (wv.drewN j)) ∧ (∀ wv b i v, (b = G2 ∨ b = G3) → R wv → R (wv.setCell ⟨b, i, none⟩ v).drew) := by
          refine ⟨fun wv => QBox wv X cap tk lim (.slice (some ⟨GX, 0, none⟩) n cx) ∧ QBox wv M cap tn lim (.slice (some ⟨H1, 0, none⟩) n d1) ∧ QBox wv N cap tm lim (.slice (some ⟨G1, 0, none⟩) n c1) ∧
            IntsAt wv GX n (U k) ∧ IntsAt wv H1 n (U (k + 1)) ∧ IntsAt wv H2 n (S k) ∧ IntsAt wv H3 n (dropF lim ar U k) ∧ IntsAt wv G1 n (U m) ∧ IntsAt wv bk n (ar k) ∧ wv.cell? ⟨O, k, none⟩ = some (.slice (some ⟨bk, 0, none⟩) n ck) ∧ Below w3.heap.size w3 wv,
            ⟨p4, hM, p6, p5.drewN _, p1.drewN _, p2.drewN _, p3.drewN _, p7.drewN _, p10.drewN _, p11, Below_drewN hb1 _⟩, fun wv h => h, fun wv j h => ?_, fun wv b i v hbe h => ?_⟩
          · obtain ⟨h1, h2, h3, h4, h5, h6, h7, h8, h9, h10, h11⟩ := h
            exact ⟨h1, h2, h3, h4.drewN _, h5.drewN _, h6.drewN _, h7.drewN _, h8.drewN _, h9.drewN _, h10, Below_drewN h11 _⟩
          · obtain ⟨h1, h2, h3, h4, h5, h6, h7, h8, h9, h10, h11⟩ := h
            have t1 : X ≠ b ∧ M ≠ b ∧ N ≠ b ∧ GX ≠ b ∧ H1 ≠ b ∧ H2 ≠ b ∧ H3 ≠ b ∧ G1 ≠ b ∧ bk ≠ b ∧ O ≠ b ∧ w3.heap.size ≤ b := by
              rcases hbe with rfl | rfl <;> exact ⟨by omega, by omega, by omega, by omega, by omega, by omega, by omega, by omega, by omega, by omega, by omega⟩
            obtain ⟨t1, t2, t3, t4, t5, t6, t7, t8, t9, t10, t11⟩ := t1
            exact ⟨(h1.other t1 _).drew, (h2.other t2 _).drew, (h3.other t3 _).drew, (h4.other t4 _).drew, (h5.other t5 _).drew, (h6.other t6 _).drew, (h7.other t7 _).drew, (h8.other t8 _).drew, (h9.other t9 _).drew, (cell_other t10).trans h10, (Below_set h11 t11 _).drew⟩
        obtain ⟨R, hR0, hR, hRd, hRs⟩ := hRR
        have hD0 := p8.drewN nq
        have hE0 := p9.drewN nq
        obtain ⟨wd, hwd⟩ : ∃ wd, wc.drewN nq = wd := ⟨_, rfl⟩
        rw [hwd] at hR0 hD0 hE0 ⊢
        have HR := Lib.hid hR
        have HRs := Lib.hid hRs
        have HRd := Lib.hid hRd
        clear hwd hbd hR hRs hRd p1 p2 p3 p4 p5 p6 p7 p8 p9 p10 p11 p12 z0 hM hb1 SX q1 q2 q3 hsum hOc e1 e2 e3 e4 e5
        go_wp2_with fail
        go_loopw [25] (fun z wv => ∃ j : Nat, j ≤ n ∧ z = .int .i64 j ∧ R wv ∧ IntsAt wv G2 n (fun i => servedF S m i - (if i < j then servedF S (k + 1) i else servedF S k i)) ∧ IntsAt wv G3 n (fun i => droppedF lim ar U m i - (if i < j then droppedF lim ar U (k + 1) i else droppedF lim ar U k i))) (fun z _ => n - (intOf z).toNat)
        case atStart => exact ⟨0, by omega, rfl, hR0, hD0.congr (fun i _ => by rw [if_neg (by omega)]), hE0.congr (fun i _ => by rw [if_neg (by omega)])⟩
        case round =>
          obtain ⟨j, hj, rfl, hr, hD, hE⟩ := hrel
          clear hR0 hD0 hE0
          by_cases hjn : j < n
          · obtain ⟨h1, h2, h3, h4, h5, h6, h7, h8, h9, h10, h11⟩ := HR.out _ hr
            have q0 : (0 : Int) ≤ (j : Int) := by omega
            have q1 : (j : Int) < (n : Int) := by omega
            have x1 := h4.cell j hjn
            have x2 := h9.cell j hjn
            have x3 := h5.cell j hjn
            have x4 := h6.cell j hjn
            have x5 := h7.cell j hjn
            obtain ⟨_, _, _, x6⟩ := h1.cells
            obtain ⟨_, _, _, x7⟩ := h2.cells
            have g1 : U (k + 1) j = min (U k j + ar k j) lim - S k j := (HRUN.out.2 k hlt).2 j hjn
            have g2 := hSk j hjn
            have g3 : dropF lim ar U k j = U k j + ar k j - min (U k j + ar k j) lim := rfl
            have g4 := har k hlt j hjn
            have g5 := HWAIT.out k (by omega) j hjn
            have g6 : servedF S k j + S k j ≤ servedF S m j := by rw [← servedF_succ]; exact sumTo_mono hlt
            have g7 : droppedF lim ar U k j + dropF lim ar U k j ≤ droppedF lim ar U m j := by rw [← droppedF_succ]; exact sumTo_mono hlt
            have g8 := HRUN.out.servedF_le (by omega) (by omega) hjn
            have g9 := HRUN.out.droppedF_le hwt (fun k hk i hi => by have := har k hk i hi; omega) hjn
            have y1 := hD.cell j hjn
            have y2 := hD.free j
            have y3 := hE.cell j hjn
            have y4 := hE.free j
            rw [if_neg (by omega)] at y1 y3
            have hdD : ∀ i, i < n → (fun i => servedF S m i - (if i < j + 1 then servedF S (k + 1) i else servedF S k i)) i = (fun i => if i = j then servedF S m j - servedF S k j - S k j else servedF S m i - (if i < j then servedF S (k + 1) i else servedF S k i)) i := fun i hi => by
              show servedF S m i - (if i < j + 1 then servedF S (k + 1) i else servedF S k i) = if i = j then servedF S m j - servedF S k j - S k j else servedF S m i - (if i < j then servedF S (k + 1) i else servedF S k i)
              by_cases e : i = j
              · rw [if_pos (by omega), if_pos e, e, servedF_succ]; omega
              · rw [if_neg e]
                by_cases h : i < j
                · rw [if_pos h, if_pos (by omega)]
                · rw [if_neg h, if_neg (by omega)]
            have hdE : ∀ i, i < n → (fun i => droppedF lim ar U m i - (if i < j + 1 then droppedF lim ar U (k + 1) i else droppedF lim ar U k i)) i = (fun i => if i = j then droppedF lim ar U m j - droppedF lim ar U k j - dropF lim ar U k j else droppedF lim ar U m i - (if i < j then droppedF lim ar U (k + 1) i else droppedF lim ar U k i)) i := fun i hi => by
              show droppedF lim ar U m i - (if i < j + 1 then droppedF lim ar U (k + 1) i else droppedF lim ar U k i) = if i = j then droppedF lim ar U m j - droppedF lim ar U k j - dropF lim ar U k j else droppedF lim ar U m i - (if i < j then droppedF lim ar U (k + 1) i else droppedF lim ar U k i)
              by_cases e : i = j
              · rw [if_pos (by omega), if_pos e, e, droppedF_succ]; omega
              · rw [if_neg e]
                by_cases h : i < j
                · rw [if_pos h, if_pos (by omega)]
                · rw [if_neg h, if_neg (by omega)]
            have HDD := Lib.hid hdD
            have HDE := Lib.hid hdE
            clear hdD hdE
            obtain ⟨u, hu⟩ : ∃ u, U k j = u := ⟨_, rfl⟩
            obtain ⟨a, ha⟩ : ∃ a, ar k j = a := ⟨_, rfl⟩
            obtain ⟨x, hx⟩ : ∃ x, U (k + 1) j = x := ⟨_, rfl⟩
            obtain ⟨y, hy⟩ : ∃ y, S k j = y := ⟨_, rfl⟩
            obtain ⟨z, hz⟩ : ∃ z, dropF lim ar U k j = z := ⟨_, rfl⟩
            obtain ⟨v, hv⟩ : ∃ v, u + a = v := ⟨_, rfl⟩
            obtain ⟨s1, hs1⟩ : ∃ v, servedF S k j = v := ⟨_, rfl⟩
            obtain ⟨s2, hs2⟩ : ∃ v, servedF S m j = v := ⟨_, rfl⟩
            obtain ⟨s3, hs3⟩ : ∃ v, droppedF lim ar U k j = v := ⟨_, rfl⟩
            obtain ⟨s4, hs4⟩ : ∃ v, droppedF lim ar U m j = v := ⟨_, rfl⟩
            rw [hu] at x1
            rw [ha] at x2
            rw [hx] at x3
            rw [hy] at x4
            rw [hz] at x5
            rw [hs1, hs2] at y1
            rw [hs3, hs4] at y3
            rw [hx, hu, ha, hy, hv] at g1
            rw [hu, ha, hy, hv] at g2
            rw [hz, hu, ha, hv] at g3
            rw [ha] at g4
            rw [hu] at g5
            rw [hs1, hs2, hy] at g6
            rw [hs3, hs4, hz] at g7
            rw [hs2] at g8
            rw [hs4] at g9
            obtain ⟨xy, hxy⟩ : ∃ xy, x + y = xy := ⟨_, rfl⟩
            have b1 : y < 1000 ∧ z < 1000 ∧ s2 ≤ 200000000 ∧ s4 ≤ 200000000 ∧ v < 1000 ∧ xy < 1000 := by omega
            have E1 : IntKind.i64.wrap ((u : Int) + (a : Int)) = (v : Int) := by rw [IntWalk.i64_in _ (by omega)]; omega
            have E2 : IntKind.i64.wrap ((x : Int) + (y : Int)) = (xy : Int) := by rw [IntWalk.i64_in _ (by omega)]; omega
            have E3 : IntKind.i64.wrap ((xy : Int) + (z : Int)) = (v : Int) := by rw [IntWalk.i64_in _ (by omega)]; omega
            have F1 : decide ((y : Int) < 0) = false := decide_ff (by omega)
            have F2 : decide ((z : Int) < 0) = false := decide_ff (by omega)
            obtain ⟨b11, b12, b13, b14, b15, b16⟩ := b1
            obtain ⟨s5, hs5⟩ : ∃ v, s2 - s1 = v := ⟨_, rfl⟩
            obtain ⟨s6, hs6⟩ : ∃ v, s4 - s3 = v := ⟨_, rfl⟩
            rw [hs5] at y1
            rw [hs6] at y3
            have b17 : y ≤ s5 ∧ s5 ≤ 200000000 ∧ z ≤ s6 ∧ s6 ≤ 200000000 := by omega
            obtain ⟨b17, b18, b19, b20⟩ := b17
            have HY := Lib.hid hy
            have HZ := Lib.hid hz
            have HS1 := Lib.hid hs1
            have HS2 := Lib.hid hs2
            have HS3 := Lib.hid hs3
            have HS4 := Lib.hid hs4
            have HS5 := Lib.hid hs5
            have HS6 := Lib.hid hs6
            clear g1 g2 g3 g4 g5 g6 g7 g8 g9 hxy hv hu ha hx hy hz hs1 hs2 hs3 hs4 hs5 hs6
            go_wp2_with fail
            go_quiet (fail)
            have hr1 := HRd.out _ nq hr
            have hD1 := hD.drewN nq
            have hE1 := hE.drewN nq
            obtain ⟨we, hwe⟩ : ∃ we, wr.drewN nq = we := ⟨_, rfl⟩
            rw [hwe] at hr1 hD1 hE1 ⊢
            clear hwe hr hD hE x1 x2 x3 x4 x5 x6 x7 y1 y2 y3 y4 h1 h2 h3 h4 h5 h6 h7 h8 h9 h10 h11 E1 E2 E3 F1 F2
            have h6 := (HR.out _ hr1).2.2.2.2.2.1
            have x4 := h6.cell j hjn
            rw [HY.out] at x4
            have y1 := hD1.cell j hjn
            have y2 := hD1.free j
            rw [if_neg (by omega), HS1.out, HS2.out, HS5.out] at y1
            clear h6
            go_wp2_with fail
            go_region
            all_goals (try go_wp2)
            rw [show (s5 : Int) - (y : Int) = ((s5 - y : Nat) : Int) by omega]
            have hr2 := HRs.out _ G2 j (.int .i64 ((s5 - y : Nat) : Int)) (.inl rfl) hr1
            have hD2 := ((hD1.set j (s5 - y) hjn).drew).congr (b := fun i => servedF S m i - (if i < j + 1 then servedF S (k + 1) i else servedF S k i)) (fun i hi => by
              have := HDD.out i hi
              rw [HS2.out, HS1.out, HS5.out, HY.out] at this
              exact this)
            have hE2 := (hE1.other (b := G2) (i := j) (Ne.symm l4) (.int .i64 ((s5 - y : Nat) : Int))).drew
            obtain ⟨wf, hwf⟩ : ∃ wf, (we.setCell ⟨G2, j, none⟩ (.int .i64 ((s5 - y : Nat) : Int))).drew = wf := ⟨_, rfl⟩
            rw [hwf] at hr2 hD2 hE2 ⊢
            clear hwf hr1 hD1 hE1 x4 y1 y2
            have h7 := (HR.out _ hr2).2.2.2.2.2.2.1
            have x4 := h7.cell j hjn
            rw [HZ.out] at x4
            have y1 := hE2.cell j hjn
            have y2 := hE2.free j
            rw [if_neg (by omega), HS3.out, HS4.out, HS6.out] at y1
            clear h7
            go_region
            all_goals (try go_wp2)
            rw [show (s6 : Int) - (z : Int) = ((s6 - z : Nat) : Int) by omega]
            exact ⟨⟨j + 1, by omega, by go_num, HRs.out _ G3 j (.int .i64 ((s6 - z : Nat) : Int)) (.inr rfl) hr2, (hD2.other l4 _).drew, ((hE2.set j (s6 - z) hjn).drew).congr (fun i hi => by
              have := HDE.out i hi
              rw [HS4.out, HS3.out, HS6.out, HZ.out] at this
              exact this)⟩, by simp [intOf]; omega⟩
          · obtain rfl : n = j := by omega
            obtain ⟨h1, h2, h3, h4, h5, h6, h7, h8, h9, h10, h11⟩ := HR.out _ hr
            obtain ⟨z0, z1, z2, z3⟩ := h2.cells
            obtain ⟨y0, y1, y2, y3⟩ := h1.cells
            have f0 := h1.free 0
            have f1 := h1.free 1
            have f2 := h1.free 2
            have f3 := h1.free 3
            have hmod : (t + (k + 1)) % n = tn := by rw [← HTN.out, ← HTK.out, ← Nat.add_assoc, Nat.mod_add_mod]
            have HMOD := Lib.hid hmod
            clear hmod
            go_wp2_with fail
            exact ⟨⟨k + 1, H1, d1, by omega, by go_num, by rw [HMOD.out]; exact h1.setAll cap tn lim _, ((((h5.other (by omega) _).other (by omega) _).other (by omega) _).other (by omega) _), ((((h3.other (by omega) _).other (by omega) _).other (by omega) _).other (by omega) _), ((((h8.other (by omega) _).other (by omega) _).other (by omega) _).other (by omega) _),
              ((((hD.other (by omega) _).other (by omega) _).other (by omega) _).other (by omega) _).congr (fun i hi => by rw [if_pos hi]), ((((hE.other (by omega) _).other (by omega) _).other (by omega) _).other (by omega) _).congr (fun i hi => by rw [if_pos hi]), ⟨by omega, by omega, by omega⟩,
              Below_set (Below_set (Below_set (Below_set h11 (by omega) _) (by omega) _) (by omega) _) (by omega) _⟩, by simp [intOf]; omega⟩
    · obtain rfl : m = k := by omega
      obtain rfl : tk = tm := HTK.out.symm.trans HTM.out
      obtain ⟨o, hmk, hmi⟩ := make_all n (by omega)
      have HMI := Lib.hid hmi
      obtain ⟨y0, y1, y2, y3⟩ := hx.cells
      obtain ⟨z0, z1, z2, z3⟩ := hN.cells
      have hBw := HB3.out.trans (hb.mono HB3.out.size)
      clear hmi hx hN
      go_wp2_with fail
      refine (same_yes cap tk lim n cx c1 _ _ _ _ wr (by omega) hU.reads hG1.reads (fun _ _ => rfl)).mono ?_
      rintro e w8 ⟨rfl, hb8⟩
      have a1 := (hG2.below hb8).alloc o
      have a3 := (hG3.below hb8).alloc o
      have a2 := HMI.out w8
      have hB8 := (hBw.trans (hb8.mono hBw.size)).alloc (hBw.trans (hb8.mono hBw.size)).size o
      clear y0 y1 y2 y3 z0 z1 z2 z3 hb8 hU hG1 hG2 hG3 hBw
      go_wp2_with fail
      refine (ints_yes _ _ n n _ _ _ _ _ (by omega) rfl a1.reads a2.reads (fun i _ => by simp)).mono ?_
      rintro e w9 ⟨rfl, hb9⟩
      have a4 := (a3.below hb9).alloc o
      have a5 := HMI.out w9
      have hB9 := (hB8.trans (hb9.mono hB8.size)).alloc (hB8.trans (hb9.mono hB8.size)).size o
      clear a1 a2 a3 hb9 hB8
      go_wp2_with fail
      refine (ints_yes _ _ n n _ _ _ _ _ (by omega) rfl a4.reads a5.reads (fun i _ => by simp)).mono ?_
      rintro e w10 ⟨rfl, hb10⟩
      go_wp2_with fail
      go_ret
      exact ⟨rfl, hB9.trans (hb10.mono hB9.size)⟩
end Go.Proofs.Ytdodhfodojjfeaa
