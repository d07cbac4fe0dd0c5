/- Package quota: Run on what it refuses. Conditions: slices that can be read; numbers of 64 bits. -/
import Derived.Test.YtdodhfodojjfeaaAllRound
import Derived.Test.YtdodhfodojjfeaaLaw36Rows
import Derived.Deep.DeepCutAuto
namespace Go.Proofs.Ytdodhfodojjfeaa
open Go Go.RowKit Go.Shelf
set_option maxRecDepth 100000 in
set_option maxHeartbeats 4000000 in
theorem run_bad_row (cap t lim n c m mc k0 : Nat) (p q : Option Addr) (wt : Nat → Nat) (ar : Nat → Nat → Nat) (A : Nat → Option Addr) (L C : Nat → Nat) (Z : Nat → Nat → Int) (w : World) (hcap : cap ≤ 1000000) (hlim : lim ≤ 1000000) (hn1 : 1 ≤ n) (hn : n ≤ 8) (ht : t < n) (hm : m ≤ 200)
    (hwt : ∀ i, i < n → wt i ≤ lim) (hk0 : k0 < m) (har : ∀ k, k < k0 → L k = n ∧ ∀ i, i < n → Z k i = ((ar k i : Nat) : Int) ∧ ar k i ≤ 1000000) (hbad : ¬ (demandsB (L k0) (Z k0) ∧ L k0 = n)) (hp : ReadsI w p n (fun i => ((wt i : Nat) : Int))) (hq : RowsIn w q m A L C Z) :
    Calls Try.prog 23 #[.agg #[.int .i64 (cap : Int), .int .i64 (t : Int), .int .i64 (lim : Int), .slice p n c], .slice q m mc] w fun e w' => e = .returned (.tuple #[.agg #[.int .i64 0, .int .i64 0, .int .i64 0, .slice none 0 0], .slice none 0 0, .slice none 0 0, .int .i64 360]) ∧ Below w.heap.size w w' := by
  have hok : QuotaOk cap t lim n (fun i => ((wt i : Nat) : Int)) := ⟨⟨by omega, by omega⟩, ⟨by omega, by omega⟩, ⟨hn1, hn, fun i hi => ⟨by show (0:Int) ≤ (wt i : Nat); omega, by have := hwt i hi; show ((wt i : Nat) : Int) ≤ 1000000; omega⟩⟩, by omega, by omega, fun i hi => by have := hwt i hi; show ((wt i : Nat) : Int) ≤ lim; omega⟩
  have HP := Lib.hid hp
  have HAR := Lib.hid har
  have HBAD := Lib.hid hbad
  clear har hbad
  have HQ := Lib.hid hq
  have HV := fun W (hb : Below w.heap.size w W) => (valid_any cap t lim p n c (fun i => ((wt i : Nat) : Int)) W (by unfold maxLen; omega) (HP.out.below hb)).mono fun e w' ⟨h1, h2⟩ => (⟨h1.yes hok, h2⟩ : e = Ending.returned (.bool true) ∧ Below W.heap.size W w')
  have HV' := Lib.hid HV
  have hB0 := ((Below.refl w.heap.size w).alloc (Nat.le_refl _) (.cells #[.int .i64 (cap : Int), .int .i64 (t : Int), .int .i64 (lim : Int), .slice p n c] 35)).alloc (by simp) (.cells #[.int .i64 0, .int .i64 0, .int .i64 0, .slice none 0 0] 35)
  have hx0 := (QBox.new w cap t lim (.slice p n c)).alloc (.cells #[.int .i64 0, .int .i64 0, .int .i64 0, .slice none 0 0] 35)
  have hy0 := QBox.new (w.alloc (.cells #[.int .i64 (cap : Int), .int .i64 (t : Int), .int .i64 (lim : Int), .slice p n c] 35)) 0 0 0 (.slice none 0 0)
  clear hp hq HV hok
  go_enter Try.func23, Try.ntmps23
  go_wp2_with fail
  refine (HV'.out _ hB0).mono ?_
  rintro e w1 ⟨rfl, hb1⟩
  have hB1 := hB0.trans (hb1.mono hB0.size)
  have hx1 := hx0.below hb1
  have hy1 := hy0.below hb1
  rw [World.size_alloc] at hy1
  obtain ⟨x0, x1, x2, x3⟩ := hx1.cells
  have hyl := hy1.lt
  obtain ⟨o, hmk, hmi⟩ := make_all n (by omega)
  have x4 := (hx1.alloc o).cells.2.2.2
  have HMI := Lib.hid hmi
  clear hx0 hy0 hB0 hb1 x0 x1 x2 hmi
  go_upto_region 3 with fail
  go_cut [8, 9] (fun s8 s9 wx => ∃ D E : Nat, s8 = .slice (some ⟨D, 0, none⟩) n n ∧ s9 = .slice (some ⟨E, 0, none⟩) n n ∧ D ≠ E ∧ w.heap.size + 1 < D ∧ w.heap.size + 1 < E ∧ IntsAt wx D n (fun _ => 0) ∧ IntsAt wx E n (fun _ => 0) ∧
    QBox wx w.heap.size cap t lim (.slice p n c) ∧ QBox wx (w.heap.size + 1) 0 0 0 (.slice none 0 0) ∧ Below w.heap.size w wx)
  case first =>
    have hD := HMI.out w1
    have hE := HMI.out (w1.alloc o)
    rw [World.size_alloc] at hE
    have HD := Lib.hid ((hD.alloc o).drew)
    have HE := Lib.hid hE.drew
    have hx2 := ((hx1.alloc o).alloc o).drew
    have hy2 := ((hy1.alloc o).alloc o).drew
    have hB2 := ((hB1.alloc hB1.size o).alloc (by have := hB1.size; simp; omega) o).drew
    clear hD hE
    go_region
    all_goals (go_wp2_with fail; go_meet)
    · exact ⟨w1.heap.size, w1.heap.size + 1, rfl, rfl, by omega, by omega, by omega, HD.out, HE.out, hx2, hy2, hB2⟩
    · exact ⟨w1.heap.size + 1, w1.heap.size, rfl, rfl, by omega, by omega, by omega, HE.out, HD.out, hx2, hy2, hB2⟩
  case rest =>
    obtain ⟨D, E, rfl, rfl, hDE, hD1, hE1, hD, hE, hx, hy, hB⟩ := hcut
    clear hx1 hy1 hB1 x3 x4 hmk HMI hyl
    obtain ⟨y0, y1, y2, y3⟩ := hx.cells
    have y4 := hx.free 3
    go_wp2_with fail
    refine (clone_any p n c wt _ hn1 (by omega) (HP.out.below hB)).mono ?_
    rintro e w3 ⟨⟨X, cx, rfl, hX, hat⟩, hb3⟩
    have hDX : D < X := Nat.lt_of_lt_of_le hD.lt hX
    have hEX : E < X := Nat.lt_of_lt_of_le hE.lt hX
    have hB3 := hB.trans (hb3.mono hB.size)
    have hx3 := hx.below hb3
    have hy3 := hy.below hb3
    have hD3 := hD.below hb3
    have hE3 := hE.below hb3
    clear y0 y1 y2 y3 y4 hx hy hD hE hB hb3
    obtain ⟨y0, y1, y2, y3⟩ := hx3.cells
    have y4 := hx3.free 3
    have hx4 := hx3.setW (.slice (some ⟨X, 0, none⟩) n cx)
    have hy4 := hy3.other (b := w.heap.size) (i := 3) (by omega) (.slice (some ⟨X, 0, none⟩) n cx)
    have hD4 := hD3.other (b := w.heap.size) (i := 3) (by omega) (.slice (some ⟨X, 0, none⟩) n cx)
    have hE4 := hE3.other (b := w.heap.size) (i := 3) (by omega) (.slice (some ⟨X, 0, none⟩) n cx)
    have hat4 := hat.other (b := w.heap.size) (i := 3) (by omega) (.slice (some ⟨X, 0, none⟩) n cx)
    have hB4 := Below_set hB3 (b := w.heap.size) (i := 3) (Nat.le_refl _) (.slice (some ⟨X, 0, none⟩) n cx)
    clear hx3 hy3 hD3 hE3 hat hB3
    go_wp2_with fail
    clear y0 y1 y2 y3 y4
    obtain ⟨w4, hw4⟩ : ∃ w4, w3.setCell ⟨w.heap.size, 3, none⟩ (.slice (some ⟨X, 0, none⟩) n cx) = w4 := ⟨_, rfl⟩
    rw [hw4] at hx4 hy4 hD4 hE4 hat4 hB4 ⊢
    clear hw4
    have h0 : RunIs n cap lim t 0 wt ar (fun _ => wt) (fun _ _ => 0) := ⟨fun _ _ => rfl, fun k hk => by omega⟩
    go_loopw [40] (fun z wr => ∃ (k X cx : Nat) (U S : Nat → Nat → Nat), k ≤ k0 ∧ z = .int .i64 k ∧ RunIs n cap lim t k wt ar U S ∧ QBox wr w.heap.size cap ((t + k) % n) lim (.slice (some ⟨X, 0, none⟩) n cx) ∧ QBox wr (w.heap.size + 1) 0 0 0 (.slice none 0 0) ∧
      IntsAt wr X n (U k) ∧ IntsAt wr D n (servedF S k) ∧ IntsAt wr E n (droppedF lim ar U k) ∧ D < X ∧ E < X ∧ Below w.heap.size w wr) (fun z _ => k0 - (intOf z).toNat)
    case atStart => exact ⟨0, X, cx, _, _, by omega, rfl, h0, by rw [Nat.add_zero, Nat.mod_eq_of_lt ht]; exact hx4, hy4, hat4, hD4, hE4, hDX, hEX, hB4⟩
    case round =>
      obtain ⟨k, X, cx, U, S, hk, rfl, hrun, hx, hy, hU, hS, hR, hDX, hEX, hB⟩ := hrel
      clear hx4 hy4 hD4 hE4 hat4 hB4 h0
      have htk : (t + k) % n < n := Nat.mod_lt _ (by omega)
      by_cases hlt : k < k0
      · obtain ⟨bq, oq, rfl, hbq, hcq⟩ := (HQ.out.below hB).cell k (by omega)
        have hrow := ((HQ.out.below hB).rows k (by omega)).reads
        have hrk := HAR.out k hlt
        have c1 := hcq k (by omega)
        rw [hrk.1] at c1 hrow
        have hrows := hrow.congr (g := fun i => ((ar k i : Nat) : Int)) fun i hi => (hrk.2 i hi).1
        have hark := fun i (hi : i < n) => (hrk.2 i hi).2
        clear hrow hrk
        have k0 : (0 : Int) ≤ (k : Int) := by omega
        have k1 : (k : Int) < (m : Int) := by omega
        obtain ⟨y0, y1, y2, y3⟩ := hx.cells
        have hwk := hrun.waiting hwt k (Nat.le_refl _)
        obtain ⟨tk, htke⟩ : ∃ tk, (t + k) % n = tk := ⟨_, rfl⟩
        rw [htke] at hx htk y1
        have HTK := Lib.hid htke
        have HRUN := Lib.hid hrun
        clear hcq htke hrun
        go_wp2_with fail
        refine (round_any cap tk lim n cx (C k) _ _ (U k) (ar k) wr hcap hlim hn1 hn htk hwk hark hU.reads hrows).mono ?_
        rintro e w5 ⟨G1, G2, G3, c1, c2, c3, sv, rfl, hdiv, i1, i2, i3, ⟨l1, l2, l3⟩, hb⟩
        have hsvle := hrun_served_le HRUN.out hdiv HTK.out hlim hn1 htk
        have hdrle := fun i (hi : i < n) => dropF_le (lim := lim) (ar := ar) (U := U) (k := k) (i := i) (hwk i hi) (hark i hi)
        have hSle := fun i (hi : i < n) => HRUN.out.servedF_le (by omega) hlim hi
        have hRle := fun i (hi : i < n) => HRUN.out.droppedF_le hwt (fun j hj i hi => ((HAR.out j (by omega)).2 i hi).2) hi
        obtain ⟨tn, htn⟩ : ∃ tn, (tk + 1) % n = tn := ⟨_, rfl⟩
        rw [htn]
        have hx5 := (hx.below hb).alloc (.cells #[.int .i64 (cap : Int), .int .i64 (tn : Int), .int .i64 (lim : Int), .slice (some ⟨G1, 0, none⟩) n c1] 35)
        have hy5 := (hy.below hb).alloc (.cells #[.int .i64 (cap : Int), .int .i64 (tn : Int), .int .i64 (lim : Int), .slice (some ⟨G1, 0, none⟩) n c1] 35)
        have hS5 := (hS.below hb).alloc (.cells #[.int .i64 (cap : Int), .int .i64 (tn : Int), .int .i64 (lim : Int), .slice (some ⟨G1, 0, none⟩) n c1] 35)
        have hR5 := (hR.below hb).alloc (.cells #[.int .i64 (cap : Int), .int .i64 (tn : Int), .int .i64 (lim : Int), .slice (some ⟨G1, 0, none⟩) n c1] 35)
        have hB5 := hB.trans (hb.mono hB.size)
        have hB6 := hB5.alloc hB5.size (.cells #[.int .i64 (cap : Int), .int .i64 (tn : Int), .int .i64 (lim : Int), .slice (some ⟨G1, 0, none⟩) n c1] 35)
        have hn5 := QBox.new w5 cap tn lim (.slice (some ⟨G1, 0, none⟩) n c1)
        have j1 := i1.alloc (.cells #[.int .i64 (cap : Int), .int .i64 (tn : Int), .int .i64 (lim : Int), .slice (some ⟨G1, 0, none⟩) n c1] 35)
        have j2 := i2.alloc (.cells #[.int .i64 (cap : Int), .int .i64 (tn : Int), .int .i64 (lim : Int), .slice (some ⟨G1, 0, none⟩) n c1] 35)
        have j3 := i3.alloc (.cells #[.int .i64 (cap : Int), .int .i64 (tn : Int), .int .i64 (lim : Int), .slice (some ⟨G1, 0, none⟩) n c1] 35)
        have s1 := i1.lt
        have s2 := i2.lt
        have s3 := i3.lt
        have s4 := hS.lt
        have s5 := hR.lt
        have s6 := hB5.size
        have HDIV := Lib.hid hdiv
        have HTN := Lib.hid htn
        clear hx hy hS hR hB hB5 hb i1 i2 i3 hdiv htn y0 y1 y2 y3 hrows hU
        go_wp2_with fail
        obtain ⟨N, hN⟩ : ∃ N, w5.heap.size = N := ⟨_, rfl⟩
        obtain ⟨w6, hw6⟩ : ∃ w6, w5.alloc (.cells #[.int .i64 (cap : Int), .int .i64 (tn : Int), .int .i64 (lim : Int), .slice (some ⟨G1, 0, none⟩) n c1] 35) = w6 := ⟨_, rfl⟩
        rw [hN] at hn5 s1 s2 s3 s6 ⊢
        rw [hw6] at hx5 hy5 hS5 hR5 hB6 hn5 j1 j2 j3 ⊢
        clear hN hw6
        have l4 : D ≠ G1 ∧ D ≠ G2 ∧ D ≠ G3 ∧ E ≠ G1 ∧ E ≠ G2 ∧ E ≠ G3 := ⟨by omega, by omega, by omega, by omega, by omega, by omega⟩
        obtain ⟨l41, l42, l43, l44, l45, l46⟩ := l4
        have l5 : D < N ∧ E < N ∧ w.heap.size + 1 < N := by have := hn5.lt; have := hy5.lt; exact ⟨by omega, by omega, by omega⟩
        obtain ⟨l51, l52, l53⟩ := l5
        go_loopw [58] (fun z wv => ∃ j : Nat, j ≤ n ∧ z = .int .i64 j ∧ QBox wv w.heap.size cap tk lim (.slice (some ⟨X, 0, none⟩) n cx) ∧ QBox wv (w.heap.size + 1) 0 0 0 (.slice none 0 0) ∧ QBox wv N cap tn lim (.slice (some ⟨G1, 0, none⟩) n c1) ∧
          IntsAt wv D n (fun i => if i < j then servedF S k i + sv i else servedF S k i) ∧ IntsAt wv E n (fun i => if i < j then droppedF lim ar U k i + dropF lim ar U k i else droppedF lim ar U k i) ∧
          IntsAt wv G1 n (fun i => min (U k i + ar k i) lim - sv i) ∧ IntsAt wv G2 n sv ∧ IntsAt wv G3 n (dropF lim ar U k) ∧ Below w.heap.size w wv) (fun z _ => n - (intOf z).toNat)
        case atStart => exact ⟨0, by omega, rfl, hx5, hy5, hn5, hS5.congr (fun i _ => by rw [if_neg (by omega)]), hR5.congr (fun i _ => by rw [if_neg (by omega)]), j1, j2, j3, hB6⟩
        case round =>
          obtain ⟨j, hj, rfl, hx, hy, hn6, hS, hR, hU, hs, hd, hB⟩ := hrel
          clear hx5 hy5 hn5 hS5 hR5 j1 j2 j3 hB6
          by_cases hjn : j < n
          · have q0 : (0 : Int) ≤ (j : Int) := by omega
            have q1 : (j : Int) < (n : Int) := by omega
            have x1 := hS.cell j hjn
            have x2 := hS.free j
            have x3 := hs.cell j hjn
            rw [if_neg (by omega)] at x1
            have b1 := hSle j hjn
            have b2 := hsvle j hjn
            obtain ⟨u, hu⟩ : ∃ u, servedF S k j = u := ⟨_, rfl⟩
            obtain ⟨v, hv⟩ : ∃ v, sv j = v := ⟨_, rfl⟩
            rw [hu] at x1 b1
            rw [hv] at x3 b2
            have b3 : u ≤ 200000000 := by omega
            clear b1
            go_wp2_with fail
            go_region
            all_goals (try go_wp2)
            rw [show (u : Int) + (v : Int) = ((u + v : Nat) : Int) by omega]
            have hx7 := (hx.other (b := D) (i := j) (by omega) (.int .i64 ((u + v : Nat) : Int))).drew
            have hy7 := (hy.other (b := D) (i := j) (by omega) (.int .i64 ((u + v : Nat) : Int))).drew
            have hn7 := (hn6.other (b := D) (i := j) (by omega) (.int .i64 ((u + v : Nat) : Int))).drew
            have hS7 := (hS.set j (u + v) hjn).drew.congr (b := fun i => if i < j + 1 then servedF S k i + sv i else servedF S k i) (fun i hi => by
              by_cases e : i = j
              · rw [if_pos (by omega), if_pos e, e, hu, hv]
              · rw [if_neg e]
                by_cases h : i < j
                · rw [if_pos h, if_pos (by omega)]
                · rw [if_neg h, if_neg (by omega)])
            have hR7 := (hR.other (b := D) (i := j) (by omega) (.int .i64 ((u + v : Nat) : Int))).drew
            have hU7 := (hU.other (b := D) (i := j) (by omega) (.int .i64 ((u + v : Nat) : Int))).drew
            have hs7 := (hs.other (b := D) (i := j) (by omega) (.int .i64 ((u + v : Nat) : Int))).drew
            have hd7 := (hd.other (b := D) (i := j) (by omega) (.int .i64 ((u + v : Nat) : Int))).drew
            have hB7 := (Below_set hB (b := D) (i := j) (by omega) (.int .i64 ((u + v : Nat) : Int))).drew
            obtain ⟨wa, hwa⟩ : ∃ wa, (wr.setCell ⟨D, j, none⟩ (.int .i64 ((u + v : Nat) : Int))).drew = wa := ⟨_, rfl⟩
            rw [hwa] at hx7 hy7 hn7 hS7 hR7 hU7 hs7 hd7 hB7 ⊢
            clear hwa hx hy hn6 hS hR hU hs hd hB x1 x2 x3 b2 b3 hu hv
            have x1 := hR7.cell j hjn
            have x2 := hR7.free j
            have x3 := hd7.cell j hjn
            rw [if_neg (by omega)] at x1
            have b1 := hRle j hjn
            have b2 := hdrle j hjn
            obtain ⟨u', hu⟩ : ∃ u, droppedF lim ar U k j = u := ⟨_, rfl⟩
            obtain ⟨v', hv⟩ : ∃ v, dropF lim ar U k j = v := ⟨_, rfl⟩
            rw [hu] at x1 b1
            rw [hv] at x3 b2
            have b3 : u' ≤ 200000000 := by omega
            clear b1
            go_region
            all_goals (try go_wp2)
            rw [show (u' : Int) + (v' : Int) = ((u' + v' : Nat) : Int) by omega]
            exact ⟨⟨j + 1, by omega, by go_num, (hx7.other (by omega) _).drew, (hy7.other (by omega) _).drew, (hn7.other (by omega) _).drew, (hS7.other (by omega) _).drew, (hR7.set j (u' + v') hjn).drew.congr (fun i hi => by
              by_cases e : i = j
              · rw [if_pos (by omega), if_pos e, e, hu, hv]
              · rw [if_neg e]
                by_cases h : i < j
                · rw [if_pos h, if_pos (by omega)]
                · rw [if_neg h, if_neg (by omega)]), (hU7.other (by omega) _).drew, (hs7.other (by omega) _).drew, (hd7.other (by omega) _).drew, (Below_set hB7 (by omega) _).drew⟩, by simp [intOf]; omega⟩
          · obtain rfl : n = j := by omega
            obtain ⟨z0, z1, z2, z3⟩ := hn6.cells
            obtain ⟨y0, y1, y2, y3⟩ := hx.cells
            have f0 := hx.free 0
            have f1 := hx.free 1
            have f2 := hx.free 2
            have f3 := hx.free 3
            go_wp2_with fail
            have hd2 : DivIs n (fun i => min (U k i + ar k i) lim) cap ((t + k) % n) sv := by rw [HTK.out]; exact HDIV.out
            have hmod : (t + (k + 1)) % n = tn := by rw [← HTN.out, ← HTK.out, ← Nat.add_assoc, Nat.mod_add_mod]
            exact ⟨⟨k + 1, G1, c1, _, _, by omega, by go_num, HRUN.out.snoc hd2, by rw [hmod]; exact hx.setAll cap tn lim _, ((((hy.other (by omega) _).other (by omega) _).other (by omega) _).other (by omega) _),
              ((((hU.other (by omega) _).other (by omega) _).other (by omega) _).other (by omega) _).congr (fun i _ => by rw [if_pos rfl]), ((((hS.other (by omega) _).other (by omega) _).other (by omega) _).other (by omega) _).congr (fun i hi => by rw [servedF_snoc, if_pos hi]), ((((hR.other (by omega) _).other (by omega) _).other (by omega) _).other (by omega) _).congr (fun i hi => by rw [droppedF_snoc, if_pos hi]), by omega, by omega,
              Below_set (Below_set (Below_set (Below_set hB (Nat.le_refl _) _) (Nat.le_refl _) _) (Nat.le_refl _) _) (Nat.le_refl _) _⟩, by simp [intOf]; omega⟩
      · obtain rfl : k0 = k := by omega
        obtain ⟨bq, oq, rfl, hbq, hcq⟩ := (HQ.out.below hB).cell k0 hk0
        have hrows := ((HQ.out.below hB).rows k0 hk0).reads
        have hsm := ((HQ.out.below hB).rows k0 hk0).small
        have c1 := hcq k0 hk0
        have k0' : (0 : Int) ≤ (k0 : Int) := by omega
        have k1 : (k0 : Int) < (m : Int) := by omega
        obtain ⟨y0, y1, y2, y3⟩ := hx.cells
        obtain ⟨tk, htke⟩ : ∃ tk, (t + k0) % n = tk := ⟨_, rfl⟩
        rw [htke] at hx htk y1
        clear hcq htke
        go_wp2_with fail
        refine (round_bad cap tk lim _ _ n cx (L k0) (C k0) _ _ wr (by unfold maxLen; omega) hsm hU.reads hrows (fun h => HBAD.out h.2)).mono ?_
        rintro e w5 ⟨rfl, hb⟩
        have hy5 := (hy.below hb).alloc (.cells #[.int .i64 0, .int .i64 0, .int .i64 0, .slice none 0 0] 35)
        have hB5 := hB.trans (hb.mono hB.size)
        have hB6 := hB5.alloc hB5.size (.cells #[.int .i64 0, .int .i64 0, .int .i64 0, .slice none 0 0] 35)
        clear hx hy hS hR hB hB5 hb y0 y1 y2 y3 hrows hU
        obtain ⟨z0, z1, z2, z3⟩ := hy5.cells
        have f0 := hy5.free 0
        have f1 := hy5.free 1
        have f2 := hy5.free 2
        have f3 := hy5.free 3
        go_wp2_with fail
        refine bodyPost_ret (v := .tuple #[.agg #[.int .i64 0, .int .i64 0, .int .i64 0, .slice none 0 0], .slice none 0 0, .slice none 0 0, .int .i64 360]) (by simp [results, Try.results23, go_sem, z0, z1, z2, z3]) rfl ?_
        exact ⟨rfl, Below_set (Below_set (Below_set (Below_set hB6 (by omega) _) (by omega) _) (by omega) _) (by omega) _⟩
set_option maxHeartbeats 2000000 in
theorem run_bad_head (cap t lim : Int) (p q : Option Addr) (n c m d : Nat) (f : Nat → Int) (w : World) (hn : n ≤ maxLen) (hm : m ≤ maxLen) (hp : ReadsI w p n f) (h : ¬ (QuotaOk cap t lim n f ∧ m ≤ 200)) :
    Calls Try.prog 23 #[.agg #[.int .i64 cap, .int .i64 t, .int .i64 lim, .slice p n c], .slice q m d] w fun e w' => e = .returned (.tuple #[.agg #[.int .i64 0, .int .i64 0, .int .i64 0, .slice none 0 0], .slice none 0 0, .slice none 0 0, .int .i64 360]) ∧ Below w.heap.size w w' := by
  have HP := Lib.hid hp
  have HH := Lib.hid h
  have hB0 := ((Below.refl w.heap.size w).alloc (Nat.le_refl _) (.cells #[.int .i64 cap, .int .i64 t, .int .i64 lim, .slice p n c] 35)).alloc (by simp) (.cells #[.int .i64 0, .int .i64 0, .int .i64 0, .slice none 0 0] 35)
  have HV := Lib.hid (valid_any cap t lim p n c f _ hn (HP.out.below hB0))
  have hy0 := QBox.new (w.alloc (.cells #[.int .i64 cap, .int .i64 t, .int .i64 lim, .slice p n c] 35)) 0 0 0 (.slice none 0 0)
  clear hp h
  unfold maxLen at hn hm
  go_enter Try.func23, Try.ntmps23
  go_wp2_with fail
  refine HV.out.mono ?_
  rintro e w1 ⟨⟨r, rfl, hr⟩, hb1⟩
  have HR := Lib.hid hr
  have hB1 := hB0.trans (hb1.mono hB0.size)
  have hy1 := hy0.below hb1
  rw [World.size_alloc] at hy1
  obtain ⟨z0, z1, z2, z3⟩ := hy1.cells
  have f0 := hy1.free 0
  have f1 := hy1.free 1
  have f2 := hy1.free 2
  have f3 := hy1.free 3
  have hyl := hy1.lt
  have hBB := fun a b c d => Below_set (Below_set (Below_set (Below_set hB1 (b := w.heap.size + 1) (i := 0) (by omega) a) (b := w.heap.size + 1) (i := 1) (by omega) b) (b := w.heap.size + 1) (i := 2) (by omega) c) (b := w.heap.size + 1) (i := 3) (by omega) d
  have HB := Lib.hid hBB
  clear hr hb1 hy0 hB0 hBB hB1
  cases r with
  | false =>
    go_wp2_with fail
    refine bodyPost_ret (v := .tuple #[.agg #[.int .i64 0, .int .i64 0, .int .i64 0, .slice none 0 0], .slice none 0 0, .slice none 0 0, .int .i64 360]) (by simp [results, Try.results23, go_sem, z0, z1, z2, z3]) rfl ?_
    exact ⟨rfl, HB.out _ _ _ _⟩
  | true =>
    have h200 : ¬ m ≤ 200 := fun e => HH.out ⟨HR.out.1 (by trivial), e⟩
    have h201 : (200 : Int) < (m : Int) := by omega
    go_wp2_with fail
    refine bodyPost_ret (v := .tuple #[.agg #[.int .i64 0, .int .i64 0, .int .i64 0, .slice none 0 0], .slice none 0 0, .slice none 0 0, .int .i64 360]) (by simp [results, Try.results23, go_sem, z0, z1, z2, z3]) rfl ?_
    exact ⟨rfl, HB.out _ _ _ _⟩
set_option maxHeartbeats 2000000 in
theorem ref_run_bad_head (cap t lim : Int) (p q : Option Addr) (n c m d : Nat) (f : Nat → Int) (w : World) (hn : n ≤ maxLen) (hm : m ≤ maxLen) (hp : ReadsI w p n f) (h : ¬ (QuotaOk cap t lim n f ∧ m ≤ 200)) :
    Calls Try.prog 24 #[.agg #[.int .i64 cap, .int .i64 t, .int .i64 lim, .slice p n c], .slice q m d] w fun e w' => e = .returned (.tuple #[.agg #[.int .i64 0, .int .i64 0, .int .i64 0, .slice none 0 0], .slice none 0 0, .slice none 0 0, .int .i64 360]) ∧ Below w.heap.size w w' := by
  have HP := Lib.hid hp
  have HH := Lib.hid h
  have hB0 := ((Below.refl w.heap.size w).alloc (Nat.le_refl _) (.cells #[.int .i64 cap, .int .i64 t, .int .i64 lim, .slice p n c] 35)).alloc (by simp) (.cells #[.int .i64 0, .int .i64 0, .int .i64 0, .slice none 0 0] 35)
  have HV := Lib.hid (ref_valid_any cap t lim p n c f _ hn (HP.out.below hB0))
  have hy0 := QBox.new (w.alloc (.cells #[.int .i64 cap, .int .i64 t, .int .i64 lim, .slice p n c] 35)) 0 0 0 (.slice none 0 0)
  clear hp h
  unfold maxLen at hn hm
  go_enter Try.func24, Try.ntmps24
  go_wp2_with fail
  refine HV.out.mono ?_
  rintro e w1 ⟨⟨r, rfl, hr⟩, hb1⟩
  have HR := Lib.hid hr
  have hB1 := hB0.trans (hb1.mono hB0.size)
  have hy1 := hy0.below hb1
  rw [World.size_alloc] at hy1
  obtain ⟨z0, z1, z2, z3⟩ := hy1.cells
  have f0 := hy1.free 0
  have f1 := hy1.free 1
  have f2 := hy1.free 2
  have f3 := hy1.free 3
  have hyl := hy1.lt
  have hBB := fun a b c d => Below_set (Below_set (Below_set (Below_set hB1 (b := w.heap.size + 1) (i := 0) (by omega) a) (b := w.heap.size + 1) (i := 1) (by omega) b) (b := w.heap.size + 1) (i := 2) (by omega) c) (b := w.heap.size + 1) (i := 3) (by omega) d
  have HB := Lib.hid hBB
  clear hr hb1 hy0 hB0 hBB hB1
  cases r with
  | false =>
    go_wp2_with fail
    refine bodyPost_ret (v := .tuple #[.agg #[.int .i64 0, .int .i64 0, .int .i64 0, .slice none 0 0], .slice none 0 0, .slice none 0 0, .int .i64 360]) (by simp [results, Try.results24, go_sem, z0, z1, z2, z3]) rfl ?_
    exact ⟨rfl, HB.out _ _ _ _⟩
  | true =>
    have h200 : ¬ m ≤ 200 := fun e => HH.out ⟨HR.out.1 (by trivial), e⟩
    have h201 : (200 : Int) < (m : Int) := by omega
    go_wp2_with fail
    refine bodyPost_ret (v := .tuple #[.agg #[.int .i64 0, .int .i64 0, .int .i64 0, .slice none 0 0], .slice none 0 0, .slice none 0 0, .int .i64 360]) (by simp [results, Try.results24, go_sem, z0, z1, z2, z3]) rfl ?_
    exact ⟨rfl, HB.out _ _ _ _⟩
end Go.Proofs.Ytdodhfodojjfeaa
