/- The reference of chapter 36: Run on rounds of which the first k0 are good. Conditions: a valid quota; slices that can be read. -/
import Derived.Test.YtdodhfodojjfeaaRunBad
import Derived.Deep.DeepMust
namespace Go.Proofs.Ytdodhfodojjfeaa
open Go Go.RowKit Go.Shelf
set_option maxRecDepth 100000 in
set_option maxHeartbeats 8000000 in
theorem ref_run_rows (cap t lim n c m mc k0 : Nat) (p q : Option Addr) (wt : Nat → Nat) (ar : Nat → Nat → Nat) (A : Nat → Option Addr) (L C : Nat → Nat) (Z : Nat → Nat → Int) (w : World) (hcap : cap ≤ 1000000) (hlim : lim ≤ 1000000) (hn1 : 1 ≤ n) (hn : n ≤ 8) (ht : t < n) (hm : m ≤ 200)
    (hwt : ∀ i, i < n → wt i ≤ lim) (hk0 : k0 ≤ m) (har : ∀ k, k < k0 → L k = n ∧ ∀ i, i < n → Z k i = ((ar k i : Nat) : Int) ∧ ar k i ≤ 1000000) (hbad : k0 < m → ¬ (demandsB (L k0) (Z k0) ∧ L k0 = n)) (hp : ReadsI w p n (fun i => ((wt i : Nat) : Int))) (hq : RowsIn w q m A L C Z) :
    Calls Try.prog 24 #[.agg #[.int .i64 (cap : Int), .int .i64 (t : Int), .int .i64 (lim : Int), .slice p n c], .slice q m mc] w fun e w' => (k0 = m ∧ IsRun w cap t lim n m wt ar e w') ∨ (k0 < m ∧ e = .returned (.tuple #[.agg #[.int .i64 0, .int .i64 0, .int .i64 0, .slice none 0 0], .slice none 0 0, .slice none 0 0, .int .i64 360]) ∧ Below w.heap.size w w') := by
  have hok : QuotaOk cap t lim n (fun i => ((wt i : Nat) : Int)) := ⟨⟨by omega, by omega⟩, ⟨by omega, by omega⟩, ⟨hn1, hn, fun i hi => ⟨by show (0:Int) ≤ (wt i : Nat); omega, by have := hwt i hi; show ((wt i : Nat) : Int) ≤ 1000000; omega⟩⟩, by omega, by omega, fun i hi => by have := hwt i hi; show ((wt i : Nat) : Int) ≤ lim; omega⟩
  obtain ⟨i0, hi0, hj0, hj1, hj2⟩ := info_parts Try.infoInt
  have HP := Lib.hid hp
  have HAR := Lib.hid har
  have HBAD := Lib.hid hbad
  clear har hbad
  have HQ := Lib.hid hq
  have HV := fun W (hb : Below w.heap.size w W) => (ref_valid_any cap t lim p n c (fun i => ((wt i : Nat) : Int)) W (by unfold maxLen; omega) (HP.out.below hb)).mono fun e w' ⟨h1, h2⟩ => (⟨h1.yes hok, h2⟩ : e = Ending.returned (.bool true) ∧ Below W.heap.size W w')
  have HV' := Lib.hid HV
  have hB0 := ((Below.refl w.heap.size w).alloc (Nat.le_refl _) (.cells #[.int .i64 (cap : Int), .int .i64 (t : Int), .int .i64 (lim : Int), .slice p n c] 35)).alloc (by simp) (.cells #[.int .i64 0, .int .i64 0, .int .i64 0, .slice none 0 0] 35)
  have hx0 := (QBox.new w cap t lim (.slice p n c)).alloc (.cells #[.int .i64 0, .int .i64 0, .int .i64 0, .slice none 0 0] 35)
  have hy0 := QBox.new (w.alloc (.cells #[.int .i64 (cap : Int), .int .i64 (t : Int), .int .i64 (lim : Int), .slice p n c] 35)) 0 0 0 (.slice none 0 0)
  clear hp hq HV hok
  go_enter Try.func24, Try.ntmps24
  go_wp2_with fail
  refine (HV'.out _ hB0).mono ?_
  rintro e w1 ⟨rfl, hb1⟩
  have hB1 := hB0.trans (hb1.mono hB0.size)
  have hx1 := hx0.below hb1
  have hy1 := hy0.below hb1
  rw [World.size_alloc] at hy1
  have hyl := hy1.lt
  obtain ⟨o, hmk, hmi⟩ := make_all n (by omega)
  have HMI := Lib.hid hmi
  obtain ⟨bp, op, rfl, hcp⟩ := HP.out.below hB1 0 (by omega)
  have HCP := Lib.hid hcp
  have x3 := hx1.cells.2.2.2
  have x4 := (hx1.alloc o).cells.2.2.2
  obtain ⟨y0, y1, y2, y3⟩ := ((hx1.alloc o).alloc o).cells
  have d1 : decide (200 < (m : Int)) = false := decide_eq_false (by omega)
  have d2 : decide (200 < m) = false := decide_eq_false (by omega)
  clear hx0 hy0 hB0 hb1 hmi hcp
  go_upto_region 6 with fail
  obtain ⟨W3, hW3⟩ : ∃ W3, ((w1.alloc o).alloc o).alloc (.cells #[.int .i64 (cap : Int), .int .i64 (t : Int), .int .i64 (lim : Int), .slice (some ⟨bp, op, none⟩) n c] 35) = W3 := ⟨_, rfl⟩
  have hx3 : QBox W3 w.heap.size cap t lim (.slice (some ⟨bp, op, none⟩) n c) := hW3 ▸ ((hx1.alloc o).alloc o).alloc _
  have hy3 : QBox W3 (w.heap.size + 1) 0 0 0 (.slice none 0 0) := hW3 ▸ ((hy1.alloc o).alloc o).alloc _
  have hz3 : QBox W3 (w1.heap.size + 1 + 1) cap t lim (.slice (some ⟨bp, op, none⟩) n c) := by
    have h := QBox.new ((w1.alloc o).alloc o) cap t lim (.slice (some ⟨bp, op, none⟩) n c)
    rw [World.size_alloc, World.size_alloc] at h
    exact hW3 ▸ h
  have hD3 : IntsAt W3 w1.heap.size n (fun _ => 0) := hW3 ▸ ((HMI.out w1).alloc o).alloc _
  have hE3 : IntsAt W3 (w1.heap.size + 1) n (fun _ => 0) := by
    have h := (HMI.out (w1.alloc o)).alloc (.cells #[.int .i64 (cap : Int), .int .i64 (t : Int), .int .i64 (lim : Int), .slice (some ⟨bp, op, none⟩) n c] 35)
    rw [World.size_alloc] at h
    exact hW3 ▸ h
  have hb3 : Below w1.heap.size w1 W3 := hW3 ▸ (((Below.refl w1.heap.size w1).alloc (Nat.le_refl _) o).alloc (by rw [World.size_alloc]; omega) o).alloc (by rw [World.size_alloc, World.size_alloc]; omega) _
  have hB3 := hB1.trans (hb3.mono hB1.size)
  have hs3 : W3.heap.size = w1.heap.size + 1 + 1 + 1 := by rw [← hW3, World.size_alloc, World.size_alloc, World.size_alloc]
  have hsrc : ∀ j, j < n → (W3.alloc (.cells #[] 3)).cell? ⟨bp, op + j, none⟩ = some (.int .i64 ((wt j : Nat) : Int)) := by
    obtain ⟨b', o', he, hc⟩ := HP.out.below (hB3.alloc hB3.size (.cells #[] 3)) 0 (by omega)
    cases he
    exact hc
  rw [hW3]
  obtain ⟨D, hD⟩ : ∃ D, w1.heap.size = D := ⟨_, rfl⟩
  rw [hD] at hz3 hD3 hE3 hs3 hyl ⊢
  clear hW3 hx1 hy1 hB1 x3 x4 y0 y1 y2 y3 d1 d2 hmk HMI HCP hb3
  have hx4 := hx3.alloc (.cells #[] 3)
  have hy4 := hy3.alloc (.cells #[] 3)
  have hz4 := hz3.alloc (.cells #[] 3)
  have x3 := hx4.cells.2.2.2
  have HN := Lib.hid (news_of_cells (W := W3.alloc (.cells #[] 3)) (b := bp) (off := op) (n := n) (a := wt) hsrc)
  have HR := Lib.hid (range_ints wt n)
  have hs4 : D + 1 + 1 < W3.heap.size := by omega
  clear hsrc hs3
  go_wp2_with (at_builtin; go_must (refine wpList_append_own (o := ⟨some 38, _, _, _, _, _⟩) _ rfl _ _ 22 rfl W3.heap.size 3 i0 (.int .i64 0) 1 8 Try.underlying22 hi0 hj0 hj1 hj2 rfl (by decide) _ 0 [] rfl (empty_own W3) ⟨bp, op, none⟩ n c ((List.range n).map fun i => Value.int .i64 ((wt i : Nat) : Int)) rfl (by simp) HN.out HR.out (by unfold maxLen; omega) (by omega) (by simp) ?_); intro v' w5 hown' hgrow _; obtain ⟨⟨X, cx, rfl, hX, hXl⟩, hb4⟩ := after_copy hn1 hown' hgrow; have hz5 := hz3.below hb4; have f3 := hz5.free 3; have z3 := hz5.cells.2.2.2)
  have hXl2 : D + 1 + 1 < X := by omega
  have hx6 := (hx3.below hb4).other (b := D + 1 + 1) (i := 3) (by omega) (.slice (some ⟨X, 0, none⟩) n cx)
  have hy6 := (hy3.below hb4).other (b := D + 1 + 1) (i := 3) (by omega) (.slice (some ⟨X, 0, none⟩) n cx)
  have hz6 := hz5.setW (.slice (some ⟨X, 0, none⟩) n cx)
  have hD6 := (hD3.below hb4).other (b := D + 1 + 1) (i := 3) (by omega) (.slice (some ⟨X, 0, none⟩) n cx)
  have hE6 := (hE3.below hb4).other (b := D + 1 + 1) (i := 3) (by omega) (.slice (some ⟨X, 0, none⟩) n cx)
  have hX6 := hX.other (b := D + 1 + 1) (i := 3) (by omega) (.slice (some ⟨X, 0, none⟩) n cx)
  have hB6 := Below_set (hB3.trans (hb4.mono hB3.size)) (b := D + 1 + 1) (i := 3) (by omega) (.slice (some ⟨X, 0, none⟩) n cx)
  clear hgrow hown' hx3 hy3 hz3 hD3 hE3 hB3 hx4 hy4 hz4 x3 HN HR hX hz5 f3 z3 hb4
  obtain ⟨w6, hw6⟩ : ∃ w6, w5.setCell ⟨D + 1 + 1, 3, none⟩ (.slice (some ⟨X, 0, none⟩) n cx) = w6 := ⟨_, rfl⟩
  rw [hw6] at hx6 hy6 hz6 hD6 hE6 hX6 hB6 ⊢
  obtain ⟨Y, hY⟩ : ∃ Y, D + 1 + 1 = Y := ⟨_, rfl⟩
  obtain ⟨E, hE⟩ : ∃ E, D + 1 = E := ⟨_, rfl⟩
  have hYl : D < Y ∧ E < Y ∧ D < E ∧ w.heap.size + 1 < D := ⟨by omega, by omega, by omega, hyl⟩
  obtain ⟨hl1, hl2, hl3, hl4⟩ := hYl
  rw [hY] at hz6 hXl2 ⊢
  rw [hE] at hE6 ⊢
  clear hw6 hD hs4 hXl hY hE hyl
  have h0 : RunIs n cap lim t 0 wt ar (fun _ => wt) (fun _ _ => 0) := ⟨fun _ _ => rfl, fun k hk => by omega⟩
  go_loopw [11] (fun z wr => ∃ (k X cx : Nat) (U S : Nat → Nat → Nat), k ≤ k0 ∧ z = .int .i64 k ∧ RunIs n cap lim t k wt ar U S ∧ QBox wr w.heap.size cap t lim (.slice (some ⟨bp, op, none⟩) n c) ∧ QBox wr (w.heap.size + 1) 0 0 0 (.slice none 0 0) ∧ QBox wr Y cap ((t + k) % n) lim (.slice (some ⟨X, 0, none⟩) n cx) ∧
      IntsAt wr X n (U k) ∧ IntsAt wr D n (servedF S k) ∧ IntsAt wr E n (droppedF lim ar U k) ∧ Y < X ∧ Below w.heap.size w wr) (fun z _ => k0 + 1 - (intOf z).toNat)
  case atStart => exact ⟨0, X, cx, _, _, by omega, rfl, h0, hx6, hy6, by rw [Nat.add_zero, Nat.mod_eq_of_lt ht]; exact hz6, hX6, hD6, hE6, hXl2, hB6⟩
  case round =>
    obtain ⟨k, X, cx, U, S, hk, rfl, hrun, hx, hy, hz, hU, hS, hR, hXl, hB⟩ := hrel
    clear hx6 hy6 hz6 hX6 hD6 hE6 hB6 h0 hXl2
    have htk : (t + k) % n < n := Nat.mod_lt _ (by omega)
    obtain ⟨tk, htke⟩ : ∃ tk, (t + k) % n = tk := ⟨_, rfl⟩
    rw [htke] at hz htk
    have HTK := Lib.hid htke
    have hwk := hrun.waiting hwt k (Nat.le_refl _)
    have HRUN := Lib.hid hrun
    clear htke hrun
    have HZ := Lib.hid hz
    have HX := Lib.hid hx
    have HY := Lib.hid hy
    have HU := Lib.hid hU
    have HS := Lib.hid hS
    have HR := Lib.hid hR
    obtain ⟨y0, y1, y2, y3⟩ := hz.cells
    have hYw := hz.lt
    have hXw := hU.lt
    have hDw := hS.lt
    have hEw := hR.lt
    clear hx hy hz hU hS hR
    by_cases hlt : k < m
    · obtain ⟨bq, oq, rfl, hbq, hcq⟩ := (HQ.out.below hB).cell k hlt
      have hrow := ((HQ.out.below hB).rows k hlt).reads
      have hsm := ((HQ.out.below hB).rows k hlt).small
      have c1 := hcq k hlt
      have v0 : (0 : Int) ≤ (k : Int) := by omega
      have v1 : (k : Int) < (m : Int) := by omega
      have hks : ∀ W, Below wr.heap.size wr W → (Below wr.heap.size wr W ∧ W.cell? ⟨Y, 0, none⟩ = some (.int .i64 (cap : Int)) ∧ W.cell? ⟨Y, 1, none⟩ = some (.int .i64 (tk : Int)) ∧ W.cell? ⟨Y, 2, none⟩ = some (.int .i64 (lim : Int)) ∧ W.cell? ⟨Y, 3, none⟩ = some (.slice (some ⟨X, 0, none⟩) n cx) ∧ W.cell? ⟨bq, oq + k, none⟩ = some (.slice (A k) (L k) (C k))) := fun W hb =>
        ⟨hb, (hb.cell hYw).trans y0, (hb.cell hYw).trans y1, (hb.cell hYw).trans y2, (hb.cell hYw).trans y3, (hb.cell hbq).trans c1⟩
      have HKS := Lib.hid hks
      have HROW := Lib.hid hrow
      clear hks hcq hrow y0 y1 y2 y3 c1
      obtain ⟨Ak, hAk⟩ : ∃ x, A k = x := ⟨_, rfl⟩
      obtain ⟨Lk, hLk⟩ : ∃ x, L k = x := ⟨_, rfl⟩
      obtain ⟨Ck, hCk⟩ : ∃ x, C k = x := ⟨_, rfl⟩
      by_cases hgd : k < k0
      · have hLn := (HAR.out k hgd).1
        rw [hLn] at hLk
        subst hLk
        have hrows : ReadsI wr Ak n (fun i => ((ar k i : Nat) : Int)) := by
          have h := HROW.out
          rw [hAk, hLn] at h
          exact h.congr fun i hi => ((HAR.out k hgd).2 i hi).1
        rw [hAk, hLn, hCk] at HKS
        obtain ⟨tn, htn⟩ : ∃ tn, (tk + 1) % n = tn := ⟨_, rfl⟩
        have hrd : ∀ W, Below wr.heap.size wr W → Calls Try.prog 21 #[.agg #[.int .i64 (cap : Int), .int .i64 (tk : Int), .int .i64 (lim : Int), .slice (some ⟨X, 0, none⟩) n cx], .slice Ak n Ck] W fun e W' =>
            ∃ (H1 H2 H3 d1 d2 d3 : Nat) (sv : Nat → Nat), e = .returned (.tuple #[.agg #[.int .i64 (cap : Int), .int .i64 (tn : Int), .int .i64 (lim : Int), .slice (some ⟨H1, 0, none⟩) n d1], .slice (some ⟨H2, 0, none⟩) n d2, .slice (some ⟨H3, 0, none⟩) n d3, .int .i64 0]) ∧
            DivIs n (fun i => min (U k i + ar k i) lim) cap tk sv ∧ IntsAt W' H1 n (fun i => min (U k i + ar k i) lim - sv i) ∧ IntsAt W' H2 n sv ∧ IntsAt W' H3 n (fun i => U k i + ar k i - min (U k i + ar k i) lim) ∧ (W.heap.size ≤ H1 ∧ W.heap.size ≤ H2 ∧ W.heap.size ≤ H3) ∧ Below wr.heap.size wr W' ∧ Below W.heap.size W W' := fun W hbW =>
          (ref_round_any cap tk lim n cx Ck _ _ (U k) (ar k) W hcap hlim hn1 hn htk hwk (fun i hi => ((HAR.out k hgd).2 i hi).2) (HU.out.reads.below hbW) (hrows.below hbW)).mono fun e w' h => by
            obtain ⟨H1, H2, H3, d1, d2, d3, sv, rfl, h1, h2, h3, h4, ⟨l1, l2, l3⟩, h5⟩ := h
            exact ⟨H1, H2, H3, d1, d2, d3, sv, by rw [htn], h1, h2, h3, h4, ⟨l1, l2, l3⟩, hbW.trans (h5.mono hbW.size), h5⟩
        have HRD := Lib.hid hrd
        have HTN := Lib.hid htn
        clear hrd htn hrows hLn hAk hCk hsm HROW
        go_wp2_with fail
        go_upto_region 10 with fail
        go_cut [12, 13, 14, 15] from 40 to 91 (fun s1 s2 s3 s4 wx => ∃ (M H1 H2 H3 d1 d2 d3 : Nat) (sv : Nat → Nat), s1 = .pointer (some ⟨M, 0, none⟩) ∧ s2 = .slice (some ⟨H2, 0, none⟩) n d2 ∧ s3 = .slice (some ⟨H3, 0, none⟩) n d3 ∧ s4 = .int .i64 0 ∧
          DivIs n (fun i => min (U k i + ar k i) lim) cap tk sv ∧ QBox wx M cap tn lim (.slice (some ⟨H1, 0, none⟩) n d1) ∧ IntsAt wx H1 n (fun i => min (U k i + ar k i) lim - sv i) ∧ IntsAt wx H2 n sv ∧ IntsAt wx H3 n (fun i => U k i + ar k i - min (U k i + ar k i) lim) ∧ (wr.heap.size ≤ M ∧ wr.heap.size ≤ H1 ∧ wr.heap.size ≤ H2 ∧ wr.heap.size ≤ H3) ∧ Below wr.heap.size wr wx)
        case first =>
          go_region_held3 (fun W => Below wr.heap.size wr W ∧ W.cell? ⟨Y, 0, none⟩ = some (.int .i64 (cap : Int)) ∧ W.cell? ⟨Y, 1, none⟩ = some (.int .i64 (tk : Int)) ∧ W.cell? ⟨Y, 2, none⟩ = some (.int .i64 (lim : Int)) ∧ W.cell? ⟨Y, 3, none⟩ = some (.slice (some ⟨X, 0, none⟩) n cx) ∧ W.cell? ⟨bq, oq + k, none⟩ = some (.slice Ak n Ck))
            (first | exact HKS.out _ (Below.refl _ _) | exact HKS.out _ (by assumption) | exact HKS.out _ (Below.drew (by assumption)) | exact HKS.out _ (Below.refl _ _).drew | exact HKS.out _ (Below.alloc (Below.refl _ _).drew (Nat.le_refl _) _) | exact HKS.out _ (Below.alloc (Below.refl _ _) (Nat.le_refl _) _) | exact HKS.out _ (Below.alloc (by assumption) (Below.size (by assumption)) _) | exact HKS.out _ (Below.drew (Below.alloc (by assumption) (Below.size (by assumption)) _)) | exact HKS.out _ (Below_set (Below_set (Below_set (Below_set (by assumption) (Nat.le_refl _) _) (Nat.le_refl _) _) (Nat.le_refl _) _) (Nat.le_refl _) _) | go_keep)
            ((go_at_call 21; refine (HRD.out _ ?_).mono ?_; (first | assumption | exact Below.refl _ _ | exact Below.drew (Below.refl _ _) | exact Below.drew (by assumption) | exact Below.alloc (Below.refl _ _).drew (Nat.le_refl _) _); rintro e W1 ⟨H1, H2, H3, d1, d2, d3, sv, rfl, hdv, i1, i2, i3, ⟨l1, l2, l3⟩, hbW, hbV⟩; (first | (have hqq : Below wr.drew.heap.size wr.drew W1 := hbV; clear hqq) | (have hqq : Below wr.heap.size wr W1 := hbV; clear hqq) | (have hz : QBox W1 wr.heap.size 0 0 0 (.slice none 0 0) := (QBox.new wr 0 0 0 (.slice none 0 0)).drew.below hbV; obtain ⟨z0, z1, z2, z3⟩ := hz.cells; have f0 := hz.free 0; have f1 := hz.free 1; have f2 := hz.free 2; have f3 := hz.free 3))))
          all_goals (go_wp2_with fail; go_meet)
          · have l1' : wr.heap.size ≤ H1 := l1
            have l2' : wr.heap.size ≤ H2 := l2
            have l3' : wr.heap.size ≤ H3 := l3
            exact ⟨_, H1, H2, H3, d1, d2, d3, sv, rfl, rfl, rfl, rfl, hdv, QBox.new W1 cap tn lim _, i1.alloc _, i2.alloc _, i3.alloc _, ⟨hbW.size, l1', l2', l3'⟩, hbW.alloc hbW.size _⟩
          · have hs1 : ∀ o : Obj, (wr.alloc o).drew.heap.size = wr.heap.size + 1 := fun o => by show (wr.alloc o).heap.size = _; simp
            rw [hs1] at l1 l2 l3
            exact ⟨_, H1, H2, H3, d1, d2, d3, sv, rfl, rfl, rfl, rfl, hdv, hz.setAll cap tn lim _, (((i1.other (by omega) _).other (by omega) _).other (by omega) _).other (by omega) _, (((i2.other (by omega) _).other (by omega) _).other (by omega) _).other (by omega) _, (((i3.other (by omega) _).other (by omega) _).other (by omega) _).other (by omega) _, ⟨Nat.le_refl _, by omega, by omega, by omega⟩, Below_set (Below_set (Below_set (Below_set hbW (Nat.le_refl _) _) (Nat.le_refl _) _) (Nat.le_refl _) _) (Nat.le_refl _) _⟩
        case rest =>
          obtain ⟨M, H1, H2, H3, d1, d2, d3, sv, rfl, rfl, rfl, rfl, hdv, hM, i1, i2, i3, ⟨o1, o2, o3, o4⟩, hbx⟩ := hcut
          have hsvle := hrun_served_le HRUN.out hdv HTK.out hlim hn1 htk
          have hark := fun i (hi : i < n) => ((HAR.out k hgd).2 i hi).2
          have hdrle := fun i (hi : i < n) => dropF_le (lim := lim) (ar := ar) (U := U) (k := k) (i := i) (hwk i hi) (hark i hi)
          have hSle := fun i (hi : i < n) => HRUN.out.servedF_le (by omega) hlim hi
          have hRle := fun i (hi : i < n) => HRUN.out.droppedF_le hwt (fun j hj i hi => ((HAR.out j (by omega)).2 i hi).2) hi
          have hx5 := HX.out.below hbx
          have hy5 := HY.out.below hbx
          have hz5 := HZ.out.below hbx
          have hS5 := HS.out.below hbx
          have hR5 := HR.out.below hbx
          have hB5 := hB.trans (hbx.mono hB.size)
          have hMl := hM.lt
          have HDV := Lib.hid hdv
          have hBw := hB.size
          clear HX HY HZ HS HR hB hbx HKS HRD hdv
          go_wp2_with fail
          go_loopw [16] (fun z wv => ∃ j : Nat, j ≤ n ∧ z = .int .i64 j ∧ QBox wv w.heap.size cap t lim (.slice (some ⟨bp, op, none⟩) n c) ∧ QBox wv (w.heap.size + 1) 0 0 0 (.slice none 0 0) ∧ QBox wv Y cap tk lim (.slice (some ⟨X, 0, none⟩) n cx) ∧ QBox wv M cap tn lim (.slice (some ⟨H1, 0, none⟩) n d1) ∧
            IntsAt wv D n (fun i => if i < j then servedF S k i + sv i else servedF S k i) ∧ IntsAt wv E n (fun i => if i < j then droppedF lim ar U k i + dropF lim ar U k i else droppedF lim ar U k i) ∧
            IntsAt wv H1 n (fun i => min (U k i + ar k i) lim - sv i) ∧ IntsAt wv H2 n sv ∧ IntsAt wv H3 n (dropF lim ar U k) ∧ Below w.heap.size w wv) (fun z _ => n - (intOf z).toNat)
          case atStart => exact ⟨0, by omega, rfl, hx5, hy5, hz5, hM, hS5.congr (fun i _ => by rw [if_neg (by omega)]), hR5.congr (fun i _ => by rw [if_neg (by omega)]), i1, i2, i3, hB5⟩
          case round =>
            obtain ⟨j, hj, rfl, hx, hy, hz, hn6, hS, hR, hU, hs, hd, hB⟩ := hrel
            clear hx5 hy5 hz5 hM hS5 hR5 i1 i2 i3 hB5
            by_cases hjn : j < n
            · have q0 : (0 : Int) ≤ (j : Int) := by omega
              have q1 : (j : Int) < (n : Int) := by omega
              have x1 := hS.cell j hjn
              have x2 := hS.free j
              have x3 := hs.cell j hjn
              rw [if_neg (by omega)] at x1
              have b1 := hSle j hjn
              have b2 := hsvle j hjn
              obtain ⟨u, hu⟩ : ∃ u, servedF S k j = u := ⟨_, rfl⟩
              obtain ⟨v, hv⟩ : ∃ v, sv j = v := ⟨_, rfl⟩
              rw [hu] at x1 b1
              rw [hv] at x3 b2
              have b3 : u ≤ 200000000 := by omega
              clear b1
              go_wp2_with fail
              go_region
              all_goals (try go_wp2)
              rw [show (u : Int) + (v : Int) = ((u + v : Nat) : Int) by omega]
              have hx7 := (hx.other (b := D) (i := j) (by omega) (.int .i64 ((u + v : Nat) : Int))).drew
              have hy7 := (hy.other (b := D) (i := j) (by omega) (.int .i64 ((u + v : Nat) : Int))).drew
              have hz7 := (hz.other (b := D) (i := j) (by omega) (.int .i64 ((u + v : Nat) : Int))).drew
              have hn7 := (hn6.other (b := D) (i := j) (by omega) (.int .i64 ((u + v : Nat) : Int))).drew
              have hS7 := (hS.set j (u + v) hjn).drew.congr (b := fun i => if i < j + 1 then servedF S k i + sv i else servedF S k i) (fun i hi => by
                by_cases e : i = j
                · rw [if_pos (by omega), if_pos e, e, hu, hv]
                · rw [if_neg e]
                  by_cases h : i < j
                  · rw [if_pos h, if_pos (by omega)]
                  · rw [if_neg h, if_neg (by omega)])
              have hR7 := (hR.other (b := D) (i := j) (by omega) (.int .i64 ((u + v : Nat) : Int))).drew
              have hU7 := (hU.other (b := D) (i := j) (by omega) (.int .i64 ((u + v : Nat) : Int))).drew
              have hs7 := (hs.other (b := D) (i := j) (by omega) (.int .i64 ((u + v : Nat) : Int))).drew
              have hd7 := (hd.other (b := D) (i := j) (by omega) (.int .i64 ((u + v : Nat) : Int))).drew
              have hB7 := (Below_set hB (b := D) (i := j) (by omega) (.int .i64 ((u + v : Nat) : Int))).drew
              obtain ⟨wa, hwa⟩ : ∃ wa, (wr.setCell ⟨D, j, none⟩ (.int .i64 ((u + v : Nat) : Int))).drew = wa := ⟨_, rfl⟩
              rw [hwa] at hx7 hy7 hz7 hn7 hS7 hR7 hU7 hs7 hd7 hB7 ⊢
              clear hwa hx hy hz hn6 hS hR hU hs hd hB x1 x2 x3 b2 b3 hu hv
              have x1 := hR7.cell j hjn
              have x2 := hR7.free j
              have x3 := hd7.cell j hjn
              rw [if_neg (by omega)] at x1
              have b1 := hRle j hjn
              have b2 := hdrle j hjn
              obtain ⟨u', hu⟩ : ∃ u, droppedF lim ar U k j = u := ⟨_, rfl⟩
              obtain ⟨v', hv⟩ : ∃ v, dropF lim ar U k j = v := ⟨_, rfl⟩
              rw [hu] at x1 b1
              rw [hv] at x3 b2
              have b3 : u' ≤ 200000000 := by omega
              clear b1
              go_region
              all_goals (try go_wp2)
              rw [show (u' : Int) + (v' : Int) = ((u' + v' : Nat) : Int) by omega]
              exact ⟨⟨j + 1, by omega, by go_num, (hx7.other (by omega) _).drew, (hy7.other (by omega) _).drew, (hz7.other (by omega) _).drew, (hn7.other (by omega) _).drew, (hS7.other (by omega) _).drew, (hR7.set j (u' + v') hjn).drew.congr (fun i hi => by
                by_cases e : i = j
                · rw [if_pos (by omega), if_pos e, e, hu, hv]
                · rw [if_neg e]
                  by_cases h : i < j
                  · rw [if_pos h, if_pos (by omega)]
                  · rw [if_neg h, if_neg (by omega)]), (hU7.other (by omega) _).drew, (hs7.other (by omega) _).drew, (hd7.other (by omega) _).drew, (Below_set hB7 (by omega) _).drew⟩, by simp [intOf]; omega⟩
            · obtain rfl : n = j := by omega
              obtain ⟨z0, z1, z2, z3⟩ := hn6.cells
              obtain ⟨y0, y1, y2, y3⟩ := hz.cells
              have f0 := hz.free 0
              have f1 := hz.free 1
              have f2 := hz.free 2
              have f3 := hz.free 3
              go_wp2_with fail
              have hd2 : DivIs n (fun i => min (U k i + ar k i) lim) cap ((t + k) % n) sv := by rw [HTK.out]; exact HDV.out
              have hmod : (t + (k + 1)) % n = tn := by rw [← HTN.out, ← HTK.out, ← Nat.add_assoc, Nat.mod_add_mod]
              exact ⟨⟨k + 1, H1, d1, _, _, by omega, by go_num, HRUN.out.snoc hd2, ((((hx.other (by omega) _).other (by omega) _).other (by omega) _).other (by omega) _), ((((hy.other (by omega) _).other (by omega) _).other (by omega) _).other (by omega) _), by rw [hmod]; exact hz.setAll cap tn lim _,
                ((((hU.other (by omega) _).other (by omega) _).other (by omega) _).other (by omega) _).congr (fun i _ => by rw [if_pos rfl]), ((((hS.other (by omega) _).other (by omega) _).other (by omega) _).other (by omega) _).congr (fun i hi => by rw [servedF_snoc, if_pos hi]), ((((hR.other (by omega) _).other (by omega) _).other (by omega) _).other (by omega) _).congr (fun i hi => by rw [droppedF_snoc, if_pos hi]), by omega,
                Below_set (Below_set (Below_set (Below_set hB (by omega) _) (by omega) _) (by omega) _) (by omega) _⟩, by simp [intOf]; omega⟩
      · obtain rfl : k0 = k := by omega
        rw [hAk, hLk, hCk] at HKS
        have hrd : ∀ W, Below wr.heap.size wr W → Calls Try.prog 21 #[.agg #[.int .i64 (cap : Int), .int .i64 (tk : Int), .int .i64 (lim : Int), .slice (some ⟨X, 0, none⟩) n cx], .slice Ak Lk Ck] W fun e W' =>
            e = .returned (.tuple #[.agg #[.int .i64 0, .int .i64 0, .int .i64 0, .slice none 0 0], .slice none 0 0, .slice none 0 0, .int .i64 360]) ∧ Below wr.heap.size wr W' ∧ Below W.heap.size W W' := fun W hbW => by
          have h := HROW.out
          have hb := HBAD.out hlt
          rw [hLk] at hsm hb
          rw [hAk, hLk] at h
          exact (ref_round_bad cap tk lim _ _ n cx Lk Ck _ _ W (by unfold maxLen; omega) hsm (HU.out.reads.below hbW) (h.below hbW) (fun h => hb h.2)).mono fun e w' h => ⟨h.1, hbW.trans (h.2.mono hbW.size), h.2⟩
        have HRD := Lib.hid hrd
        clear hrd hAk hLk hCk hsm HROW
        go_wp2_with fail
        go_upto_region 10 with fail
        go_cut [12, 13, 14, 15] from 40 to 91 (fun s1 s2 s3 s4 wx => ∃ (M : Nat), s1 = .pointer (some ⟨M, 0, none⟩) ∧ s2 = .slice none 0 0 ∧ s3 = .slice none 0 0 ∧ s4 = .int .i64 360 ∧ Below wr.heap.size wr wx)
        case first =>
          go_region_held3 (fun W => Below wr.heap.size wr W ∧ W.cell? ⟨Y, 0, none⟩ = some (.int .i64 (cap : Int)) ∧ W.cell? ⟨Y, 1, none⟩ = some (.int .i64 (tk : Int)) ∧ W.cell? ⟨Y, 2, none⟩ = some (.int .i64 (lim : Int)) ∧ W.cell? ⟨Y, 3, none⟩ = some (.slice (some ⟨X, 0, none⟩) n cx) ∧ W.cell? ⟨bq, oq + k0, none⟩ = some (.slice Ak Lk Ck))
            (first | exact HKS.out _ (Below.refl _ _) | exact HKS.out _ (by assumption) | exact HKS.out _ (Below.drew (by assumption)) | exact HKS.out _ (Below.refl _ _).drew | exact HKS.out _ (Below.alloc (Below.refl _ _).drew (Nat.le_refl _) _) | exact HKS.out _ (Below.alloc (Below.refl _ _) (Nat.le_refl _) _) | exact HKS.out _ (Below.alloc (by assumption) (Below.size (by assumption)) _) | exact HKS.out _ (Below.drew (Below.alloc (by assumption) (Below.size (by assumption)) _)) | exact HKS.out _ (Below_set (Below_set (Below_set (Below_set (by assumption) (Nat.le_refl _) _) (Nat.le_refl _) _) (Nat.le_refl _) _) (Nat.le_refl _) _) | go_keep)
            ((go_at_call 21; refine (HRD.out _ ?_).mono ?_; (first | assumption | exact Below.refl _ _ | exact Below.drew (Below.refl _ _) | exact Below.drew (by assumption) | exact Below.alloc (Below.refl _ _).drew (Nat.le_refl _) _); rintro e W1 ⟨rfl, hbW, hbV⟩; (first | (have hqq : Below wr.drew.heap.size wr.drew W1 := hbV; clear hqq) | (have hqq : Below wr.heap.size wr W1 := hbV; clear hqq) | (have hz : QBox W1 wr.heap.size 0 0 0 (.slice none 0 0) := (QBox.new wr 0 0 0 (.slice none 0 0)).drew.below hbV; obtain ⟨z0, z1, z2, z3⟩ := hz.cells; have f0 := hz.free 0; have f1 := hz.free 1; have f2 := hz.free 2; have f3 := hz.free 3))))
          all_goals (go_wp2_with fail; go_meet)
          · exact ⟨_, rfl, rfl, rfl, rfl, hbW.alloc hbW.size _⟩
          · exact ⟨_, rfl, rfl, rfl, rfl, Below_set (Below_set (Below_set (Below_set hbW (Nat.le_refl _) _) (Nat.le_refl _) _) (Nat.le_refl _) _) (Nat.le_refl _) _⟩
        case rest =>
          obtain ⟨M, rfl, rfl, rfl, rfl, hbx⟩ := hcut
          have hy5 := HY.out.below hbx
          have hB5 := hB.trans (hbx.mono hB.size)
          clear HX HY HZ HS HR hB hbx HKS HRD
          obtain ⟨z0, z1, z2, z3⟩ := hy5.cells
          have f0 := hy5.free 0
          have f1 := hy5.free 1
          have f2 := hy5.free 2
          have f3 := hy5.free 3
          go_wp2_with fail
          refine bodyPost_ret (v := .tuple #[.agg #[.int .i64 0, .int .i64 0, .int .i64 0, .slice none 0 0], .slice none 0 0, .slice none 0 0, .int .i64 360]) (by simp [results, Try.results24, go_sem, z0, z1, z2, z3]) rfl ?_
          exact .inr ⟨hlt, rfl, Below_set (Below_set (Below_set (Below_set hB5 (by omega) _) (by omega) _) (by omega) _) (by omega) _⟩
    · obtain rfl : m = k := by omega
      obtain rfl : k0 = m := by omega
      have hy := HY.out
      obtain ⟨z0, z1, z2, z3⟩ := hy.cells
      have f0 := hy.free 0
      have f1 := hy.free 1
      have f2 := hy.free 2
      have f3 := hy.free 3
      go_wp2_with fail
      refine bodyPost_ret (v := .tuple #[.agg #[.int .i64 (cap : Int), .int .i64 (tk : Int), .int .i64 (lim : Int), .slice (some ⟨X, 0, none⟩) n cx], .slice (some ⟨D, 0, none⟩) n n, .slice (some ⟨E, 0, none⟩) n n, .int .i64 0]) (by simp [results, Try.results24, go_sem, z0, z1, z2, z3]) rfl ?_
      exact ⟨X, D, E, cx, U, S, by rw [HTK.out], HRUN.out, ((((HU.out.other (by omega) _).other (by omega) _).other (by omega) _).other (by omega) _), ((((HS.out.other (by omega) _).other (by omega) _).other (by omega) _).other (by omega) _), ((((HR.out.other (by omega) _).other (by omega) _).other (by omega) _).other (by omega) _), ⟨by omega, by omega, by omega, by omega, by omega, by omega⟩, Below_set (Below_set (Below_set (Below_set hB (by omega) _) (by omega) _) (by omega) _) (by omega) _⟩
end Go.Proofs.Ytdodhfodojjfeaa
