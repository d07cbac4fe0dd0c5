/- QuotaCalm returns true. Conditions: numbers of 64 bits; slices that came in. -/
import Derived.Test.YtdodhfodojjfeaaLaw36Made
namespace Go.Proofs.Ytdodhfodojjfeaa
open Go Go.RowKit Go.Shelf
theorem calm_law {n cap t lm i am : Nat} {U arr sv : Nat → Nat} (ht : t < n) (hi : i < n) (h : DivIs n (fun j => min (U j + arr j) lm) cap t sv) (hU : U i = 0) (ha : arr i = am) (h1 : am ≤ cap / n) (h2 : am ≤ lm) :
    sv i = am ∧ min (U i + arr i) lm - sv i = 0 ∧ U i + arr i - min (U i + arr i) lm = 0 := by
  have e1 := h.even hi
  have e2 := (h.fair ht).2.1 i hi
  simp only [hU, ha] at e1 e2 ⊢
  omega
theorem QBox.setL {W : World} {B cap t lim : Nat} {v : Value} (h : QBox W B cap t lim v) (x : Nat) : QBox (W.setCell ⟨B, 2, none⟩ (.int .i64 (x : Int))) B cap t x v := by
  unfold QBox at h ⊢
  unfold World.setCell
  simp [Array.getElem?_modify, h]
set_option maxRecDepth 100000 in
set_option maxHeartbeats 8000000 in
theorem quotaCalm_any (a0 a1 a2 a5 : Int) (p q : Option Addr) (n0 c0 m0 e0 : Nat) (f : Nat → Int) (A : Nat → Option Addr) (L C : Nat → Nat) (Z : Nat → Nat → Int) (w : World) (hin : IntsIn w p n0 f) (hrows : RowsIn w q m0 A L C Z)
    (b0 : -9223372036854775808 ≤ a0 ∧ a0 ≤ 9223372036854775807) (b1 : -9223372036854775808 ≤ a1 ∧ a1 ≤ 9223372036854775807) (b2 : -9223372036854775808 ≤ a2 ∧ a2 ≤ 9223372036854775807) (b5 : -9223372036854775808 ≤ a5 ∧ a5 ≤ 9223372036854775807) :
    Calls Try.prog 6 #[.int .i64 a0, .int .i64 a1, .int .i64 a2, .slice p n0 c0, .slice q m0 e0, .int .i64 a5] w fun e w' => e = .returned (.bool true) ∧ Below w.heap.size w w' := by
  obtain ⟨i0, hi0, hz0, hz1, hz2⟩ := info_parts Try.infoInt
  have HIN := Lib.hid hin
  have HROWS := Lib.hid hrows
  clear hin hrows
  go_enter Try.func6, Try.ntmps6
  go_wp2_with fail
  refine (sane_any w).mono ?_
  rintro e w1 ⟨rfl, hB1⟩
  go_wp2_with fail
  refine (made_any a0 a1 a2 p q n0 c0 m0 e0 f A L C Z w1 (HIN.out.below hB1) (HROWS.out.below hB1) b0 b1 b2).mono ?_
  rintro e w2 ⟨cap, t, lim, n, m, GW, cw, cm, base, rp, wt, B, CC, ar, rfl, ⟨k1, k2, hn1, hn8, ht, hm⟩, hwt, har, hW, hGl, hGb, hor, hb2⟩
  have hB2 := hB1.trans (hb2.mono hB1.size)
  have hWR := Lib.hid hor
  have hwG := Nat.le_trans hB1.size hGl
  clear hb2 hB1 hor
  have hi2 := pickN_lt a5 (show 0 < n by omega)
  have q1 := fun W => pick_any a5 n n W rfl b5.1 b5.2 (by omega) (by omega)
  obtain ⟨i, hie⟩ : ∃ i, pickN a5 n = i := ⟨_, rfl⟩
  rw [hie] at hi2 q1
  have Q1 := Lib.hid q1
  clear hie q1
  obtain ⟨fq, hfq⟩ : ∃ fq, cap / n = fq := ⟨_, rfl⟩
  have hfq2 : fq ≤ 60 := by rw [← hfq]; exact Nat.le_trans (Nat.div_le_self cap n) (by omega)
  have hfq3 : (cap : Int) / (n : Int) = (fq : Int) := by rw [← hfq]; simp
  obtain ⟨lm, hlm⟩ : ∃ lm, max lim fq = lm := ⟨_, rfl⟩
  have hlm2 : lm ≤ 80 := by omega
  have x1 : (if (lim : Int) < (fq : Int) then (fq : Int) else (lim : Int)) = (lm : Int) := by rw [← hlm]; split <;> omega
  have x2 : (if lim < fq then (fq : Int) else (lim : Int)) = (lm : Int) := by rw [← hlm]; split <;> omega
  have HFQ := Lib.hid hfq
  have HLM := Lib.hid hlm
  have k0 : (0 : Int) ≤ (i : Int) := by omega
  have k3 : (i : Int) < (n : Int) := by omega
  have hxq := QBox.new w2 cap t lim (.slice (some ⟨GW, 0, none⟩) n cw)
  have hW2 := hW.alloc (.cells #[.int .i64 (cap : Int), .int .i64 (t : Int), .int .i64 (lim : Int), .slice (some ⟨GW, 0, none⟩) n cw] 35)
  have hor3 := (hWR.out.below (Below_set ((Below.refl w2.heap.size w2).alloc (Nat.le_refl _) (.cells #[.int .i64 (cap : Int), .int .i64 (t : Int), .int .i64 (lim : Int), .slice (some ⟨GW, 0, none⟩) n cw] 35)) (b := w2.heap.size) (i := 2) (Nat.le_refl _) (.int .i64 (lm : Int)))).other (i := i) hGb (.int .i64 0)
  have hB3 := hB2.alloc hB2.size (.cells #[.int .i64 (cap : Int), .int .i64 (t : Int), .int .i64 (lim : Int), .slice (some ⟨GW, 0, none⟩) n cw] 35)
  have hGQ := hW.lt
  have hsz2 := hB2.size
  clear hfq hlm hW hB2
  go_wp2_with fail
  refine (Q1.out _).mono ?_
  rintro e w3 ⟨rfl, rfl⟩
  obtain ⟨Q, hQe⟩ : ∃ Q, w2.heap.size = Q := ⟨_, rfl⟩
  obtain ⟨w3, hw3⟩ : ∃ w3, w2.alloc (.cells #[.int .i64 (cap : Int), .int .i64 (t : Int), .int .i64 (lim : Int), .slice (some ⟨GW, 0, none⟩) n cw] 35) = w3 := ⟨_, rfl⟩
  rw [hw3, hQe] at hxq
  rw [hw3] at hW2 hor3 hB3
  rw [hQe] at hor3
  rw [hQe] at hGQ hsz2
  rw [hw3, hQe]
  clear hw3 hQe hWR
  obtain ⟨z0, z1, z2, z3⟩ := hxq.cells
  have z4 := hxq.free 2
  have y1 := hW2.cell i hi2
  have y2 := hW2.free i
  have hbQ : Q < w3.heap.size := hxq.lt
  have hx3 : QBox ((w3.setCell ⟨Q, 2, none⟩ (.int .i64 (lm : Int))).setCell ⟨GW, i, none⟩ (.int .i64 0)) Q cap t lm (.slice (some ⟨GW, 0, none⟩) n cw) := (hxq.setL lm).other (by omega) _
  have hW3 : IntsAt ((w3.setCell ⟨Q, 2, none⟩ (.int .i64 (lm : Int))).setCell ⟨GW, i, none⟩ (.int .i64 0)) GW n (fun j => if j = i then 0 else wt j) := (hW2.other (by omega) _).set i 0 hi2
  have hB4 := Below_set (Below_set hB3 (b := Q) (i := 2) (by omega) (.int .i64 (lm : Int))) (b := GW) (i := i) hwG (.int .i64 0)
  clear hxq hW2 hB3
  go_wp2_with fail
  obtain ⟨wm, hwm⟩ : ∃ wm, (w3.setCell ⟨Q, 2, none⟩ (.int .i64 (lm : Int))).setCell ⟨GW, i, none⟩ (.int .i64 0) = wm := ⟨_, rfl⟩
  have hszm : wm.heap.size = w3.heap.size := by rw [← hwm]; simp
  rw [hwm] at hx3 hW3 hor3 hB4 ⊢
  clear hwm z0 z1 z2 z3 z4 y1 y2
  rw [← hszm]
  obtain ⟨N, hN⟩ : ∃ N, wm.heap.size = N := ⟨_, rfl⟩
  have hNx := QBox.new wm cap t lm (.slice (some ⟨GW, 0, none⟩) n cw)
  rw [hN] at hNx ⊢
  have HWR := Lib.hid hor3
  have HN := Lib.hid hN
  have hGN : GW < N := by omega
  have hb0 := (Below.refl wm.heap.size wm).alloc (Nat.le_refl _) (.cells #[.int .i64 (cap : Int), .int .i64 (t : Int), .int .i64 (lm : Int), .slice (some ⟨GW, 0, none⟩) n cw] 35)
  have hW4 := hW3.below hb0
  clear hor3 hN hx3 hW3
  go_loopw [20] (fun z wr => ∃ (k X cx t' : Nat) (U : Nat → Nat), k ≤ m ∧ z = .int .i64 k ∧ t' < n ∧ QBox wr N cap t' lm (.slice (some ⟨X, 0, none⟩) n cx) ∧ IntsAt wr X n U ∧ (∀ j, j < n → U j ≤ lm) ∧ U i = 0 ∧ X ≠ N ∧ Below wm.heap.size wm wr) (fun z _ => m - (intOf z).toNat)
  case atStart =>
    refine ⟨0, GW, cw, t, _, by omega, rfl, ht, hNx, hW4, fun j hj => ?_, if_pos rfl, by omega, hb0⟩
    have h1 := hwt j hj
    have h2 := HLM.out
    show (if j = i then 0 else wt j) ≤ lm
    split <;> omega
  case round =>
    obtain ⟨k, X, cx, t', U, hk, rfl, ht', hx, hU, hUl, hUi, hXN, hb⟩ := hrel
    have HUL := Lib.hid hUl
    have HUI := Lib.hid hUi
    clear hNx hW4 hb0 hUl hUi
    have hBw := hB4.trans (hb.mono hB4.size)
    by_cases hlt : k < m
    · obtain ⟨O, rfl, hO1, hO2, hO3⟩ := (HWR.out.below hb).outer k hlt
      have hrow := ((HWR.out.below hb).rows k hlt).1
      have c1 := hO3 k hlt
      obtain ⟨bk, hbk⟩ : ∃ b, B k = b := ⟨_, rfl⟩
      obtain ⟨ck, hck⟩ : ∃ b, CC k = b := ⟨_, rfl⟩
      rw [hbk] at hrow c1
      rw [hck] at c1
      have j0 : (0 : Int) ≤ (k : Int) := by omega
      have j1 : (k : Int) < (m : Int) := by omega
      have HR := Lib.hid (range_ints (ar k) n)
      have hai := har k hlt i hi2
      obtain ⟨av, hav⟩ : ∃ av, ar k i = av := ⟨_, rfl⟩
      rw [hav] at hai
      obtain ⟨am, ham⟩ : ∃ am, min av fq = am := ⟨_, rfl⟩
      have x3 : (if (fq : Int) < (av : Int) then (fq : Int) else (av : Int)) = (am : Int) := by rw [← ham]; split <;> omega
      have x4 : (if fq < av then (fq : Int) else (av : Int)) = (am : Int) := by rw [← ham]; split <;> omega
      have ham2 : am ≤ fq ∧ am ≤ 50 := by omega
      have HAV := Lib.hid hav
      have HAM := Lib.hid ham2
      clear hav ham ham2
      clear hO3 hbk hck
      go_wp2_with (at_builtin; refine wpList_append_own (o := ⟨some 67, _, _, _, _, _⟩) _ rfl _ _ 22 rfl wr.heap.size 3 i0 (.int .i64 0) 1 8 Try.underlying22 hi0 hz0 hz1 hz2 rfl (by decide) _ 0 [] rfl (empty_own wr) ⟨bk, 0, none⟩ n ck ((List.range n).map fun i => Value.int .i64 ((ar k i : Nat) : Int)) rfl (by simp) (Hid.out (Lib.hid (hrow.alloc (.cells #[] 3)).news)) HR.out (by unfold maxLen; omega) (by omega) (by simp) ?_; intro v' w5 hown' hgrow _; obtain ⟨⟨F, fp, rfl, hF, hFl⟩, hb5⟩ := after_copy hn1 hown' hgrow; have hF5 := hF.cell i hi2; rw [HAV.out] at hF5; have hF6 := hF.free i; have hNF : N ≠ F := (by have := hx.lt; omega); have hx5 := (hx.below hb5).other (b := F) (i := i) hNF (.int .i64 (am : Int)); obtain ⟨z0, z1, z2, z3⟩ := hx5.cells; clear hown' hgrow)
      have hXl := hU.lt
      have hU5 := (hU.below hb5).other (b := F) (i := i) (by omega) (.int .i64 (am : Int))
      have hF7 := hF.set i am hi2
      have hb6 := hb.trans (hb5.mono hb.size)
      have hb7 := Below_set hb6 (b := F) (i := i) (by have := hb.size; omega) (.int .i64 (am : Int))
      have hsr := hb.size
      clear z0 z1 z2 z3 hF hF5 hF6 hU hb5 hb6 hx hrow c1 HR
      obtain ⟨w6, hw6⟩ : ∃ w6, w5.setCell ⟨F, i, none⟩ (.int .i64 (am : Int)) = w6 := ⟨_, rfl⟩
      rw [hw6] at hx5 hU5 hF7 hb7 ⊢
      clear hw6 x3 x4
      refine (round_any cap t' lm n cx fp _ _ U (fun j => if j = i then am else ar k j) w6 (by omega) (by omega) hn1 hn8 ht' HUL.out (fun j hj => by
        have h1 := har k hlt j hj
        have h2 := HAM.out.2
        show (if j = i then am else ar k j) ≤ 1000000
        split <;> omega) hU5.reads hF7.reads).mono ?_
      rintro e w7 ⟨G1, G2, G3, c1, c2, c3, sv, rfl, hdiv, i1, i2, i3, ⟨l1, l2, l3⟩, hb⟩
      have hcalm := calm_law (am := am) ht' hi2 hdiv HUI.out (if_pos rfl) (by rw [HFQ.out]; exact HAM.out.1) (by have := HAM.out.1; have := HLM.out; omega)
      have r1 := i1.cell i hi2
      have r2 := i2.cell i hi2
      have r3 := i3.cell i hi2
      rw [hcalm.2.1] at r1
      rw [hcalm.1] at r2
      rw [hcalm.2.2] at r3
      have hF8 := hF7.below hb
      have hx8 := hx5.below hb
      have hb8 := hb7.trans (hb.mono hb7.size)
      have hnew : ∀ j, j < n → (fun j => min (U j + (if j = i then am else ar k j)) lm - sv j) j ≤ lm := fun j _ => by show min (U j + (if j = i then am else ar k j)) lm - sv j ≤ lm; omega
      have HNEW := Lib.hid hnew
      have HC := Lib.hid hcalm.2.1
      obtain ⟨tn, htn⟩ : ∃ tn, (t' + 1) % n = tn := ⟨_, rfl⟩
      have htn2 : tn < n := by rw [← htn]; exact Nat.mod_lt _ (by omega)
      rw [htn]
      have hxn := hx8.alloc (.cells #[.int .i64 (cap : Int), .int .i64 (tn : Int), .int .i64 (lm : Int), .slice (some ⟨G1, 0, none⟩) n c1] 35)
      have hin := i1.alloc (.cells #[.int .i64 (cap : Int), .int .i64 (tn : Int), .int .i64 (lm : Int), .slice (some ⟨G1, 0, none⟩) n c1] 35)
      have r4 := (i2.alloc (.cells #[.int .i64 (cap : Int), .int .i64 (tn : Int), .int .i64 (lm : Int), .slice (some ⟨G1, 0, none⟩) n c1] 35)).cell i hi2
      have r5 := (i3.alloc (.cells #[.int .i64 (cap : Int), .int .i64 (tn : Int), .int .i64 (lm : Int), .slice (some ⟨G1, 0, none⟩) n c1] 35)).cell i hi2
      have r6 := (hF8.alloc (.cells #[.int .i64 (cap : Int), .int .i64 (tn : Int), .int .i64 (lm : Int), .slice (some ⟨G1, 0, none⟩) n c1] 35)).cell i hi2
      have r7 := hin.cell i hi2
      rw [hcalm.1] at r4
      rw [hcalm.2.2] at r5
      rw [if_pos rfl] at r6
      rw [hcalm.2.1] at r7
      have hnn := QBox.new w7 cap tn lm (.slice (some ⟨G1, 0, none⟩) n c1)
      have hb9 := hb8.alloc hb8.size (.cells #[.int .i64 (cap : Int), .int .i64 (tn : Int), .int .i64 (lm : Int), .slice (some ⟨G1, 0, none⟩) n c1] 35)
      have hl1 := i1.lt
      have hNl := hx8.lt
      have hN6 := hx5.lt
      clear hx5 hU5 hF7 hb7 hdiv i1 i2 i3 hb hcalm r1 r2 r3 hF8 hx8 hb8 hnew htn
      go_wp2_with fail
      obtain ⟨M, hM⟩ : ∃ M, w7.heap.size = M := ⟨_, rfl⟩
      obtain ⟨w8, hw8⟩ : ∃ w8, w7.alloc (.cells #[.int .i64 (cap : Int), .int .i64 (tn : Int), .int .i64 (lm : Int), .slice (some ⟨G1, 0, none⟩) n c1] 35) = w8 := ⟨_, rfl⟩
      rw [hM] at hnn hl1 hNl ⊢
      rw [hw8] at hxn hin r4 r5 r6 r7 hnn hb9 ⊢
      have r5' : w8.cell? ⟨G3, i, none⟩ = some (.int .i64 0) := r5
      have r7' : w8.cell? ⟨G1, i, none⟩ = some (.int .i64 0) := r7
      obtain ⟨v0, v1, v2, v3⟩ := hnn.cells
      clear hM hw8 r5 r7
      go_quiet (fail)
      have hxq := hxn
      have hnq := hnn
      have hiq := hin
      clear hxn hnn hin v0 v1 v2 v3 r4 r5' r6 r7'
      obtain ⟨w9, hw9⟩ : ∃ w9, w8.drewN nq = w9 := ⟨_, rfl⟩
      have hx9 : QBox w9 N cap t' lm (.slice (some ⟨X, 0, none⟩) n cx) := by rw [← hw9]; exact hxq
      have hn9 : QBox w9 M cap tn lm (.slice (some ⟨G1, 0, none⟩) n c1) := by rw [← hw9]; exact hnq
      have hi9 : IntsAt w9 G1 n (fun j => min (U j + (if j = i then am else ar k j)) lm - sv j) := by rw [← hw9]; exact hiq.drewN nq
      have hb10 : Below wm.heap.size wm w9 := by rw [← hw9]; exact Below_drewN hb9 nq
      obtain ⟨v0, v1, v2, v3⟩ := hn9.cells
      have f0 := hx9.free 0
      have f1 := hx9.free 1
      have f2 := hx9.free 2
      have f3 := hx9.free 3
      obtain ⟨g0, g1, g2, g3⟩ := hx9.cells
      rw [hw9]
      clear hw9 hxq hnq hiq hb9
      go_wp2_with fail
      have hNw : wm.heap.size ≤ N := by have := HN.out; omega
      exact ⟨⟨k + 1, G1, c1, tn, _, by omega, by go_num, htn2, hx9.setAll cap tn lm _, (((hi9.other (by omega) _).other (by omega) _).other (by omega) _).other (by omega) _, HNEW.out, by have := HC.out; simpa using this, by omega, Below_set (Below_set (Below_set (Below_set hb10 hNw _) hNw _) hNw _) hNw _⟩, by simp [intOf]; omega⟩
    · obtain rfl : m = k := by omega
      go_wp2_with fail
      go_ret
      exact ⟨rfl, hBw⟩
end Go.Proofs.Ytdodhfodojjfeaa
