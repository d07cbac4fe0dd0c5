/- The law of chapter 6: SeedListsMatchReference returns true. Conditions: a list that can be read; the table holds its words. -/
import Derived.Test.YtfdmmobadmmhdaaDoorRefShuffle
import Derived.Test.YtfdmmobadmmhdaaDoorLaw06Match
import Derived.Test.YtfdmmobadmmhdaaDoorOpenCap
namespace Go.Proofs.YtfdmmobadmmhdaaDoor
open Go Go.RowKit
theorem cut_len (n : Nat) (K : Int) (k : Nat) (hk : (k : Int) = K) : ∃ m : Nat, m ≤ n ∧ m ≤ k ∧ (if K < (n : Int) then K else (n : Int)) = (m : Int) ∧ (if k < n then K else (n : Int)) = (m : Int) := by
  subst hk
  by_cases h : k < n
  · exact ⟨k, by omega, by omega, by rw [if_pos (by omega)], by rw [if_pos h]⟩
  · exact ⟨n, by omega, by omega, by rw [if_neg (by omega)], by rw [if_neg h]⟩
def twoN (n p : Int) (k : Nat) : Int := if k = 0 then n else p
set_option maxHeartbeats 8000000 in
set_option maxRecDepth 100000 in
theorem lists_any (s : ByteArray) (n k d : Int) (wp : Option Addr) (wn wc : Nat) (wf : Nat → Int) (w : World) (hn : -9223372036854775808 ≤ n ∧ n ≤ 9223372036854775807) (hr : IntsIn w wp wn wf) (hwc : wn ≤ wc) (hT : RoundOk w) :
    Calls Tryd.prog 4 #[.string s, .int .i64 n, .int .i64 k, .slice wp wn wc, .int .i64 d] w fun e w' => e = .returned (.bool true) ∧ Below w.heap.size w w' := by
  have HT := Lib.hid hT
  have HR := Lib.hid hr.reads
  have hsm := hr.small
  have PK := Lib.hid (fun W => pick_any n 61 W hn (by decide) (by decide))
  have SH := Lib.hid (short_any s)
  have NM := Lib.hid (name_any s)
  have HF0 : Hid (twoF s 0 = shortS s) := Lib.hid rfl
  have HF1 : Hid (twoF s 1 = nameS s) := Lib.hid rfl
  obtain ⟨x0, hx0⟩ : ∃ x, shortS s = x := ⟨_, rfl⟩
  obtain ⟨x1, hx1⟩ : ∃ x, nameS s = x := ⟨_, rfl⟩
  rw [hx0] at SH HF0
  rw [hx1] at NM HF1
  obtain ⟨pn, hpn⟩ : ∃ x, pickF n 61 = x := ⟨_, rfl⟩
  rw [hpn] at PK
  clear hT hx0 hx1 hr hpn
  go_enter Tryd.func4, Tryd.ntmps4
  go_wp2_with fail
  refine (sane_any _ HT.out).mono ?_
  rintro e w1 ⟨rfl, hb1⟩
  have HB1 := Lib.hid hb1
  clear hb1
  go_wp2_with fail
  refine (PK.out _).mono ?_
  rintro e w' ⟨rfl, rfl⟩
  have hal : Below w1.heap.size w1 (w1.alloc (.cells #[.int .i64 n, .int .i64 pn] 3)) := (Below.refl w1.heap.size w1).alloc (Nat.le_refl _) _
  have hc0 : (w1.alloc (.cells #[.int .i64 n, .int .i64 pn] 3)).cell? ⟨w1.heap.size, 0, none⟩ = some (.int .i64 n) := by simp
  have hc1 : (w1.alloc (.cells #[.int .i64 n, .int .i64 pn] 3)).cell? ⟨w1.heap.size, 1, none⟩ = some (.int .i64 pn) := by simp
  go_wp2_with fail
  obtain ⟨w3, hw3⟩ : ∃ w3, w1.alloc (.cells #[.int .i64 n, .int .i64 pn] 3) = w3 := ⟨_, rfl⟩
  rw [hw3] at hal hc0 hc1 ⊢
  obtain ⟨G, hG⟩ : ∃ G, w1.heap.size = G := ⟨_, rfl⟩
  rw [hG] at hc0 hc1 ⊢
  have HC : Hid (∀ W, Below w3.heap.size w3 W → ∀ k, k < 2 → W.cell? ⟨G, k, none⟩ = some (.int .i64 (twoN n pn k))) := Lib.hid (fun W h k hk => by
    rcases (show k = 0 ∨ k = 1 by omega) with rfl | rfl
    · exact (h.cell (p := ⟨G, 0, none⟩) (cell_lt' hc0)).trans hc0
    · exact (h.cell (p := ⟨G, 1, none⟩) (cell_lt' hc1)).trans hc1)
  have HB3 := Lib.hid (HB1.out.trans (hal.mono HB1.out.size))
  clear hw3 hG hal hc0 hc1 HB1 PK
  go_loopw [35] (fun v wr => ∃ k : Nat, k ≤ 2 ∧ v = .int .i64 (k : Nat) ∧ Below w3.heap.size w3 wr) (fun v _ => 2 - (intZ v).toNat)
  case atStart => exact ⟨0, by omega, rfl, Below.refl _ _⟩
  case round =>
    obtain ⟨u, hu, rfl, hb⟩ := hrel
    by_cases hlt : u < 2
    · have l0 : (0 : Int) ≤ (u : Int) := by omega
      have l1 : (u : Int) < 2 := by omega
      have c0 := HC.out wr hb u hlt
      have HBW := Lib.hid hb
      obtain ⟨m, hm⟩ : ∃ x, twoN n pn u = x := ⟨_, rfl⟩
      rw [hm] at c0
      clear hb hm
      obtain ⟨wo, rfl⟩ : ∃ W : World, W = wr := ⟨_, rfl⟩
      by_cases hskip : 60 < m ∧ m ≤ 1000
      · obtain ⟨s1, s2⟩ := hskip
        go_wp2_with fail
        exact ⟨⟨u + 1, by omega, by go_num, HBW.out⟩, by simp [intZ]; omega⟩
      · have hgo : ¬ 60 < m ∨ (60 < m ∧ ¬ m ≤ 1000) := by omega
        clear hskip
        have hal : Below wo.heap.size wo (wo.alloc (.cells #[.string x0, .string x1] 9)) := (Below.refl wo.heap.size wo).alloc (Nat.le_refl _) _
        have hc0 : (wo.alloc (.cells #[.string x0, .string x1] 9)).cell? ⟨wo.heap.size, 0, none⟩ = some (.string x0) := by simp
        have hc1 : (wo.alloc (.cells #[.string x0, .string x1] 9)).cell? ⟨wo.heap.size, 1, none⟩ = some (.string x1) := by simp
        rcases hgo with g1 | ⟨g1, g2⟩
        all_goals
          go_wp2_with fail
          refine (SH.out _).mono ?_
          rintro e w' ⟨rfl, rfl⟩
          go_wp2_with fail
          refine (NM.out _).mono ?_
          rintro e w' ⟨rfl, rfl⟩
          go_wp2_with fail
          obtain ⟨w4, hw4⟩ : ∃ w4, wo.alloc (.cells #[.string x0, .string x1] 9) = w4 := ⟨_, rfl⟩
          rw [hw4] at hal hc0 hc1 ⊢
          obtain ⟨G2, hG2⟩ : ∃ G, wo.heap.size = G := ⟨_, rfl⟩
          rw [hG2] at hc0 hc1 ⊢
          have HC2 : Hid (∀ W, Below w4.heap.size w4 W → ∀ k, k < 2 → W.cell? ⟨G2, k, none⟩ = some (.string (twoF s k))) := Lib.hid (fun W h k hk => by
            rcases (show k = 0 ∨ k = 1 by omega) with rfl | rfl
            · rw [HF0.out]; exact (h.cell (p := ⟨G2, 0, none⟩) (cell_lt' hc0)).trans hc0
            · rw [HF1.out]; exact (h.cell (p := ⟨G2, 1, none⟩) (cell_lt' hc1)).trans hc1)
          have HB4 := Lib.hid (HBW.out.trans (hal.mono HBW.out.size))
          clear hw4 hG2 hal hc0 hc1 c0
          go_loopw [51] (fun v wr => ∃ k : Nat, k ≤ 2 ∧ v = .int .i64 (k : Nat) ∧ Below w4.heap.size w4 wr) (fun v _ => 2 - (intZ v).toNat)
          case atStart => exact ⟨0, by omega, rfl, Below.refl _ _⟩
          case round =>
            obtain ⟨v, hv, rfl, hb⟩ := hrel
            by_cases hlt2 : v < 2
            · have l2 : (0 : Int) ≤ (v : Int) := by omega
              have l3 : (v : Int) < 2 := by omega
              have c1 := HC2.out wr hb v hlt2
              have HBV := Lib.hid hb
              obtain ⟨x, hx⟩ : ∃ x, twoF s v = x := ⟨_, rfl⟩
              rw [hx] at c1
              have HWT : Hid (∀ W, Below w4.heap.size w4 W → RoundOk W) := Lib.hid (fun W h => HT.out.below (HB3.out.trans ((HB4.out.trans (h.mono HB4.out.size)).mono HB3.out.size)))
              have HA := Lib.hid (fun W => shuffle_l x m W)
              have HB := Lib.hid (fun W => ref_shuffle_any x m W)
              have HC3 := Lib.hid (fun W => sample_l x m k W)
              have HD := Lib.hid (fun W => ref_sample_any x m k W)
              generalize shufR x m = R1 at HA HB
              generalize sampR x m k = R2 at HC3 HD
              generalize m.toNat = L1 at HA HB
              generalize k.toNat = L2 at HC3 HD
              clear hb hx
              go_wp2_with fail
              refine (HA.out wr (HWT.out wr HBV.out)).mono ?_
              rintro e w5 ⟨⟨p1, m1, d1, f1, e1, rfl, a1, r1, _, q1⟩, hb5⟩
              have HB5 := Lib.hid (HBV.out.trans (hb5.mono HBV.out.size))
              have HR1 := Lib.hid r1
              have HS1 := Lib.hid a1
              clear hb5 r1 a1
              go_wp2_with fail
              refine (HB.out w5).mono ?_
              rintro e w6 ⟨⟨p2, m2, d2, f2, e2, rfl, a2, r2, _, q2⟩, hb6⟩
              obtain ⟨rfl, rfl, hf12⟩ := HS1.out.unique a2
              have HB6 := Lib.hid (HB5.out.trans (hb6.mono HB5.out.size))
              have HR1' := Lib.hid (HR1.out.below hb6)
              have HR2 := Lib.hid r2
              have HE1 := Lib.hid hf12
              clear hb6 r2 a2 hf12 HS1 HR1
              go_wp2_with fail
              refine (HC3.out w6 (HWT.out w6 HB6.out)).mono ?_
              rintro e w7 ⟨⟨p3, m3, d3, f3, e3, rfl, a3, r3, _, q3⟩, hb7⟩
              have HB7 := Lib.hid (HB6.out.trans (hb7.mono HB6.out.size))
              have HR1 := Lib.hid (HR1'.out.below hb7)
              have HR2' := Lib.hid (HR2.out.below hb7)
              have HR3 := Lib.hid r3
              have HS3 := Lib.hid a3
              clear hb7 r3 a3 HR1' HR2
              go_wp2_with fail
              refine (HD.out w7).mono ?_
              rintro e w8 ⟨⟨p4, m4, d4, f4, e4, rfl, a4, r4, _, q4⟩, hb8⟩
              obtain ⟨rfl, rfl, hf34⟩ := HS3.out.unique a4
              have HB8 := Lib.hid (HB7.out.trans (hb8.mono HB7.out.size))
              have HR3' := Lib.hid (HR3.out.below hb8)
              have HM1 := Lib.hid (same06_any p1 p2 m1 m1 d1 d2 f1 f2 w8 (by omega) (by omega) (HR1.out.below hb8) (HR2'.out.below hb8))
              have HR4 := Lib.hid r4
              have HE3 := Lib.hid hf34
              clear hb8 r4 a4 hf34 HS3 HR1 HR2' HR3
              go_wp2_with fail
              refine HM1.out.mono ?_
              rintro e w9 ⟨⟨b1, rfl, hb1⟩, hb9⟩
              obtain rfl : b1 = true := hb1.2 ⟨by first | rfl | trivial, HE1.out⟩
              have HB9 := Lib.hid (HB8.out.trans (hb9.mono HB8.out.size))
              have HM2 := Lib.hid (same06_any p3 p4 m3 m3 d3 d4 f3 f4 w9 (by omega) (by omega) (HR3'.out.below hb9) (HR4.out.below hb9))
              clear hb9 hb1 HM1
              go_wp2_with fail
              refine HM2.out.mono ?_
              rintro e wa ⟨⟨b2, rfl, hb2⟩, hba⟩
              obtain rfl : b2 = true := hb2.2 ⟨by first | rfl | trivial, HE3.out⟩
              have HBa := Lib.hid (HB9.out.trans (hba.mono HB9.out.size))
              clear hba hb2
              go_wp2_with fail
              exact ⟨⟨v + 1, by omega, by go_num, HBa.out⟩, by simp [intZ]; omega⟩
            · obtain rfl : v = 2 := by omega
              have HBV := Lib.hid (HB4.out.trans (hb.mono HB4.out.size))
              clear hb
              go_wp2_with fail
              exact ⟨⟨u + 1, by omega, by go_num, HBV.out⟩, by simp [intZ]; omega⟩
    · obtain rfl : u = 2 := by omega
      obtain ⟨m, hm1, hm2, hm3, hm4⟩ := cut_len wn 210 210 rfl
      have HBF := Lib.hid (HB3.out.trans (hb.mono HB3.out.size))
      have hrd : ReadsI w wp m wf := fun i hi => by
        obtain ⟨b, o, hp, hc⟩ := HR.out i (by omega)
        exact ⟨b, o, hp, fun j hj => hc j (by omega)⟩
      have z1 : (0 : Int) ≤ (m : Int) := by omega
      have z2 : (m : Int) ≤ (wc : Int) := by omega
      have HCA := Lib.hid (fun c W hr => choose_any wp m c wf d W (by omega) hr)
      have HCB := Lib.hid (fun c W hr => ref_choose_any wp m c wf d W (by omega) hr)
      have HRD := Lib.hid (hrd.below HBF.out)
      generalize choV wf m d = a at HCA HCB
      generalize choE wf m d = b at HCA HCB
      clear hb hrd
      go_wp2_with fail
      refine (HCA.out wc wr HRD.out).mono ?_
      rintro e w4 ⟨rfl, hb4⟩
      have HB4 := Lib.hid (HBF.out.trans (hb4.mono HBF.out.size))
      have HRD4 := Lib.hid (HRD.out.below hb4)
      clear hb4
      go_wp2_with fail
      refine (HCB.out wc w4 HRD4.out).mono ?_
      rintro e w5 ⟨rfl, rfl⟩
      go_wp2_with fail
      go_ret
      exact ⟨rfl, HB4.out⟩
end Go.Proofs.YtfdmmobadmmhdaaDoor
