/- BookHeads: the law's body returns true. Conditions: deeds that can be read; numbers of 64 bits; digest's words lie in memory. -/
import Derived.Test.YtcfplkbbgjiocaaDoorBookSane
import Derived.Test.YtcfplkbbgjiocaaDoorHead27
import Derived.Test.YtcfplkbbgjiocaaDoorHeadsLaw
import Derived.StillTailTactics
namespace Go.Proofs.YtcfplkbbgjiocaaDoor
open Go Go.RowKit Go.Shelf
theorem bhV_yes {t c : Int} {n : Nat} {g : Nat → Pst} (h : BookOk t c n g) : bhV t c n g = .tuple #[.string (headF (bookF g) n), .int .i64 0] := by unfold bhV; rw [if_pos h]
theorem encV_yes {p : Pst} (h : EncOk p) : encV p = .tuple #[.string (encP p), .int .i64 0] := by unfold encV; rw [if_pos h]
set_option maxRecDepth 100000 in
set_option maxHeartbeats 8000000 in
theorem bookHeads_any (x : Int) (q1 : Option Addr) (m1 c1 : Nat) (h1 : Nat → Nat → Int) (q2 : Option Addr) (m2 c2 : Nat) (h2 : Nat → Nat → Int) (w : World) (hin1 : ArrsIn w q1 m1 h1) (hin2 : ArrsIn w q2 m2 h2)
    (bx : -9223372036854775808 ≤ x ∧ x ≤ 9223372036854775807) (hT : RoundOk w) :
    Calls Tryd.prog 4 #[.int .i64 x, .slice q1 m1 c1, .slice q2 m2 c2] w fun e w' => e = .returned (.bool true) ∧ Below w.heap.size w w' := by
  obtain ⟨i0, hi0, hz0, hz1, hz2⟩ := infoStr
  have HIN1 := Lib.hid hin1
  have HIN2 := Lib.hid hin2
  have BX := Lib.hid bx
  have HT := Lib.hid hT
  clear hin1 hin2 bx hT
  go_enter Tryd.func4, Tryd.ntmps4
  go_wp2_with fail
  refine (sane_any _).mono ?_
  rintro e w1 ⟨rfl, hb1⟩
  have HB1 := Lib.hid hb1
  clear hb1
  go_wp2_with fail
  refine (Made_cap x q1 m1 c1 h1 w1 (HIN1.out.below HB1.out) BX.out).mono ?_
  rintro e w2 ⟨tA, nA, cA, clA, qA, gA, rfl, hokA, hnA, -, hrdA, -, hcA, hb2⟩
  have hal3 : Below w2.heap.size w2 (w2.alloc (.cells #[.int .i64 (tA : Int), .slice qA nA cA, .int .i64 clA] 24)) := (Below.refl _ _).alloc (Nat.le_refl _) _
  have hbA := BkBox.new w2 (tA : Int) clA (.slice qA nA cA)
  have HOKA := Lib.hid hokA
  clear hokA
  go_upto_region 3 with fail
  obtain ⟨w3, hw3⟩ : ∃ w3, w2.alloc (.cells #[.int .i64 (tA : Int), .slice qA nA cA, .int .i64 clA] 24) = w3 := ⟨_, rfl⟩
  rw [hw3] at hal3 hbA ⊢
  have hb3 := hb2.trans (hal3.mono hb2.size)
  have HRD3 := Lib.hid (hrdA.below hal3)
  have HB3 := Lib.hid (HB1.out.trans (hb3.mono HB1.out.size))
  obtain ⟨DA, hDA⟩ : ∃ DA, w2.heap.size = DA := ⟨_, rfl⟩
  rw [hDA] at hbA ⊢
  have HBA3 := Lib.hid hbA
  clear hw3 hal3 hbA hb2 hb3 hrdA hDA
  go_wp2_with fail
  refine (Made_cap x q2 m2 c2 h2 w3 (HIN2.out.below HB3.out) BX.out).mono ?_
  rintro e w4 ⟨tB, nB, cB, clB, qB, gB, rfl, hokB, hnB, -, hrdB, -, hcB, hb4⟩
  have hal5 : Below w4.heap.size w4 (w4.alloc (.cells #[.int .i64 (tB : Int), .slice qB nB cB, .int .i64 clB] 24)) := (Below.refl _ _).alloc (Nat.le_refl _) _
  have hbB := BkBox.new w4 (tB : Int) clB (.slice qB nB cB)
  have HOKB := Lib.hid hokB
  clear hokB
  go_upto_region 4 with fail
  obtain ⟨w5, hw5⟩ : ∃ w5, w4.alloc (.cells #[.int .i64 (tB : Int), .slice qB nB cB, .int .i64 clB] 24) = w5 := ⟨_, rfl⟩
  rw [hw5] at hal5 hbB ⊢
  have hb5 := hb4.trans (hal5.mono hb4.size)
  have HB5 := Lib.hid (HB3.out.trans (hb5.mono HB3.out.size))
  have HRA5 := Lib.hid (HRD3.out.below hb5)
  have HRB5 := Lib.hid (hrdB.below hal5)
  have HBA5 := Lib.hid (HBA3.out.below hb5)
  obtain ⟨DB, hDB⟩ : ∃ DB, w4.heap.size = DB := ⟨_, rfl⟩
  rw [hDB] at hbB ⊢
  have HBB5 := Lib.hid hbB
  have HT5 := Lib.hid (HT.out.below HB5.out)
  have HF : Hid (∀ W, Below w5.heap.size w5 W → (W.cell? ⟨DA, 0, none⟩ = some (.int .i64 (tA : Int)) ∧ W.cell? ⟨DA, 1, none⟩ = some (.slice qA nA cA) ∧ W.cell? ⟨DA, 2, none⟩ = some (.int .i64 clA)) ∧ (W.cell? ⟨DB, 0, none⟩ = some (.int .i64 (tB : Int)) ∧ W.cell? ⟨DB, 1, none⟩ = some (.slice qB nB cB) ∧ W.cell? ⟨DB, 2, none⟩ = some (.int .i64 clB)) ∧ ReadsP W qA nA gA ∧ ReadsP W qB nB gB ∧ RoundOk W) :=
    Lib.hid (fun W hb => ⟨(HBA5.out.below hb).cells, (HBB5.out.below hb).cells, HRA5.out.below hb, HRB5.out.below hb, HT5.out.below hb⟩)
  have HH1 := Lib.hid (fun W (hb : Below w5.heap.size w5 W) => Head27_any (tA : Int) clA qA nA cA gA W (by unfold maxLen; omega) (HF.out W hb).2.2.1 (HF.out W hb).2.2.2.2)
  have HH2 := Lib.hid (fun W (hb : Below w5.heap.size w5 W) => Head27_any (tB : Int) clB qB nB cB gB W (by unfold maxLen; omega) (HF.out W hb).2.2.2.1 (HF.out W hb).2.2.2.2)
  simp only [bhV_yes HOKA.out] at HH1
  simp only [bhV_yes HOKB.out] at HH2
  have HC1 := Lib.hid (fun W (hb : Below w5.heap.size w5 W) => Chained_any qA nA cA gA W (by omega) (HF.out W hb).2.2.1 (book_enc HOKA.out))
  have HC2 := Lib.hid (fun W (hb : Below w5.heap.size w5 W) => Chained_any qB nB cB gB W (by omega) (HF.out W hb).2.2.2.1 (book_enc HOKB.out))
  have HSP := Lib.hid (fun W (hb : Below w5.heap.size w5 W) => sameP_any qA qB nA nB cA cB gA gB W (by omega) (HF.out W hb).2.2.1 (HF.out W hb).2.2.2.1)
  have HV1 : Hid (headF (bookF gA) nA = headF (bookF gB) nB → samePB nA nB gA gB = true ∨ collAB nA nB (chI (bookF gA)) (chI (bookF gB)) = true ∨ ∃ j, j < nA + nB ∧ dS (catF nA (chI (bookF gA)) (chI (bookF gB)) j) = zero32) := Lib.hid (heads_law (book_enc HOKA.out) (book_enc HOKB.out))
  have HV2 : Hid (samePB nA nB gA gB = true → headF (bookF gA) nA = headF (bookF gB) nB) := Lib.hid heads_same
  have HCO := Lib.hid (fun (p q : Option Addr) (cp cq : Nat) (W : World) => Collided_any p q nA nB cp cq (chI (bookF gA)) (chI (bookF gB)) W (by omega) (by omega) (fun i => Nat.le_trans (chI_size i (bookF_size gA i)) (by decide)) (fun i => Nat.le_trans (chI_size i (bookF_size gB i)) (by decide)))
  have hxs : (headF (bookF gA) nA).size = 32 := headF_size _ _
  have HSS := Lib.hid (fun i W => ref_sum_s (catF nA (chI (bookF gA)) (chI (bookF gB)) i) W (catF_size (fun i => Nat.le_trans (chI_size i (bookF_size gA i)) (by decide)) (fun i => Nat.le_trans (chI_size i (bookF_size gB i)) (by decide)) i))
  have HZ0 := Lib.hid (fun W => ref_Head02_any none 0 0 (bookF gA) W (by omega) (bookF_size gA) (fun i h => by omega))
  have HZE : Hid (nA = 0 → headF (bookF gA) nA = zero32) := Lib.hid (fun h => by rw [h]; rfl)
  have HPRE := Lib.hid (fun k (hk : k ≤ nA) c W (hr : ReadsP W qA k gA) (hT : RoundOk W) => Head27_any (tA : Int) 0 qA k c gA W (by unfold maxLen; omega) hr hT)
  have HPK : Hid (∀ k, k ≤ nA → bhV (tA : Int) 0 k gA = .tuple #[.string (headF (bookF gA) k), .int .i64 0]) := Lib.hid (fun k hk => bhV_yes (prefix_ok HOKA.out hk))
  have HEK : Hid (∀ k, k < nA → encV (gA k) = .tuple #[.string (bookF gA k), .int .i64 0]) := Lib.hid (fun k hk => encV_yes (book_enc HOKA.out k hk))
  have HST : Hid (∀ k, nA = k + 1 → headF (bookF gA) nA = chainS (headF (bookF gA) k) (bookF gA k)) := Lib.hid (fun k h => by rw [h]; rfl)
  have HFS := Lib.hid (bookF_size gA)
  have hz32 : headF (bookF gA) 0 = zero32 := rfl
  simp only [hz32] at HZ0
  clear hz32
  obtain ⟨X, hX⟩ : ∃ X, headF (bookF gA) nA = X := ⟨_, rfl⟩
  obtain ⟨Y, hY⟩ : ∃ Y, headF (bookF gB) nB = Y := ⟨_, rfl⟩
  obtain ⟨Z, hZ⟩ : ∃ Z, zero32 = Z := ⟨_, rfl⟩
  obtain ⟨sB, hs⟩ : ∃ s, samePB nA nB gA gB = s := ⟨_, rfl⟩
  obtain ⟨kB, hk⟩ : ∃ s, collAB nA nB (chI (bookF gA)) (chI (bookF gB)) = s := ⟨_, rfl⟩
  obtain ⟨SS, hSS⟩ : ∃ S, catF nA (chI (bookF gA)) (chI (bookF gB)) = S := ⟨_, rfl⟩
  obtain ⟨D, hD⟩ : ∃ D : Nat → ByteArray, ∀ i, dS (SS i) = D i := ⟨_, fun _ => rfl⟩
  rw [hX] at hxs
  simp only [hX] at HH1 HZE HST
  simp only [hY] at HH2
  rw [hX, hY] at HV1 HV2
  simp only [hs] at HSP HV2
  simp only [hs, hk, hSS, hD, hZ] at HV1
  simp only [hk] at HCO
  simp only [hSS, hD] at HSS
  simp only [hZ] at HZ0 HZE
  have HSSE := Lib.hid hSS
  obtain ⟨FA, hFA⟩ : ∃ F, bookF gA = F := ⟨_, rfl⟩
  obtain ⟨FB, hFB⟩ : ∃ F, bookF gB = F := ⟨_, rfl⟩
  simp only [hFA] at HC1 HCO HSSE HPK HEK HST HFS
  simp only [hFB] at HC2 HCO HSSE
  have HSA := Lib.hid hxs
  have x32 : ((X.size : Int) != 32) = false := by rw [hxs]; rfl
  have x33 : (X.size : Int) = 32 := by rw [hxs]; rfl
  obtain ⟨a0, a1, a2⟩ := (HF.out w5 (Below.refl _ _)).1
  have HN5 : Hid (w5 = w5) := Lib.hid rfl
  clear hw5 hal5 hbB hb4 hb5 hrdB hDB HBA5 HBB5 HRA5 HRB5 HT5 HBA3 HRD3 HIN1 HIN2 BX HB1 HB3 HT hX hY hZ hs hk hSS hD hFA hFB
  go_wp2_with fail
  refine (HH1.out w5 (Below.refl _ _)).mono ?_
  rintro e w6 ⟨rfl, hb6⟩
  have HB6 := Lib.hid hb6
  clear hb6 a0 a1 a2
  obtain ⟨a0, a1, a2⟩ := (HF.out w6 HB6.out).2.1
  go_wp2_with fail
  refine (HH2.out w6 HB6.out).mono ?_
  rintro e w7 ⟨rfl, hb7⟩
  have HB7 := Lib.hid (HB6.out.trans (hb7.mono HB6.out.size))
  clear hb7 a0 a1 a2
  obtain ⟨a0, a1, a2⟩ := (HF.out w7 HB7.out).1
  go_wp2_with fail
  refine (HC1.out w7 HB7.out).mono ?_
  rintro e w8 ⟨⟨p1, k1, rfl, hk1, hl1⟩, hb8⟩
  have HB8 := Lib.hid (HB7.out.trans (hb8.mono HB7.out.size))
  have HL1 := Lib.hid hl1
  clear hb8 hl1 a0 a1 a2
  obtain ⟨a0, a1, a2⟩ := (HF.out w8 HB8.out).2.1
  go_wp2_with fail
  refine (HC2.out w8 HB8.out).mono ?_
  rintro e w9 ⟨⟨p2, k2, rfl, hk2, hl2⟩, hb9⟩
  have HB9 := Lib.hid (HB8.out.trans (hb9.mono HB8.out.size))
  have HL1' := Lib.hid (HL1.out.below hb9)
  have HL2 := Lib.hid hl2
  clear hb9 hl2 a0 a1 a2 HL1
  go_wp2_with fail
  refine (HZ0.out w9).mono ?_
  rintro e w10 ⟨rfl, hb10⟩
  have HB10 := Lib.hid (HB9.out.trans (hb10.mono HB9.out.size))
  have HLA := Lib.hid (HL1'.out.below hb10)
  have HLB := Lib.hid (HL2.out.below hb10)
  clear hb10 HL1' HL2 HH1 HH2 HC1 HC2 HZ0
  have P1 : Hid (Below w10.heap.size w10 (w10.alloc (.cells #[] 9))) := Lib.hid ((Below.refl _ _).alloc (Nat.le_refl _) _)
  go_wp2_with (at_builtin; first
    | (refine wpList_append_reads (by rfl) (.tmp 60) (.tmp 61) 36 (by rfl) w10.heap.size 9 i0 (.string ⟨#[]⟩) Tryd.underlying36 hi0 hz0 hz1 hz2 rfl (.slice (some ⟨w10.heap.size, 0, none⟩) 0 0) 0 [] (by rfl) (World.ownsRow_lit w10 #[] 0 (Nat.le_refl _) (by decide) rfl) p1 nA k1 (chI FA) (by rfl) (HLA.out.below P1.out) (by decide) (by omega) P1.out.size ?_; intro v5 wx hown5 hgrow5; have hB5 := P1.out.grown hgrow5 (by first | omega | (simp <;> omega)) (fun q ej => by cases ej; first | exact Nat.le_refl _ | (simp <;> omega)); have hw5 := hB5.size)
    | (refine wpList_append_reads (by rfl) (.tmp 62) (.tmp 63) 36 (by rfl) w10.heap.size 9 i0 (.string ⟨#[]⟩) Tryd.underlying36 hi0 hz0 hz1 hz2 rfl v5 (0 + nA) _ (by rfl) hown5 p2 nB k2 (chI FB) (by rfl) (HLB.out.below hB5) (by omega) (by omega) hw5 ?_; intro v6 wy hown6 hgrow6; have hB6y := hB5.grown hgrow6 (by omega) (fun q ej => (hown5.lt q ej).1); obtain ⟨pr, cr, rfl, hrd6⟩ := cat_reads hown6))
  rw [HSSE.out] at hrd6
  have HB11 := Lib.hid (HB10.out.trans (hB6y.mono HB10.out.size))
  have HLA2 := Lib.hid (HLA.out.below hB6y)
  have HLB2 := Lib.hid (HLB.out.below hB6y)
  have HRS := Lib.hid hrd6
  clear hown5 hgrow5 hB5 hw5 hown6 hgrow6 hB6y hrd6 P1 HLA HLB HSSE
  go_loopw [17, 66] (fun v17 v66 wr => ∃ (k : Nat) (r : Bool), v17 = .bool r ∧ v66 = .int .i64 (k : Nat) ∧ k ≤ nA + nB ∧ Hid (∀ j, j < k → D j = Z → r = true) ∧ Below wy.heap.size wy wr) (fun _ v66 _ => (nA + nB) - (intOf v66).toNat)
  case atStart => exact ⟨0, false, rfl, rfl, by omega, Lib.hid (fun j h => by omega), Below.refl _ _⟩
  case round =>
    obtain ⟨k, r, rfl, rfl, hk, hall, hB⟩ := hrel
    by_cases hlt : k < nA + nB
    · obtain ⟨b, o, rfl, hc⟩ := HRS.out k hlt
      have cw := (hB.cell (p := ⟨b, o + k, none⟩) (cell_lt' (hc k hlt))).trans (hc k hlt)
      have v0 : (0 : Int) ≤ (k : Int) := by omega
      have v1 : (k : Int) < ((nA + nB : Nat) : Int) := by omega
      have v2 : (k : Int) < (nA : Int) + (nB : Int) := by omega
      have HN := Lib.hid (HSS.out k wr)
      have HBr := Lib.hid hB
      obtain ⟨s, hs⟩ : ∃ y, SS k = y := ⟨_, rfl⟩
      obtain ⟨d, hd⟩ : ∃ y, D k = y := ⟨_, rfl⟩
      rw [hs] at cw HN
      rw [hd] at HN
      have HD := Lib.hid hd
      clear hc hs hd hB
      cases r with
      | true =>
        go_wp2_with fail
        exact ⟨⟨k + 1, true, rfl, by go_num, by omega, Lib.hid (fun _ _ _ => rfl), HBr.out⟩, by simp [intOf]; omega⟩
      | false =>
        by_cases ed : d = Z
        · subst ed
          go_wp2_with fail
          refine HN.out.mono ?_
          rintro e wn ⟨rfl, hbn⟩
          have HBn := Lib.hid (HBr.out.trans (hbn.mono HBr.out.size))
          clear hbn cw
          go_wp2_with fail
          exact ⟨⟨k + 1, true, rfl, by go_num, by omega, Lib.hid (fun _ _ _ => rfl), HBn.out⟩, by simp [intOf]; omega⟩
        · have f2 : (d.toList == Z.toList) = false := by rw [beq_dec]; exact decide_eq_false ed
          have HED := Lib.hid ed
          clear ed
          go_wp2_with fail
          refine HN.out.mono ?_
          rintro e wn ⟨rfl, hbn⟩
          have HBn := Lib.hid (HBr.out.trans (hbn.mono HBr.out.size))
          clear hbn cw
          go_wp2_with fail
          refine ⟨⟨k + 1, false, rfl, by go_num, by omega, Lib.hid (fun j hj hjz => ?_), HBn.out⟩, by simp [intOf]; omega⟩
          by_cases hjk : j = k
          · rw [hjk, HD.out] at hjz
            exact absurd hjz HED.out
          · exact hall.out j (by omega) hjz
    · obtain rfl : k = nA + nB := by omega
      have HBW := Lib.hid (HB11.out.trans (hB.mono HB11.out.size))
      have HLA3 := Lib.hid (HLA2.out.below hB)
      have HLB3 := Lib.hid (HLB2.out.below hB)
      obtain ⟨a0, a1, a2⟩ := (HF.out wr HBW.out).1
      obtain ⟨b0, b1, b2⟩ := (HF.out wr HBW.out).2.1
      clear hB HLA2 HLB2 HRS HSS
      go_upto_region 17 with fail
      go_cut [96] from 78 to 96 (fun s96 W => s96 = .bool false ∧ Below w5.heap.size w5 W)
      case first =>
        by_cases e : X = Y
        · subst e
          cases sB with
          | true =>
            go_wp2_with fail
            refine (HSP.out wr HBW.out).mono ?_
            rintro e wn ⟨rfl, hbn⟩
            have HBn := Lib.hid (HBW.out.trans (hbn.mono HBW.out.size))
            clear hbn a0 a1 a2 b0 b1 b2
            go_wp2_with fail
            go_meet
            exact ⟨rfl, HBn.out⟩
          | false =>
            have hv := HV1.out rfl
            have HVV : Hid (kB = true ∨ r = true) := Lib.hid (by
              rcases hv with h | h | ⟨j, hj, h⟩
              · cases h
              · exact .inl h
              · exact .inr (hall.out j hj h))
            clear hv
            go_wp2_with fail
            refine (HSP.out wr HBW.out).mono ?_
            rintro e wn ⟨rfl, hbn⟩
            have HBn := Lib.hid (HBW.out.trans (hbn.mono HBW.out.size))
            have HCC := Lib.hid (HCO.out p1 p2 k1 k2 wn (HLA3.out.below hbn) (HLB3.out.below hbn))
            clear hbn a0 a1 a2 b0 b1 b2
            go_wp2_with fail
            refine HCC.out.mono ?_
            rintro e wm ⟨rfl, hbm⟩
            have HBm := Lib.hid (HBn.out.trans (hbm.mono HBn.out.size))
            clear hbm
            cases kB with
            | true =>
              go_wp2_with fail
              go_meet
              exact ⟨rfl, HBm.out⟩
            | false =>
              obtain rfl : r = true := by rcases HVV.out with h | h; · cases h
                                          · exact h
              go_wp2_with fail
              go_meet
              exact ⟨rfl, HBm.out⟩
        · have e2 : (X.toList == Y.toList) = false := by rw [beq_dec]; exact decide_eq_false e
          obtain rfl : sB = false := by
            cases sB with
            | false => rfl
            | true => exact absurd (HV2.out rfl) e
          clear e
          go_wp2_with fail
          refine (HSP.out wr HBW.out).mono ?_
          rintro e wn ⟨rfl, hbn⟩
          have HBn := Lib.hid (HBW.out.trans (hbn.mono HBW.out.size))
          clear hbn a0 a1 a2 b0 b1 b2
          go_wp2_with fail
          go_meet
          exact ⟨rfl, HBn.out⟩
      case rest =>
        obtain ⟨rfl, hBc⟩ := hcut
        have HBC := Lib.hid hBc
        clear hBc a0 a1 a2 b0 b1 b2 HSP HCO HV1 HV2 HLA3 HLB3 hall
        obtain ⟨wz, rfl⟩ : ∃ W : World, W = wc := ⟨_, rfl⟩
        obtain ⟨a0, a1, a2⟩ := (HF.out wz HBC.out).1
        by_cases h0 : nA = 0
        · obtain rfl : X = Z := HZE.out h0
          have n0 : (nA : Int) = 0 := by omega
          have n1 : ((nA : Int) == 0) = true := by simp [h0]
          go_wp2_with fail
          go_ret
          exact ⟨rfl, HB5.out.trans (HBC.out.mono HB5.out.size)⟩
        · obtain ⟨k, hk⟩ : ∃ k, nA = k + 1 := ⟨nA - 1, by omega⟩
          have n0 : ¬ (nA : Int) = 0 := by omega
          have n1 : ((nA : Int) == 0) = false := by simp; omega
          have z1 : IntKind.i64.wrap ((nA : Int) - 1) = (k : Int) := by rw [IntWalk.i64_in _ (by omega)]; omega
          have z2 : (nA : Int) - 1 = (k : Int) := by omega
          have z3 : (k : Int) ≤ (cA : Int) := by omega
          have z4 : ¬ cA = k := by omega
          have z5 : (0 : Int) ≤ (k : Int) := by omega
          have z6 : (k : Int) < (nA : Int) := by omega
          have z8 : IntKind.i64.wrap (k : Int) = (k : Int) := IntWalk.i64_in _ (by omega)
          have z9 : k ≤ cA := by omega
          have z7 : (0 : Int) ≤ (nA : Int) - 1 := by omega
          obtain ⟨bq, oq, rfl, -⟩ := (HF.out wz HBC.out).2.2.1 0 (by omega)
          have HBCd : Hid (Below w5.heap.size w5 wz.drew) := Lib.hid HBC.out.drew
          have HPR := Lib.hid (HPRE.out k (by omega) cA wz.drew (ReadsP.cut (HF.out _ HBCd.out).2.2.1 (by omega)) (HF.out _ HBCd.out).2.2.2.2)
          rw [HPK.out k (by omega)] at HPR
          have HE := Lib.hid (HEK.out k (by omega))
          have HS9 := Lib.hid (HST.out k hk)
          have HFk := Lib.hid (HFS.out k)
          have HHk : Hid ((headF FA k).size ≤ 4000) := Lib.hid (by rw [headF_size]; decide)
          obtain ⟨PX, hPX⟩ : ∃ y, headF FA k = y := ⟨_, rfl⟩
          obtain ⟨EX, hEX⟩ : ∃ y, FA k = y := ⟨_, rfl⟩
          rw [hPX] at HPR HS9 HHk
          rw [hEX] at HE HS9 HFk
          clear hPX hEX HPK HEK HST HFS HPRE HZE h0
          go_wp2_with fail
          go_region_law (refine step_call (by rfl) 9 #[.agg #[.int .i64 (tA : Int), .slice (some ⟨bq, oq, none⟩) k cA, .int .i64 0]] ?_ HPR.out ?_; (focus (go_simp; done)); intro wp hbp; have HBP := Lib.hid (HBCd.out.trans (hbp.mono HBCd.out.size)))
          all_goals
            clear a0 a1 a2
            obtain ⟨a0, a1, a2⟩ := (HF.out wp HBP.out).1
            obtain ⟨b9, o9, he9, hcs⟩ := (HF.out wp HBP.out).2.2.1 k (by omega)
            cases he9
            obtain ⟨p0, p1', p2', p3, p4, p5, p6⟩ := pcells_of (hcs k (by omega))
            have HEN := Lib.hid (Encode_any (gA k) wp)
            rw [HE.out] at HEN
            unfold Pst.cells at HEN
            clear hcs
            go_wp2_with fail
            refine HEN.out.mono ?_
            rintro e wq ⟨rfl, hbq⟩
            have HBQ := Lib.hid (HBP.out.trans (hbq.mono HBP.out.size))
            have HCH := Lib.hid (ref_chain_any PX EX wq HHk.out HFk.out)
            rw [← HS9.out] at HCH
            clear hbq a0 a1 a2 p0 p1' p2' p3 p4 p5 p6 HEN
            go_wp2_with fail
            refine HCH.out.mono ?_
            rintro e wv ⟨rfl, hbv⟩
            have HBV := Lib.hid (HBQ.out.trans (hbv.mono HBQ.out.size))
            clear hbv
            go_wp2_with fail
            go_ret
            exact ⟨rfl, HB5.out.trans (HBV.out.mono HB5.out.size)⟩
end Go.Proofs.YtcfplkbbgjiocaaDoor
