/- The law of chapter 2: DigestProofAccepted returns true. Conditions: the table holds its words; arguments that can be read. -/
import Derived.Test.YtolhjkbfinlfcaaDoorLaw02Aid
import Derived.StillTailTactics
namespace Go.Proofs.YtolhjkbfinlfcaaDoor
open Go Go.RowKit
set_option maxRecDepth 100000 in
set_option maxHeartbeats 4000000 in
theorem proofAcc_any (p : Option Addr) (n c : Nat) (F : Nat → ByteArray) (i : Int) (w : World) (hn : n ≤ 9223372036854775807) (hi0 : -9223372036854775808 ≤ i) (hr : ReadsS w p n F) (hT : RoundOk w) :
    Calls Tryd.prog 5 #[.slice p n c, .int .i64 i] w fun e w' => e = .returned (.bool true) ∧ Below w.heap.size w w' := by
  have HT := Lib.hid hT
  have HL := Lib.hid hr
  obtain ⟨i0, hi, hz0, hz1, hz2⟩ := infoStr
  clear hr hT
  go_enter Tryd.func5, Tryd.ntmps5
  go_wp2_with fail
  have HB0 := Lib.hid (Below.refl w.heap.size w)
  have HC := Lib.hid (sane_any w (HT.out.below HB0.out))
  refine HC.out.mono ?_
  rintro e w1 ⟨rfl, hb1⟩
  have HB1 := Lib.hid (HB0.out.trans (hb1.mono HB0.out.size))
  have HL_1 := Lib.hid (HL.out.below hb1)
  clear hb1 HC HB0 HL
  go_wp2_with fail
  have HC := Lib.hid (few_any p n c 40 F w1 (by decide) hn HL_1.out)
  refine HC.out.mono ?_
  rintro e w2 ⟨⟨q, l, cq, G, rfl, hl, hlc, hrd, hG⟩, hb2⟩
  have HB2 := Lib.hid (HB1.out.trans (hb2.mono HB1.out.size))
  have HL_2 := Lib.hid (HL_1.out.below hb2)
  have HG_2 := Lib.hid hrd
  clear hb2 HC HB1 HL_1 hrd
  go_wp2_with fail
  have HGS := Lib.hid hG
  clear hG
  have HC := Lib.hid (root_any q l cq G w2 (by omega) (fun i _ => Nat.le_trans (HGS.out i) (by decide)) HG_2.out (HT.out.below HB2.out))
  refine HC.out.mono ?_
  rintro e w3 ⟨rfl, hb3⟩
  have HB3 := Lib.hid (HB2.out.trans (hb3.mono HB2.out.size))
  have HL_3 := Lib.hid (HL_2.out.below hb3)
  have HG_3 := Lib.hid (HG_2.out.below hb3)
  clear hb3 HC HB2 HL_2 HG_2
  go_wp2_with fail
  obtain ⟨R, hR⟩ : ∃ R, rootF G 0 l = R := ⟨_, rfl⟩
  have HROOT := Lib.hid hR
  have HRS : Hid (R.size = 32) := Lib.hid (by rw [← hR]; exact root_size _ _ _)
  rw [hR]
  clear hR HL_3
  obtain ⟨bn, hbn⟩ : ∃ b, binF l = b := ⟨_, rfl⟩
  have HBN := Lib.hid hbn
  have HBIN := Lib.hid (fun W => binary_any l W (by omega))
  rw [hbn] at HBIN
  clear hbn
  have HTA := Lib.hid (HT.out.below HB3.out)
  have HP := Lib.hid (fun (i : Int) W (h : Below w3.heap.size w3 W) => proof_any q l cq G i W (by omega) hlc (fun i _ => Nat.le_trans (HGS.out i) (by decide)) (HG_3.out.below h) (HTA.out.below h))
  have HV := Lib.hid (fun (s : ByteArray) (i : Int) (p1 : Option Addr) (m1 c1 : Nat) (P : Nat → ByteArray) W (h : Below w3.heap.size w3 W) (hr : ReadsS W p1 m1 P) (hs : s.size ≤ 60) (hm : m1 ≤ 100) (hc : m1 ≤ c1) (hi0 : -9223372036854775808 ≤ i) => verify_any R s l i p1 m1 c1 P W (by omega) hi0 (by omega) (by omega) hc hr (HTA.out.below h))
  have HCELL := Lib.hid (fun (k : Nat) (hk : k < l) => HG_3.out k hk)
  go_loopw [7] (fun v7 wr => ∃ k : Nat, v7 = .int .i64 (k : Nat) ∧ k ≤ l ∧ Below w3.heap.size w3 wr) (fun v7 _ => l - (intOf v7).toNat)
  case atStart => exact ⟨0, rfl, by omega, Below.refl _ _⟩
  case round =>
    obtain ⟨k, rfl, hk, hB⟩ := hrel
    by_cases hlt : k < l
    · obtain ⟨b, o, rfl, hcl⟩ := HCELL.out k hlt
      have hc3 := hcl k hlt
      have hxs := HGS.out k
      have v0 : (0 : Int) ≤ (k : Int) := by omega
      have v1 : (k : Int) < (l : Int) := by omega
      have HPV := Lib.hid (proof_verified G l k hlt)
      have HPE : Hid (proofR G l (k : Nat) = proofF G 0 l k ∧ proofE l (k : Nat) = 0) := Lib.hid ⟨by unfold proofR; rw [if_pos ⟨v0, v1⟩, Int.toNat_natCast], by unfold proofE; rw [if_pos ⟨v0, v1⟩]⟩
      have HLE : Hid ((proofF G 0 l k).length ≤ bn) := Lib.hid (by rw [← HBN.out]; exact proof_short G l 0 k _ (bin_pow l))
      obtain ⟨x, hx⟩ : ∃ x, G k = x := ⟨_, rfl⟩
      rw [hx] at hc3 hxs HPV
      have HXS := Lib.hid hxs
      clear hcl hx hxs
      go_wp2_with fail
      refine (HP.out (k : Nat) wr hB).mono ?_
      rintro e w4 ⟨⟨p1, m1, c1, rfl, hm1, hr1, hc1⟩, hb4⟩
      rw [HPE.out.1] at hm1 hr1
      rw [HPE.out.2]
      have hm2 : m1 ≤ bn := by rw [hm1]; exact HLE.out
      have hm3 : ¬ (bn : Int) < (m1 : Int) := by omega
      have hm4 : m1 ≤ 40 := by rw [hm1]; have := proof_length G l 0 k; omega
      rw [HROOT.out, ← hm1] at HPV
      have hB4 := hB.trans (hb4.mono hB.size)
      have hc4 := (hB4.cell (p := ⟨b, o + k, none⟩) (cell_lt' hc3)).trans hc3
      have HVV := Lib.hid (HV.out x (k : Nat) p1 m1 c1 _ w4 hB4 hr1 HXS.out (by omega) hc1 (by omega))
      rw [decide_eq_true HPV.out] at HVV
      have HB4 := Lib.hid hB4
      clear hm1 hr1 hc1 hb4 hB hB4
      go_wp2_with fail
      refine (HBIN.out _).mono ?_
      rintro e w' ⟨rfl, rfl⟩
      go_wp2_with fail
      refine HVV.out.mono ?_
      rintro e w5 ⟨rfl, hb5⟩
      have HB5 := Lib.hid (HB4.out.trans (hb5.mono HB4.out.size))
      clear hb5 hc4
      go_wp2_with fail
      exact ⟨⟨k + 1, by go_num, by omega, HB5.out⟩, by simp [intOf]; omega⟩
    · obtain rfl : k = l := by omega
      have HB := Lib.hid hB
      clear hB
      by_cases hin : 0 ≤ i ∧ i < (k : Int)
      · obtain ⟨j, rfl⟩ : ∃ j : Nat, i = (j : Nat) := ⟨i.toNat, by omega⟩
        have hjk : j < k := by omega
        have HPE : Hid (proofR G k (j : Nat) = proofF G 0 k j ∧ proofE k (j : Nat) = 0) := Lib.hid ⟨by unfold proofR; rw [if_pos hin, Int.toNat_natCast], by unfold proofE; rw [if_pos hin]⟩
        obtain ⟨b, o, rfl, hcl⟩ := HCELL.out j hjk
        have hc3 := hcl j hjk
        have hxs := HGS.out j
        have v1 : (j : Int) < (k : Int) := by omega
        obtain ⟨x, hx⟩ : ∃ x, G j = x := ⟨_, rfl⟩
        rw [hx] at hc3 hxs
        have HXS := Lib.hid hxs
        clear hin hcl hxs hx
        go_wp2_with fail
        refine (HP.out (j : Nat) wr HB.out).mono ?_
        rintro e w4 ⟨⟨p1, m1, c1, rfl, hm1, hr1, hc1⟩, hb4⟩
        rw [HPE.out.1] at hm1 hr1
        rw [HPE.out.2]
        have HM1 := Lib.hid hm1
        have hm4 : m1 ≤ 40 := by rw [hm1]; have := proof_length G k 0 j; omega
        have hB4 := HB.out.trans (hb4.mono HB.out.size)
        have hc4 := (hB4.cell (p := ⟨b, o + j, none⟩) (cell_lt' hc3)).trans hc3
        have HB4 := Lib.hid hB4
        have HR1 := Lib.hid hr1
        clear hm1 hr1 hb4 hB4
        go_wp2_with fail
        have HVL : Hid (∀ (m : Nat) (P : Nat → ByteArray), m ≠ m1 → ¬ VerifyOk R k (j : Nat) x P m) := Lib.hid (fun m P hm h => hm (by rw [HM1.out]; have := verify_count (F := G) h; rw [Int.toNat_natCast, Int.toNat_natCast] at this; exact this))
        obtain ⟨LL, hLL⟩ : ∃ L, proofF G 0 k j = L := ⟨_, rfl⟩
        rw [hLL] at HM1 HR1
        have hc1 : m1 ≤ c1 := hc1
        have w4z : w3.heap.size ≤ w4.heap.size := HB4.out.size
        clear hLL
        have HVF : Hid (∀ (q6 : Option Addr) (c6 : Nat) (P : Nat → ByteArray) (W : World), Below w3.heap.size w3 W → ReadsS W q6 (m1 + 1) P → m1 + 1 ≤ c6 → Calls Tryd.prog 21 #[.string R, .int .i64 (k : Nat), .int .i64 (j : Nat), .string x, .slice q6 (m1 + 1) c6] W fun e w' => e = .returned (.bool false) ∧ Below W.heap.size W w') := Lib.hid (fun q6 c6 P W h hr hc => by
          have := HV.out x (j : Nat) q6 (m1 + 1) c6 P W h hr HXS.out (by omega) hc (by omega)
          rw [decide_eq_false (HVL.out (m1 + 1) P (by omega))] at this
          exact this)
        go_cut [13] from 97 to 111 (fun s13 W => s13 = .bool false ∧ Below w4.heap.size w4 W)
        case first =>
          have P1A : Hid (Below w4.heap.size w4 ((w4.alloc (.cells #[] 9)).drew)) := Lib.hid ((Below.refl _ _).alloc (Nat.le_refl _) _).drew
          have P1B : Hid (Below w4.heap.size w4 (((w4.alloc (.cells #[] 9)).alloc (.cells #[.string R] 9)).drew)) := Lib.hid (((Below.refl _ _).alloc (Nat.le_refl _) _).alloc (by simp) _).drew
          have P1C : Hid (Below w4.heap.size w4 (((w4.alloc (.cells #[.string R] 9)).alloc (.cells #[] 9)).drew)) := Lib.hid (((Below.refl _ _).alloc (Nat.le_refl _) _).alloc (by simp) _).drew
          have k1 : (w4.alloc (.cells #[] 9)).cell? ⟨b, o + j, none⟩ = some (.string x) := ((show Below w4.heap.size w4 (w4.alloc (.cells #[] 9)) from (Below.refl _ _).alloc (Nat.le_refl _) _).cell (p := ⟨b, o + j, none⟩) (cell_lt' hc4)).trans hc4
          have k2 : ((w4.alloc (.cells #[] 9)).alloc (.cells #[.string R] 9)).cell? ⟨b, o + j, none⟩ = some (.string x) := ((show Below w4.heap.size w4 ((w4.alloc (.cells #[] 9)).alloc (.cells #[.string R] 9)) from ((Below.refl _ _).alloc (Nat.le_refl _) _).alloc (by simp) _).cell (p := ⟨b, o + j, none⟩) (cell_lt' hc4)).trans hc4
          have k3 : (w4.alloc (.cells #[.string R] 9)).cell? ⟨b, o + j, none⟩ = some (.string x) := ((show Below w4.heap.size w4 (w4.alloc (.cells #[.string R] 9)) from (Below.refl _ _).alloc (Nat.le_refl _) _).cell (p := ⟨b, o + j, none⟩) (cell_lt' hc4)).trans hc4
          have k4 : ((w4.alloc (.cells #[.string R] 9)).alloc (.cells #[] 9)).cell? ⟨b, o + j, none⟩ = some (.string x) := ((show Below w4.heap.size w4 ((w4.alloc (.cells #[.string R] 9)).alloc (.cells #[] 9)) from ((Below.refl _ _).alloc (Nat.le_refl _) _).alloc (by simp) _).cell (p := ⟨b, o + j, none⟩) (cell_lt' hc4)).trans hc4
          have PO1 : Hid ((w4.alloc (.cells #[] 9)).drew.ownsRow w4.heap.size 9 1 (.slice (some ⟨w4.heap.size, 0, none⟩) 0 0) 0 []) := Lib.hid (World.ownsRow_lit w4 #[] 0 (Nat.le_refl _) (by decide) rfl).drew
          have PO2 : Hid (((w4.alloc (.cells #[] 9)).alloc (.cells #[.string R] 9)).drew.ownsRow w4.heap.size 9 1 (.slice (some ⟨w4.heap.size, 0, none⟩) 0 0) 0 []) := Lib.hid ((World.ownsRow_lit w4 #[] 0 (Nat.le_refl _) (by decide) rfl).alloc _).drew
          have PO3 : Hid (((w4.alloc (.cells #[.string R] 9)).alloc (.cells #[] 9)).drew.ownsRow w4.heap.size 9 1 (.slice (some ⟨w4.heap.size + 1, 0, none⟩) 0 0) 0 []) := Lib.hid (by
            have h1 := (World.ownsRow_lit (base := w4.heap.size) (e := 9) (size := 1) (w4.alloc (.cells #[.string R] 9)) #[] 0 (by simp) (by decide) rfl).drew
            rw [show (w4.alloc (.cells #[.string R] 9)).heap.size = w4.heap.size + 1 by simp] at h1
            exact h1)
          have PRB : Hid (ReadsS (((w4.alloc (.cells #[] 9)).alloc (.cells #[.string R] 9)).drew) (some ⟨w4.heap.size + 1, 0, none⟩) 1 (fun _ => R)) := Lib.hid (by have h1 := reads_new (w4.alloc (.cells #[] 9)) R 9; rw [show (w4.alloc (.cells #[] 9)).heap.size = w4.heap.size + 1 by simp] at h1; exact h1)
          have PRC : Hid (ReadsS (((w4.alloc (.cells #[.string R] 9)).alloc (.cells #[] 9)).drew) (some ⟨w4.heap.size, 0, none⟩) 1 (fun _ => R)) := Lib.hid ((reads_new w4 R 9).below (((Below.refl _ _).alloc (Nat.le_refl _) _).drew))
          go_region_law (first
            | (refine step_append_reads (by rfl) (.tmp 105) (.tmp 106) 22 (by rfl) w4.heap.size 9 i0 (.string ⟨#[]⟩) Tryd.underlying22 hi hz0 hz1 hz2 rfl (.slice (some ⟨w4.heap.size, 0, none⟩) 0 0) 0 [] (by rfl) PO1.out p1 m1 c1 _ (by rfl) (HR1.out.below P1A.out) (by decide) (by omega) P1A.out.size ?_; intro v5 w5 hown5 hgrow5; have hB5 := P1A.out.grown hgrow5 (by first | omega | (simp <;> omega)) (fun q ej => by cases ej; first | exact Nat.le_refl _ | exact Nat.le_succ _ | (simp <;> omega)); have hw5 := hB5.size; have hc5 := (hB5.cell (p := ⟨b, o + j, none⟩) (cell_lt' hc4)).trans hc4; have hc5r := ((hB5.alloc hw5 (.cells #[.string R] 9)).cell (p := ⟨b, o + j, none⟩) (cell_lt' hc4)).trans hc4)
            | (refine step_append_reads (by rfl) (.tmp 105) (.tmp 106) 22 (by rfl) w4.heap.size 9 i0 (.string ⟨#[]⟩) Tryd.underlying22 hi hz0 hz1 hz2 rfl (.slice (some ⟨w4.heap.size, 0, none⟩) 0 0) 0 [] (by rfl) PO2.out p1 m1 c1 _ (by rfl) (HR1.out.below P1B.out) (by decide) (by omega) P1B.out.size ?_; intro v5 w5 hown5 hgrow5; have hB5 := P1B.out.grown hgrow5 (by first | omega | (simp <;> omega)) (fun q ej => by cases ej; first | exact Nat.le_refl _ | exact Nat.le_succ _ | (simp <;> omega)); have hw5 := hB5.size; have hc5 := (hB5.cell (p := ⟨b, o + j, none⟩) (cell_lt' hc4)).trans hc4; have hc5r := ((hB5.alloc hw5 (.cells #[.string R] 9)).cell (p := ⟨b, o + j, none⟩) (cell_lt' hc4)).trans hc4; have hcR := reads_grown (B := w4.heap.size + 1) (F := fun _ => R) hgrow5 PRB.out (by simp [Value.ownBlock]))
            | (refine step_append_reads (by rfl) (.tmp 105) (.tmp 106) 22 (by rfl) w4.heap.size 9 i0 (.string ⟨#[]⟩) Tryd.underlying22 hi hz0 hz1 hz2 rfl (.slice (some ⟨w4.heap.size + 1, 0, none⟩) 0 0) 0 [] (by rfl) PO3.out p1 m1 c1 _ (by rfl) (HR1.out.below P1C.out) (by decide) (by omega) P1C.out.size ?_; intro v5 w5 hown5 hgrow5; have hB5 := P1C.out.grown hgrow5 (by first | omega | (simp <;> omega)) (fun q ej => by cases ej; first | exact Nat.le_refl _ | exact Nat.le_succ _ | (simp <;> omega)); have hw5 := hB5.size; have hc5 := (hB5.cell (p := ⟨b, o + j, none⟩) (cell_lt' hc4)).trans hc4; have hc5r := ((hB5.alloc hw5 (.cells #[.string R] 9)).cell (p := ⟨b, o + j, none⟩) (cell_lt' hc4)).trans hc4; have hcR := reads_grown (B := w4.heap.size) (F := fun _ => R) hgrow5 PRC.out (by simp [Value.ownBlock]))
            | (refine step_append_reads (by rfl) (.tmp 107) (.tmp 109) 22 (by rfl) w4.heap.size 9 i0 (.string ⟨#[]⟩) Tryd.underlying22 hi hz0 hz1 hz2 rfl v5 (0 + m1) _ (by rfl) (hown5.alloc _) (some ⟨w5.heap.size, 0, none⟩) 1 1 (fun _ => R) (by rfl) (reads_new w5 R _) (by omega) (by decide) (Nat.le_trans hw5 (by simp)) ?_; intro v6 w6 hown6 hgrow6; have hB6 := (hB5.alloc hw5 (.cells #[.string R] 9)).grown hgrow6 (by first | omega | (simp <;> omega)) (fun q ej => (hown5.lt q ej).1); have hw6 := hB6.size; have hc6 := (hB6.cell (p := ⟨b, o + j, none⟩) (cell_lt' hc4)).trans hc4; obtain ⟨q6, c6, rfl, hcc6, hrd6⟩ := own_readsS (L := LL ++ [R]) (by rw [List.length_append, ← HM1.out, List.map_append, ← newsS_eq, ← HM1.out]; rw [Nat.zero_add, List.nil_append] at hown6; exact hown6); have hl6 : (LL ++ [R]).length = m1 + 1 := (by rw [List.length_append, ← HM1.out]; rfl); rw [hl6] at hcc6 hrd6)
            | (refine step_append_reads (by rfl) (.tmp 107) (.tmp 109) 22 (by rfl) w4.heap.size 9 i0 (.string ⟨#[]⟩) Tryd.underlying22 hi hz0 hz1 hz2 rfl v5 (0 + m1) _ (by rfl) hown5 _ 1 1 (fun _ => R) (by rfl) hcR (by omega) (by decide) hw5 ?_; intro v6 w6 hown6 hgrow6; have hB6 := hB5.grown hgrow6 (by first | omega | (simp <;> omega)) (fun q ej => (hown5.lt q ej).1); have hw6 := hB6.size; have hc6 := (hB6.cell (p := ⟨b, o + j, none⟩) (cell_lt' hc4)).trans hc4; obtain ⟨q6, c6, rfl, hcc6, hrd6⟩ := own_readsS (L := LL ++ [R]) (by rw [List.length_append, ← HM1.out, List.map_append, ← newsS_eq, ← HM1.out]; rw [Nat.zero_add, List.nil_append] at hown6; exact hown6); have hl6 : (LL ++ [R]).length = m1 + 1 := (by rw [List.length_append, ← HM1.out]; rfl); rw [hl6] at hcc6 hrd6)
            | (refine step_call (by rfl) 21 #[.string R, .int .i64 (k : Nat), .int .i64 (j : Nat), .string x, .slice q6 (m1 + 1) c6] ?_ (HVF.out q6 c6 _ w6 (HB4.out.trans (hB6.mono w4z)) hrd6 hcc6) ?_; (focus (go_simp; done)); intro w7 hb7))
          all_goals (go_wp2_with fail; try go_meet)
          all_goals exact ⟨rfl, hB6.trans (hb7.mono hw6)⟩
        case rest =>
          obtain ⟨rfl, hBc⟩ := hcut
          have HBc := Lib.hid hBc
          obtain ⟨w8, rfl⟩ : ∃ W : World, W = wc := ⟨_, rfl⟩
          have hc8 := (hBc.cell (p := ⟨b, o + j, none⟩) (cell_lt' hc4)).trans hc4
          have HB8 := Lib.hid (HB4.out.trans (hBc.mono w4z))
          have HR8 := Lib.hid (HR1.out.below hBc)
          clear hBc hc4
          by_cases hm0 : m1 = 0
          · subst hm0
            have HB8d := Lib.hid HB8.out.drew
            go_wp2_with fail
            go_quiet (fail)
            go_wp2_with fail
            go_ret
            exact ⟨rfl, HB3.out.trans ((Below_dn HB8.out _).mono HB3.out.size)⟩
          · obtain ⟨b1, o1, rfl, hr8⟩ := HR8.out 0 (by omega)
            obtain ⟨pt, hpt⟩ : ∃ pt : Option Addr, (if c1 = 1 then some ⟨b1, o1, none⟩ else some ⟨b1, o1 + 1, none⟩) = pt := ⟨_, rfl⟩
            have HRT : Hid (ReadsS w8 pt (m1 - 1) (fun i => getS LL (1 + i))) := Lib.hid (fun i hi => by
              rw [if_neg (by omega)] at hpt
              exact ⟨b1, o1 + 1, hpt.symm, fun q hq => by rw [Nat.add_assoc]; exact hr8 (1 + q) (by omega)⟩)
            have z1 : ¬ (m1 : Int) = 0 := by omega
            have z2 : (0 : Int) < (m1 : Int) := by omega
            have z3 : (1 : Int) ≤ (m1 : Int) := by omega
            have z4 : (1 : Int) ≤ (c1 : Int) := by omega
            have z5 : (m1 : Int) ≤ (c1 : Int) := by omega
            have z6 : decide ((0 : Int) < (m1 : Int)) = true := decide_eq_true z2
            have z7 : decide (0 < m1) = true := decide_eq_true (by omega)
            have z8 : 0 < m1 := by omega
            clear hr8
            have HVS : Hid (∀ (W : World), Below w8.heap.size w8 W → Calls Tryd.prog 21 #[.string R, .int .i64 (k : Nat), .int .i64 (j : Nat), .string x, .slice pt (m1 - 1) (c1 - 1)] W fun e w' => e = .returned (.bool false) ∧ Below W.heap.size W w') := Lib.hid (fun W h => by
              have := HV.out x (j : Nat) pt (m1 - 1) (c1 - 1) _ W (HB8.out.trans (h.mono HB8.out.size)) (HRT.out.below h) HXS.out (by omega) (by omega) (by omega)
              rw [decide_eq_false (HVL.out (m1 - 1) _ (by omega))] at this
              exact this)
            go_wp2_with fail
            have HB8e : Below w8.heap.size w8 w8.drew := (Below.refl _ _).drew
            go_still_tail 14, (by kernel_rfl)
            change wpList _ _ _ _ _ w8.drew
            obtain ⟨w9, hw9⟩ : ∃ W : World, w8.drew = W := ⟨_, rfl⟩
            rw [hw9] at HB8e ⊢
            clear hw9
            go_wp2_with fail
            refine (HVS.out w9 HB8e).mono ?_
            rintro e w10 ⟨rfl, hb9⟩
            have hB9 := HB8e.trans (hb9.mono HB8e.size)
            all_goals go_wp2_with fail
            all_goals go_ret
            all_goals exact ⟨rfl, HB3.out.trans ((HB8.out.trans (hB9.mono HB8.out.size)).mono HB3.out.size)⟩
      · have HPE : Hid (proofR G k i = [] ∧ proofE k i = 2) := Lib.hid ⟨by unfold proofR; rw [if_neg hin], by unfold proofE; rw [if_neg hin]⟩
        have HVN := Lib.hid (decide_eq_false (fun h : VerifyOk R k i ⟨#[]⟩ (fun _ => ⟨#[]⟩) 0 => hin ⟨h.1, h.2.1⟩))
        by_cases hi1 : 0 ≤ i
        · have hi2 : ¬ i < (k : Int) := by omega
          have hi3 : decide (i < (k : Int)) = false := decide_eq_false hi2
          have hi4 : decide (0 ≤ i) = true := decide_eq_true hi1
          clear hin
          go_wp2_with fail
          refine (HP.out i wr HB.out).mono ?_
          rintro e w4 ⟨⟨p1, m1, c1, rfl, hm1, hr1, hc1⟩, hb4⟩
          rw [HPE.out.1] at hm1
          rw [HPE.out.2]
          obtain rfl : m1 = 0 := hm1
          have HB4 := Lib.hid (HB.out.trans (hb4.mono HB.out.size))
          clear hr1 hc1 hb4
          go_wp2_with fail
          have HVV := Lib.hid (HV.out ⟨#[]⟩ i none 0 0 (fun _ => ⟨#[]⟩) w4 HB4.out (fun i hi => by omega) (by decide) (by decide) (by decide) hi0)
          rw [HVN.out] at HVV
          refine HVV.out.mono ?_
          rintro e w5 ⟨rfl, hb5⟩
          go_wp2_with fail
          go_ret
          exact ⟨rfl, HB3.out.trans ((HB4.out.trans (hb5.mono HB4.out.size)).mono HB3.out.size)⟩
        · have hi4 : decide (0 ≤ i) = false := decide_eq_false hi1
          clear hin
          go_wp2_with fail
          refine (HP.out i wr HB.out).mono ?_
          rintro e w4 ⟨⟨p1, m1, c1, rfl, hm1, hr1, hc1⟩, hb4⟩
          rw [HPE.out.1] at hm1
          rw [HPE.out.2]
          obtain rfl : m1 = 0 := hm1
          have HB4 := Lib.hid (HB.out.trans (hb4.mono HB.out.size))
          clear hr1 hc1 hb4
          go_wp2_with fail
          have HVV := Lib.hid (HV.out ⟨#[]⟩ i none 0 0 (fun _ => ⟨#[]⟩) w4 HB4.out (fun i hi => by omega) (by decide) (by decide) (by decide) hi0)
          rw [HVN.out] at HVV
          refine HVV.out.mono ?_
          rintro e w5 ⟨rfl, hb5⟩
          go_wp2_with fail
          go_ret
          exact ⟨rfl, HB3.out.trans ((HB4.out.trans (hb5.mono HB4.out.size)).mono HB3.out.size)⟩
end Go.Proofs.YtolhjkbfinlfcaaDoor
