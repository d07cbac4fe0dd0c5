/- The law of chapter 2: DigestSplit returns true. Conditions: the table holds its words; arguments that can be read. -/
import Derived.Test.YtolhjkbfinlfcaaDoorLaw02ExtAcc
import Derived.Test.YtolhjkbfinlfcaaDoorPure
namespace Go.Proofs.YtolhjkbfinlfcaaDoor
open Go Go.RowKit
set_option maxRecDepth 100000 in
set_option maxHeartbeats 4000000 in
theorem split_any (p : Option Addr) (n c : Nat) (F : Nat → ByteArray) (s : ByteArray) (w : World) (hn : n ≤ 9223372036854775807) (hr : ReadsS w p n F) (hT : RoundOk w) :
    Calls Tryd.prog 9 #[.slice p n c, .string s] w fun e w' => e = .returned (.bool true) ∧ Below w.heap.size w w' := by
  have HT := Lib.hid hT
  have HL := Lib.hid hr
  obtain ⟨i0, hi, hz0, hz1, hz2⟩ := infoStr
  obtain ⟨ms, S, hs1, hs2, hs3, hs4, hs5, hs6, _⟩ := cut60_facts s
  have HSS := Lib.hid hs2
  clear hr hT hs2
  go_enter Tryd.func9, Tryd.ntmps9
  go_wp2_with fail
  have HB0 := Lib.hid (Below.refl w.heap.size w)
  have HC := Lib.hid (sane_any w (HT.out.below HB0.out))
  refine HC.out.mono ?_
  rintro e w1 ⟨rfl, hb1⟩
  have HB1 := Lib.hid (HB0.out.trans (hb1.mono HB0.out.size))
  have HL_1 := Lib.hid (HL.out.below hb1)
  clear hb1 HC HB0 HL
  go_wp2_with fail
  have HC := Lib.hid (few_any p n c 40 F w1 (by decide) hn HL_1.out)
  refine HC.out.mono ?_
  rintro e w2 ⟨⟨q, l, cq, G, rfl, hl, hlc, hrd, hG⟩, hb2⟩
  have HB2 := Lib.hid (HB1.out.trans (hb2.mono HB1.out.size))
  have HL_2 := Lib.hid (HL_1.out.below hb2)
  have HG_2 := Lib.hid hrd
  clear hb2 HC HB1 HL_1 hrd
  have HGS := Lib.hid hG
  clear hG HL_2
  have P1 : Hid (Below w2.heap.size w2 (w2.alloc (.cells #[] 9))) := Lib.hid ((Below.refl _ _).alloc (Nat.le_refl _) _)
  go_wp2_with (first
    | (at_builtin; refine wpList_append_reads (by rfl) (.tmp 18) (.tmp 19) 22 (by rfl) w2.heap.size 9 i0 (.string ⟨#[]⟩) Tryd.underlying22 hi hz0 hz1 hz2 rfl (.slice (some ⟨w2.heap.size, 0, none⟩) 0 0) 0 [] (by rfl) (World.ownsRow_lit w2 #[] 0 (Nat.le_refl _) (by decide) rfl) q l cq G (by rfl) (HG_2.out.below P1.out) (by decide) (by omega) P1.out.size ?_; intro v5 w5 hown5 hgrow5; have hB5 := P1.out.grown hgrow5 (by first | omega | (simp <;> omega)) (fun q ej => by cases ej; first | exact Nat.le_refl _ | exact Nat.le_succ _ | (simp <;> omega)); have hw5 := hB5.size)
    | (at_builtin; refine wpList_append_reads (by rfl) (.tmp 20) (.tmp 22) 22 (by rfl) w2.heap.size 9 i0 (.string ⟨#[]⟩) Tryd.underlying22 hi hz0 hz1 hz2 rfl v5 (0 + l) _ (by rfl) (hown5.alloc _) (some ⟨w5.heap.size, 0, none⟩) 1 1 (fun _ => S) (by rfl) (reads_new w5 S _) (by omega) (by decide) (Nat.le_trans hw5 (by simp)) ?_; intro v6 w6 hown6 hgrow6; have hB6 := (hB5.alloc hw5 (.cells #[.string S] 9)).grown hgrow6 (by first | omega | (simp <;> omega)) (fun q ej => (hown5.lt q ej).1); have hw6 := hB6.size; obtain ⟨q6, c6, rfl, hcc6, hrd6⟩ := own_readsS (L := (List.range l).map G ++ [S]) (by rw [List.length_append, List.map_append, List.map_map, List.length_map, List.length_range]; rw [Nat.zero_add, List.nil_append] at hown6; exact hown6); have hl6 : ((List.range l).map G ++ [S]).length = l + 1 := (by simp); rw [hl6] at hcc6 hrd6; rw [hl6]))
  have HB6 := Lib.hid (HB2.out.trans (hB6.mono HB2.out.size))
  have HG_6 := Lib.hid (HG_2.out.below hB6)
  have hM1 : ∀ i, i < l → getS ((List.range l).map G ++ [S]) i = G i := fun i hi => by
    rw [getS_lt (by simpa using hi)]
    unfold getS
    rw [List.getD_eq_getElem?_getD, List.getElem?_map, List.getElem?_range hi]
    rfl
  have hM2 : getS ((List.range l).map G ++ [S]) l = S := by
    have := getS_snoc ((List.range l).map G) S
    rw [List.length_map, List.length_range] at this
    exact this
  have hM3 : ∀ i, (getS ((List.range l).map G ++ [S]) i).size ≤ 60 := fun i => by
    rcases Nat.lt_trichotomy i l with h | h | h
    · rw [hM1 i h]; exact HGS.out i
    · rw [h, hM2]; exact HSS.out
    · unfold getS
      rw [List.getD_eq_getElem?_getD, List.getElem?_eq_none (by rw [hl6]; omega)]
      decide
  obtain ⟨M, hM⟩ : ∃ M, getS ((List.range l).map G ++ [S]) = M := ⟨_, rfl⟩
  rw [hM] at hM1 hM2 hM3 hrd6
  have HM1 := Lib.hid hM1
  have HM2 := Lib.hid hM2
  have HMS := Lib.hid hM3
  have HM_6 := Lib.hid hrd6
  have HRG : Hid (rootF G 0 l = rootF M 0 l) := Lib.hid (root_congr l 0 0 (fun i hi => by rw [Nat.zero_add]; exact (HM1.out i hi).symm))
  obtain ⟨l1, hl1⟩ : ∃ x, l + 1 = x := ⟨_, rfl⟩
  rw [hl1] at hcc6 HM_6 ⊢
  have HL1 := Lib.hid hl1
  have hl9 : l1 ≤ 41 := by omega
  have hl8 : l ≤ l1 := by omega
  have HXV := Lib.hid (ext_verified M l1 (l : Nat) (by omega) (by omega))
  have HXE := Lib.hid (extE_in (n := l1) (m := (l : Nat)) ⟨by omega, by omega⟩)
  have HXL : Hid ((extR M l1 (l : Nat)).length ≤ 41) := Lib.hid (Nat.le_trans (extR_length M l1 _) hl9)
  obtain ⟨XR, hXR⟩ : ∃ x, extR M l1 (l : Nat) = x := ⟨_, rfl⟩
  have HXR := Lib.hid hXR
  rw [hXR] at HXV HXL
  rw [Int.toNat_natCast, ← HRG.out] at HXV
  clear hM hM1 hM2 hM3 hrd6 hl6 hl1 hXR hown5 hown6 hgrow5 hgrow6 hB5 hB6 hw5 hw6 HG_2 P1 HB2
  have HC := Lib.hid (ext_any q6 l1 c6 M (l : Nat) w6 (by omega) hcc6 (fun i _ => Nat.le_trans (HMS.out i) (by decide)) HM_6.out (HT.out.below HB6.out))
  rw [HXE.out, HXR.out] at HC
  refine HC.out.mono ?_
  rintro e w7 ⟨⟨p1, m1, c1, rfl, hm1, hr1, hc1⟩, hb7⟩
  have HB7 := Lib.hid (HB6.out.trans (hb7.mono HB6.out.size))
  have HG_7 := Lib.hid (HG_6.out.below hb7)
  have HM_7 := Lib.hid (HM_6.out.below hb7)
  have HP_7 := Lib.hid hr1
  have HMM := Lib.hid hm1
  have HCC := Lib.hid hc1
  clear hb7 HC HB6 HG_6 HM_6 hr1 hm1 hc1
  go_wp2_with fail
  obtain ⟨RG, hRG⟩ : ∃ x, rootF G 0 l = x := ⟨_, rfl⟩
  obtain ⟨RM, hRM⟩ : ∃ x, rootF M 0 l1 = x := ⟨_, rfl⟩
  have HRGE := Lib.hid hRG
  have HRME := Lib.hid hRM
  rw [hRG, hRM, ← HMM.out] at HXV
  have hm9 : m1 ≤ 41 := by rw [HMM.out]; exact HXL.out
  clear hRG hRM
  have HC := Lib.hid (root_any q l cq G w7 (by omega) (fun i _ => Nat.le_trans (HGS.out i) (by decide)) HG_7.out (HT.out.below HB7.out))
  rw [HRGE.out] at HC
  refine HC.out.mono ?_
  rintro e w8 ⟨rfl, hb8⟩
  have HB8 := Lib.hid (HB7.out.trans (hb8.mono HB7.out.size))
  have HG_8 := Lib.hid (HG_7.out.below hb8)
  have HM_8 := Lib.hid (HM_7.out.below hb8)
  have HP_8 := Lib.hid (HP_7.out.below hb8)
  clear hb8 HC HB7 HG_7 HM_7 HP_7
  go_wp2_with fail
  have HC := Lib.hid (root_any q6 l1 c6 M w8 (by omega) (fun i _ => Nat.le_trans (HMS.out i) (by decide)) HM_8.out (HT.out.below HB8.out))
  rw [HRME.out] at HC
  refine HC.out.mono ?_
  rintro e w9 ⟨rfl, hb9⟩
  have HB9 := Lib.hid (HB8.out.trans (hb9.mono HB8.out.size))
  have HG_9 := Lib.hid (HG_8.out.below hb9)
  have HM_9 := Lib.hid (HM_8.out.below hb9)
  have HP_9 := Lib.hid (HP_8.out.below hb9)
  clear hb9 HC HB8 HG_8 HM_8 HP_8
  go_wp2_with fail
  have HC := Lib.hid (verext_any RG RM (l : Nat) l1 p1 m1 c1 (getS XR) w9 (by omega) (by omega) HCC.out HP_9.out (HT.out.below HB9.out))
  rw [decide_eq_true HXV.out] at HC
  refine HC.out.mono ?_
  rintro e w10 ⟨rfl, hb10⟩
  have HB10 := Lib.hid (HB9.out.trans (hb10.mono HB9.out.size))
  have HG_10 := Lib.hid (HG_9.out.below hb10)
  have HM_10 := Lib.hid (HM_9.out.below hb10)
  have HP_10 := Lib.hid (HP_9.out.below hb10)
  clear hb10 HC HB9 HG_9 HM_9 HP_9
  by_cases hl0 : l = 0
  · subst hl0
    have HS1 : Hid (RM = leafS S) := Lib.hid (by rw [← HRME.out, ← HL1.out, root_one, HM2.out])
    have HS2 : Hid (RG = dS ⟨#[]⟩) := Lib.hid (by rw [← HRGE.out, root_zero])
    go_wp2_with fail
    have HC := Lib.hid (root_any q6 l1 c6 M w10 (by omega) (fun i _ => Nat.le_trans (HMS.out i) (by decide)) HM_10.out (HT.out.below HB10.out))
    rw [HRME.out] at HC
    refine HC.out.mono ?_
    rintro e w11 ⟨rfl, hb11⟩
    have HB11 := Lib.hid (HB10.out.trans (hb11.mono HB10.out.size))
    have HG_11 := Lib.hid (HG_10.out.below hb11)
    have HM_11 := Lib.hid (HM_10.out.below hb11)
    clear hb11 HC HB10 HG_10 HM_10
    go_wp2_with fail
    have HC := Lib.hid (leaf_any S w11 (Nat.le_trans HSS.out (by decide)) (HT.out.below HB11.out))
    rw [← HS1.out] at HC
    refine HC.out.mono ?_
    rintro e w12 ⟨rfl, hb12⟩
    have HB12 := Lib.hid (HB11.out.trans (hb12.mono HB11.out.size))
    have HG_12 := Lib.hid (HG_11.out.below hb12)
    have HM_12 := Lib.hid (HM_11.out.below hb12)
    clear hb12 HC HB11 HG_11 HM_11
    go_wp2_with fail
    have HC := Lib.hid (root_any q 0 cq G w12 (by omega) (fun i _ => Nat.le_trans (HGS.out i) (by decide)) HG_12.out (HT.out.below HB12.out))
    rw [HRGE.out] at HC
    refine HC.out.mono ?_
    rintro e w13 ⟨rfl, hb13⟩
    have HB13 := Lib.hid (HB12.out.trans (hb13.mono HB12.out.size))
    have HG_13 := Lib.hid (HG_12.out.below hb13)
    have HM_13 := Lib.hid (HM_12.out.below hb13)
    clear hb13 HC HB12 HG_12 HM_12
    go_wp2_with fail
    have HC := Lib.hid (dsum_s ⟨#[]⟩ w13 (by decide) (HT.out.below HB13.out))
    rw [← HS2.out] at HC
    refine HC.out.mono ?_
    rintro e w14 ⟨rfl, hb14⟩
    have HB14 := Lib.hid (HB13.out.trans (hb14.mono HB13.out.size))
    have HG_14 := Lib.hid (HG_13.out.below hb14)
    have HM_14 := Lib.hid (HM_13.out.below hb14)
    clear hb14 HC HB13 HG_13 HM_13
    go_wp2_with fail
    go_ret
    exact ⟨rfl, HB14.out⟩
  · have hl2 : 2 ≤ l1 := by have := HL1.out; omega
    have hl3 : ¬ (l : Int) = 0 := by omega
    have hlf := left_facts hl2
    have HK := Lib.hid (fun W => law_left_any l1 W hl2 (by omega))
    have hrt := root_two M 0 hl2
    obtain ⟨k, hk⟩ : ∃ x, leftN l1 = x := ⟨_, rfl⟩
    rw [hk] at HK hlf hrt
    rw [HRME.out, Nat.zero_add] at hrt
    obtain ⟨b, o, rfl, hr2⟩ := HM_10.out.slice (show k < l1 by omega)
    have n0 : (0 : Int) ≤ (k : Int) := by omega
    have k0 : (k : Int) ≤ (l1 : Int) := by omega
    have k1 : (k : Int) ≤ (c6 : Int) := by omega
    have hck : ¬ c6 = k := by omega
    have HRA := Lib.hid (HM_10.out.less (show k ≤ l1 by omega))
    have HRB := Lib.hid hr2
    have HTA := Lib.hid (HT.out.below HB10.out)
    have HC1 : Hid (∀ W, Below w10.heap.size w10 W → Calls Tryd.prog 19 #[.slice (some ⟨b, o, none⟩) l1 c6] W fun e w' => e = .returned (.string RM) ∧ Below w10.heap.size w10 w') := Lib.hid (fun W h => (root_any (some ⟨b, o, none⟩) l1 c6 M W (by omega) (fun i _ => Nat.le_trans (HMS.out i) (by decide)) (HM_10.out.below h) (HTA.out.below h)).mono (fun e w' ⟨h1, h2⟩ => ⟨by rw [h1, HRME.out], h.trans (h2.mono h.size)⟩))
    have HC2 : Hid (∀ W, Below w10.heap.size w10 W → Calls Tryd.prog 19 #[.slice (some ⟨b, o, none⟩) k c6] W fun e w' => e = .returned (.string (rootF M 0 k)) ∧ Below w10.heap.size w10 w') := Lib.hid (fun W h => (root_any (some ⟨b, o, none⟩) k c6 M W (by omega) (fun i _ => Nat.le_trans (HMS.out i) (by decide)) (HRA.out.below h) (HTA.out.below h)).mono (fun e w' ⟨h1, h2⟩ => ⟨h1, h.trans (h2.mono h.size)⟩))
    have HC3 : Hid (∀ W, Below w10.heap.size w10 W → Calls Tryd.prog 19 #[.slice (some ⟨b, o + k, none⟩) (l1 - k) (c6 - k)] W fun e w' => e = .returned (.string (rootF M k (l1 - k))) ∧ Below w10.heap.size w10 w') := Lib.hid (fun W h => (root_any (some ⟨b, o + k, none⟩) (l1 - k) (c6 - k) (fun i => M (k + i)) W (by omega) (fun i _ => Nat.le_trans (HMS.out _) (by decide)) (HRB.out.below h) (HTA.out.below h)).mono (fun e w' ⟨h1, h2⟩ => ⟨by rw [h1]; congr 2; exact root_shift .., h.trans (h2.mono h.size)⟩))
    have HC4 : Hid (∀ W, Below w10.heap.size w10 W → Calls Tryd.prog 32 #[.string (rootF M 0 k), .string (rootF M k (l1 - k))] W fun e w' => e = .returned (.string RM) ∧ Below w10.heap.size w10 w') := Lib.hid (fun W h => (node_any (rootF M 0 k) (rootF M k (l1 - k)) W (by rw [root_size]; decide) (by rw [root_size]; decide) (HTA.out.below h)).mono (fun e w' ⟨h1, h2⟩ => ⟨by rw [h1, hrt], h.trans (h2.mono h.size)⟩))
    obtain ⟨x1, hx1⟩ : ∃ x, rootF M 0 k = x := ⟨_, rfl⟩
    obtain ⟨x2, hx2⟩ : ∃ x, rootF M k (l1 - k) = x := ⟨_, rfl⟩
    rw [hx1] at HC2 HC4
    rw [hx2] at HC3 HC4
    clear hr2 hrt hk hx1 hx2 hlf hl0
    go_wp2_with fail
    refine (HK.out _).mono ?_
    rintro e w' ⟨rfl, rfl⟩
    go_wp2_with fail
    have HBX := (Below.refl w10.heap.size w10).drew
    refine wp_region_held_drew (S := (fun W => Below w10.heap.size w10 W)) (by kernel_rfl) ?_ (fun hHeld => ?_)
    · exact HBX
    refine wpAnyH_take (i := 0) (v := ?_) rfl (by kernel_rfl) (by kernel_rfl) (by kernel_rfl) (fun _ _ _ h => h) (Or.inl ⟨by rfl, ?_⟩) (by assumption) ?_
    rotate_left
    · intro w hSw
      try dsimp only at hSw
      go_simp
      all_goals with_reducible rfl
    try simp only [Act.put, List.getElem_toArray, List.getElem_cons_zero, List.setIfInBounds_toArray, List.set_cons_zero, List.set_cons_succ]
    refine wpAnyH_take (i := 1) (v := ?_) rfl (by kernel_rfl) (by kernel_rfl) (by kernel_rfl) (fun _ _ _ h => h) (Or.inl ⟨by rfl, ?_⟩) (by assumption) ?_
    rotate_left
    · intro w hSw
      try dsimp only at hSw
      go_simp
      all_goals with_reducible rfl
    try simp only [Act.put, List.getElem_toArray, List.getElem_cons_succ, List.getElem_cons_zero, List.setIfInBounds_toArray, List.set_cons_zero, List.set_cons_succ]
    refine wpAnyH_take (i := 2) (v := ?_) rfl (by kernel_rfl) (by kernel_rfl) (by kernel_rfl) (fun _ _ _ h => h) (Or.inl ⟨by rfl, ?_⟩) (by assumption) ?_
    rotate_left
    · intro w hSw
      try dsimp only at hSw
      go_simp
      all_goals with_reducible rfl
    try simp only [Act.put, List.getElem_toArray, List.getElem_cons_succ, List.getElem_cons_zero, List.setIfInBounds_toArray, List.set_cons_zero, List.set_cons_succ]
    refine wpAnyH_take (i := 4) (v := ?_) rfl (by kernel_rfl) (by kernel_rfl) (by kernel_rfl) (fun _ _ _ h => h) (Or.inl ⟨by rfl, ?_⟩) (by assumption) ?_
    rotate_left
    · intro w hSw
      try dsimp only at hSw
      go_simp
      all_goals with_reducible rfl
    try simp only [Act.put, List.getElem_toArray, List.getElem_cons_succ, List.getElem_cons_zero, List.setIfInBounds_toArray, List.set_cons_zero, List.set_cons_succ]
    refine wpAnyH_take (i := 5) (v := ?_) rfl (by kernel_rfl) (by kernel_rfl) (by kernel_rfl) (fun _ _ _ h => h) (Or.inl ⟨by rfl, ?_⟩) (by assumption) ?_
    rotate_left
    · intro w hSw
      try dsimp only at hSw
      go_simp
      all_goals with_reducible rfl
    try simp only [Act.put, List.getElem_toArray, List.getElem_cons_succ, List.getElem_cons_zero, List.setIfInBounds_toArray, List.set_cons_zero, List.set_cons_succ]
    refine wpAnyH_take (i := 6) (v := ?_) rfl (by kernel_rfl) (by kernel_rfl) (by kernel_rfl) (fun _ _ _ h => h) (Or.inl ⟨by rfl, ?_⟩) (by assumption) ?_
    rotate_left
    · intro w hSw
      try dsimp only at hSw
      go_simp
      all_goals with_reducible rfl
    try simp only [Act.put, List.getElem_toArray, List.getElem_cons_succ, List.getElem_cons_zero, List.setIfInBounds_toArray, List.set_cons_zero, List.set_cons_succ]
    refine wpAnyH_take (i := 8) (v := ?_) rfl (by kernel_rfl) (by kernel_rfl) (by kernel_rfl) (fun _ _ _ h => h) (Or.inl ⟨by rfl, ?_⟩) (by assumption) ?_
    rotate_left
    · intro w hSw
      try dsimp only at hSw
      go_simp
      all_goals with_reducible rfl
    try simp only [Act.put, List.getElem_toArray, List.getElem_cons_succ, List.getElem_cons_zero, List.setIfInBounds_toArray, List.set_cons_zero, List.set_cons_succ]
    refine wpAnyH_take (i := 9) (v := ?_) rfl (by kernel_rfl) (by kernel_rfl) (by kernel_rfl) (fun _ _ _ h => h) (Or.inl ⟨by rfl, ?_⟩) (by assumption) ?_
    rotate_left
    · intro w hSw
      try dsimp only at hSw
      go_simp
      all_goals with_reducible rfl
    try simp only [Act.put, List.getElem_toArray, List.getElem_cons_succ, List.getElem_cons_zero, List.setIfInBounds_toArray, List.set_cons_zero, List.set_cons_succ]
    refine wpAnyH_take (i := 10) (v := ?_) rfl (by kernel_rfl) (by kernel_rfl) (by kernel_rfl) (fun _ _ _ h => h) (Or.inl ⟨by rfl, ?_⟩) (by assumption) ?_
    rotate_left
    · intro w hSw
      try dsimp only at hSw
      go_simp
      all_goals with_reducible rfl
    try simp only [Act.put, List.getElem_toArray, List.getElem_cons_succ, List.getElem_cons_zero, List.setIfInBounds_toArray, List.set_cons_zero, List.set_cons_succ]
    refine wpAnyH_ready (rs := [3]) (by kernel_rfl) (by simp) ?_
    refine AllReadyH.cons rfl (fun K hK => ?_) AllReadyH.nil
    go_simp
    go_at_call 19
    refine (HC1.out _ HBX).mono ?_
    rintro e w11 ⟨rfl, hb_w11⟩
    refine hK.out _ _ ?_ (fun hHeld2 => ?_)
    · exact hb_w11
    clear hK K hHeld
    have hHeld := hHeld2
    clear hHeld2
    try simp only [Act.put, List.getElem_toArray, List.getElem_cons_succ, List.getElem_cons_zero, List.setIfInBounds_toArray, List.set_cons_zero, List.set_cons_succ]
    refine wpAnyH_ready (rs := [7]) (by kernel_rfl) (by simp) ?_
    refine AllReadyH.cons rfl (fun K hK => ?_) AllReadyH.nil
    go_simp
    go_at_call 19
    refine (HC2.out _ hb_w11).mono ?_
    rintro e w12 ⟨rfl, hb_w12⟩
    refine hK.out _ _ ?_ (fun hHeld2 => ?_)
    · exact hb_w12
    clear hK K hHeld
    have hHeld := hHeld2
    clear hHeld2
    try simp only [Act.put, List.getElem_toArray, List.getElem_cons_succ, List.getElem_cons_zero, List.setIfInBounds_toArray, List.set_cons_zero, List.set_cons_succ]
    refine wpAnyH_ready (rs := [11]) (by kernel_rfl) (by simp) ?_
    refine AllReadyH.cons rfl (fun K hK => ?_) AllReadyH.nil
    go_simp
    go_at_call 19
    refine (HC3.out _ hb_w12).mono ?_
    rintro e w13 ⟨rfl, hb_w13⟩
    refine hK.out _ _ ?_ (fun hHeld2 => ?_)
    · exact hb_w13
    clear hK K hHeld
    have hHeld := hHeld2
    clear hHeld2
    try simp only [Act.put, List.getElem_toArray, List.getElem_cons_succ, List.getElem_cons_zero, List.setIfInBounds_toArray, List.set_cons_zero, List.set_cons_succ]
    refine wpAnyH_ready (rs := [12]) (by kernel_rfl) (by simp) ?_
    refine AllReadyH.cons rfl (fun K hK => ?_) AllReadyH.nil
    go_simp
    go_at_call 32
    refine (HC4.out _ hb_w13).mono ?_
    rintro e w14 ⟨rfl, hb_w14⟩
    refine hK.out _ _ ?_ (fun hHeld2 => ?_)
    · exact hb_w14
    clear hK K hHeld
    have hHeld := hHeld2
    clear hHeld2
    try simp only [Act.put, List.getElem_toArray, List.getElem_cons_succ, List.getElem_cons_zero, List.setIfInBounds_toArray, List.set_cons_zero, List.set_cons_succ]
    refine wpAnyH_take (i := 13) (v := ?_) rfl (by kernel_rfl) (by kernel_rfl) (by kernel_rfl) (fun _ _ _ h => h) (Or.inl ⟨by rfl, ?_⟩) (by assumption) ?_
    rotate_left
    · intro w hSw
      try dsimp only at hSw
      go_simp
      all_goals with_reducible rfl
    try simp only [Act.put, List.getElem_toArray, List.getElem_cons_succ, List.getElem_cons_zero, List.setIfInBounds_toArray, List.set_cons_zero, List.set_cons_succ]
    refine wpAnyH_take (i := 14) (v := ?_) rfl (by kernel_rfl) (by kernel_rfl) (by kernel_rfl) (fun _ _ _ h => h) (Or.inl ⟨by rfl, ?_⟩) (by assumption) ?_
    rotate_left
    · intro w hSw
      try dsimp only at hSw
      go_simp
      all_goals with_reducible rfl
    try simp only [Act.put, List.getElem_toArray, List.getElem_cons_succ, List.getElem_cons_zero, List.setIfInBounds_toArray, List.set_cons_zero, List.set_cons_succ]
    refine wpAnyH_take (i := 15) (v := ?_) rfl (by kernel_rfl) (by kernel_rfl) (by kernel_rfl) (fun _ _ _ h => h) (Or.inl ⟨by rfl, ?_⟩) (by assumption) ?_
    rotate_left
    · intro w hSw
      try dsimp only at hSw
      go_simp
      all_goals with_reducible rfl
    try simp only [Act.put, List.getElem_toArray, List.getElem_cons_succ, List.getElem_cons_zero, List.setIfInBounds_toArray, List.set_cons_zero, List.set_cons_succ]
    refine wpAnyH_done (by kernel_rfl) ?_ _
    go_wp2_with fail
    go_ret
    exact ⟨rfl, HB10.out.trans (hb_w14.mono HB10.out.size)⟩
end Go.Proofs.YtolhjkbfinlfcaaDoor
