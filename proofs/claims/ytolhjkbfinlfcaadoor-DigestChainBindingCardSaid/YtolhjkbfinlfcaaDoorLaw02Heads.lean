/- The law of chapter 2: heads; DigestChainBinding returns true. Conditions: the table holds its words; arguments that can be read. -/
import Derived.Test.YtolhjkbfinlfcaaDoorLaw02Way
namespace Go.Proofs.YtolhjkbfinlfcaaDoor
open Go Go.RowKit
theorem headsL_small (F : Nat → ByteArray) (hF : ∀ i, (F i).size ≤ 60) : ∀ (n : Nat) (x : ByteArray), x ∈ headsL F n → x.size ≤ 4000
  | 0, x, h => by simp [headsL] at h
  | n + 1, x, h => by
    have hp := hF n
    have hz := headF_size F n
    rw [headsL] at h
    rcases List.mem_cons.1 h with h | h
    · rw [h, ByteArray.size_append, ByteArray.size_append]
      show 1 + _ + _ ≤ 4000
      omega
    · exact headsL_small F hF n x h
theorem make_zero (W : World) : ∃ o : Obj, (Instr.makeSlice 46 (.int .i64 32) (.int .i64 32)).run Tryd.prog W = .ok (.slice (some ⟨W.heap.size, 0, none⟩) 32 32) (W.alloc o) ∧
    (convert 46 9 (.slice (some ⟨W.heap.size, 0, none⟩) 32 32)).run Tryd.prog (W.alloc o) = .ok (.string zero32) (W.alloc o) := by
  obtain ⟨i0, hi, hz0, hz1, hz2⟩ := infoU8
  have h := run_make (P := Tryd.prog) W 46 5 i0 (.int .u8 0) Tryd.underlying46 hi hz0 .i64 .i64 32 32 (by decide) (by decide) (by rw [hz2]; decide) (by decide)
  have e : ∀ n : Nat, madeCells (Value.int .u8 0).cells (n * 1) = ((List.range n).map fun _ => Value.int .u8 0).toArray := fun n => by
    apply Array.toList_inj.1
    rw [made_one _ rfl]
    apply List.ext_getElem <;> simp
  rw [hz1, e] at h
  refine ⟨_, h, ?_⟩
  have hb : UBox .u8 (W.alloc (.cells ((List.range 32).map fun _ => Value.int .u8 0).toArray 5)) W.heap.size 32 (fun _ => 0) := UBox.new W _ _ _ (by simp) (fun i hi => by simp [hi])
  exact u8_string hb (fun _ => by decide) 46 Tryd.underlying46 Tryd.underlying5 9 Tryd.underlying9
set_option maxRecDepth 100000 in
set_option maxHeartbeats 4000000 in
theorem heads_any (p : Option Addr) (n c : Nat) (F : Nat → ByteArray) (w : World) (hn : n ≤ 1000) (hF : ∀ i, (F i).size ≤ 60) (hp : ReadsS w p n F) (hT : RoundOk w) :
    Calls Tryd.prog 38 #[.slice p n c] w fun e w' => WayRet (headsL F n, headF F n) w.heap.size e w' ∧ Below w.heap.size w w' := by
  obtain ⟨i0, hi0, hz0, hz1, hz2⟩ := infoStr
  have z3 : (⟨#[2]⟩ : ByteArray).size = 1 := rfl
  have HT := Lib.hid hT
  have HP := Lib.hid hp
  have HF := Lib.hid hF
  obtain ⟨o9, hmk, hcv⟩ := make_zero w
  have hal := (Below.refl w.heap.size w).alloc (Nat.le_refl _) o9
  have HZF : Hid (zero32 = headF F 0) := Lib.hid rfl
  obtain ⟨z32, hz32⟩ : ∃ z, zero32 = z := ⟨_, rfl⟩
  rw [hz32] at hcv HZF
  have HAL := Lib.hid hal
  clear hT hp hF hz32 hal
  go_enter Tryd.func38, Tryd.ntmps38
  go_wp2_with fail
  clear hmk hcv
  go_loopw [4, 5, 6] (fun v4 v5 v6 wr => ∃ k : Nat, v4 = .string (headF F k) ∧ v6 = .int .i64 (k : Nat) ∧ k ≤ n ∧ wr.ownsRow w.heap.size 9 1 v5 (headsL F k).length ((headsL F k).map strV) ∧ Below w.heap.size w wr) (fun _ _ v6 _ => n - (intOf v6).toNat)
  case atStart => exact ⟨0, by rw [← HZF.out], rfl, by omega, World.ownsRow_nil _ _ _ _, HAL.out⟩
  case round =>
    obtain ⟨k, rfl, rfl, hk, hown, hB⟩ := hrel
    obtain ⟨pl, cl, rfl, hcl, hrd⟩ := own_readsS hown
    by_cases hlt : k < n
    · obtain ⟨b, o, rfl, hc⟩ := HP.out k hlt
      have c1 := (hB.cell (p := ⟨b, o + k, none⟩) (cell_lt' (hc k hlt))).trans (hc k hlt)
      have v0 : (0 : Int) ≤ (k : Int) := by omega
      have v1 : (k : Int) < (n : Int) := by omega
      have hx9 := HF.out k
      have hh9 := headF_size F k
      have hs1 : headF F (k + 1) = chainS (headF F k) (F k) := rfl
      have hs2 : headsL F (k + 1) = (⟨#[2]⟩ ++ headF F k ++ F k) :: headsL F k := rfl
      have hln : (headsL F k).length ≤ 1000 := by rw [headsL_length]; omega
      obtain ⟨x, hx⟩ : ∃ x, F k = x := ⟨_, rfl⟩
      obtain ⟨h, hh⟩ : ∃ x, headF F k = x := ⟨_, rfl⟩
      obtain ⟨L, hL⟩ : ∃ x, headsL F k = x := ⟨_, rfl⟩
      rw [hx] at c1 hx9 hs1 hs2
      rw [hh] at hh9 hs1 hs2 ⊢
      rw [hL] at hs2 hown hrd hln ⊢
      have HS1 := Lib.hid hs1
      have HS2 := Lib.hid hs2
      have HRD := Lib.hid hrd
      have hw := hB.size
      have HN := Lib.hid (fun W (hb : Below w.heap.size w W) => chain_any h x W (by omega) (by omega) (HT.out.below hb))
      have HZ9 : Hid (h.size = 32 ∧ x.size ≤ 60) := Lib.hid ⟨hh9, hx9⟩
      have q1 : (⟨#[2]⟩ ++ h : ByteArray).size ≤ 100 := by rw [ByteArray.size_append]; omega
      have q2 : ¬ 9223372036854775807 < 1 + h.size := by omega
      have q3 : ¬ 9223372036854775807 < (⟨#[2]⟩ ++ h : ByteArray).size + x.size := by omega
      clear hx hh hL hs1 hs2 hown hrd hc
      obtain ⟨Y, hY⟩ : ∃ y, (⟨#[2]⟩ ++ h ++ x : ByteArray) = y := ⟨_, rfl⟩
      have P1 : Hid (Below wr.heap.size wr (wr.alloc (.cells #[.string Y] 9))) := Lib.hid ((Below.refl _ _).alloc (Nat.le_refl _) _)
      go_wp2_with (at_builtin; refine wpList_append_reads (by rfl) (.tmp 22) (.tmp 23) 22 (by rfl) w.heap.size 9 i0 (.string ⟨#[]⟩) Tryd.underlying22 hi0 hz0 hz1 hz2 rfl (.slice (some ⟨wr.heap.size, 0, none⟩) 1 1) 1 [.string Y] (by rfl) (World.ownsRow_lit wr #[.string Y] 1 hw (by decide) rfl) pl L.length cl (getS L) (by rfl) (HRD.out.below P1.out) (by decide) (by omega) (Nat.le_trans hw P1.out.size) ?_; intro v5 w5 hown5 hgrow5; have hB5 := P1.out.grown hgrow5 (by first | omega | (simp <;> omega)) (fun q ej => by cases ej; first | exact Nat.le_refl _ | (simp <;> omega)); have hw5 := hB5.size; have hc5 := (hB5.cell (p := ⟨b, o + k, none⟩) (cell_lt' c1)).trans c1)
      refine (HN.out w5 (hB.trans (hB5.mono hw))).mono ?_
      rintro e w6 ⟨rfl, hb6⟩
      have HO6 := Lib.hid (own_below hown5 hb6)
      have HB6 := Lib.hid (hB.trans ((hB5.trans (hb6.mono hw5)).mono hw))
      have HY := Lib.hid hY
      clear hown5 hgrow5 hB5 hb6 hY
      go_wp2_with fail
      refine ⟨⟨k + 1, by rw [HS1.out], by go_num, by omega, ?_, HB6.out⟩, by simp [intOf]; omega⟩
      rw [HS2.out, HY.out]
      have h1 := HO6.out
      rw [newsS_eq, Nat.add_comm] at h1
      exact h1
    · obtain rfl : n = k := by omega
      have HO := Lib.hid hown
      have HBo := Lib.hid hB
      clear hown hB hrd hcl
      go_wp2_with fail
      go_ret2
      exact ⟨⟨_, rfl, HO.out⟩, HBo.out⟩
theorem heads_same {n : Nat} {F G : Nat → ByteArray} : ∀ k, k ≤ n → (∀ i, i < n → F i = G i) → headF F k = headF G k
  | 0, _, _ => rfl
  | k + 1, hk, h => by
    show chainS (headF F k) (F k) = chainS (headF G k) (G k)
    rw [heads_same k (by omega) h, h k (by omega)]
theorem zero_conv {W : World} {B n : Nat} (hc : ∀ j, j < n → W.cell? ⟨B, j, none⟩ = some (.int .u8 0)) : (convert 46 9 (.slice (some ⟨B, 0, none⟩) n n)).run Tryd.prog W = .ok (.string ⟨(List.replicate n 0).toArray⟩) W := by
  have hr := run_convert_bytes_back (P := Tryd.prog) W 46 9 5 ⟨B, 0, none⟩ n (List.replicate n 0) Tryd.underlying46 Tryd.underlying5 Tryd.underlying9 (fun j hj => by
    have hj' : j < n := by simpa using hj
    rw [addr_add, Nat.zero_add, hc j hj']
    simp)
  simpa using hr
theorem make_zero2 (W : World) : ∃ o : Obj, (Instr.makeSlice 46 (.int .i64 32) (.int .i64 32)).run Tryd.prog W = .ok (.slice (some ⟨W.heap.size, 0, none⟩) 32 32) (W.alloc o) ∧
    ∀ W', Below (W.alloc o).heap.size (W.alloc o) W' → (convert 46 9 (.slice (some ⟨W.heap.size, 0, none⟩) 32 32)).run Tryd.prog W' = .ok (.string zero32) W' := by
  obtain ⟨i0, hi, hz0, hz1, hz2⟩ := infoU8
  have h := run_make (P := Tryd.prog) W 46 5 i0 (.int .u8 0) Tryd.underlying46 hi hz0 .i64 .i64 32 32 (by decide) (by decide) (by rw [hz2]; decide) (by decide)
  have e : ∀ n : Nat, madeCells (Value.int .u8 0).cells (n * 1) = ((List.range n).map fun _ => Value.int .u8 0).toArray := fun n => by
    apply Array.toList_inj.1
    rw [made_one _ rfl]
    apply List.ext_getElem <;> simp
  rw [hz1, e] at h
  refine ⟨_, h, fun W' hb => ?_⟩
  have hu : UBox .u8 (W.alloc (.cells ((List.range 32).map fun _ => Value.int .u8 0).toArray 5)) W.heap.size 32 (fun _ => 0) := UBox.new W _ _ _ (by simp) (fun i hi => by simp [hi])
  refine zero_conv (n := 32) fun j hj => ?_
  have h1 := hu.cell j hj
  exact (hb.cell (p := ⟨W.heap.size, j, none⟩) (cell_lt' h1)).trans h1
set_option maxRecDepth 100000 in
set_option maxHeartbeats 4000000 in
theorem chainBinding_any (p : Option Addr) (k1 c1 : Nat) (P : Nat → ByteArray) (q : Option Addr) (k2 c2 : Nat) (Q : Nat → ByteArray) (w : World) (hk1 : k1 ≤ 9223372036854775807) (hk2 : k2 ≤ 9223372036854775807) (hp : ReadsS w p k1 P) (hq : ReadsS w q k2 Q) (hT : RoundOk w) :
    Calls Tryd.prog 11 #[.slice p k1 c1, .slice q k2 c2] w fun e w' => e = .returned (.bool true) ∧ Below w.heap.size w w' := by
  have HT := Lib.hid hT
  have HLP := Lib.hid hp
  have HLQ := Lib.hid hq
  clear hp hq hT
  go_enter Tryd.func11, Tryd.ntmps11
  go_wp2_with fail
  have HB0 := Lib.hid (Below.refl w.heap.size w)
  have HC := Lib.hid (sane_any w (HT.out.below HB0.out))
  refine HC.out.mono ?_
  rintro e w1 ⟨rfl, hb1⟩
  have HB1 := Lib.hid (HB0.out.trans (hb1.mono HB0.out.size))
  have HLP_1 := Lib.hid (HLP.out.below hb1)
  have HLQ_1 := Lib.hid (HLQ.out.below hb1)
  clear hb1 HC HB0 HLP HLQ
  go_wp2_with fail
  have HC := Lib.hid (few_any p k1 c1 20 P w1 (by decide) hk1 HLP_1.out)
  refine HC.out.mono ?_
  rintro e w2 ⟨⟨p1, m1, d1, G, rfl, hm1, hd1, hrd, hG⟩, hb2⟩
  have HB2 := Lib.hid (HB1.out.trans (hb2.mono HB1.out.size))
  have HLP_2 := Lib.hid (HLP_1.out.below hb2)
  have HLQ_2 := Lib.hid (HLQ_1.out.below hb2)
  have HG_2 := Lib.hid hrd
  have HGS := Lib.hid hG
  clear hb2 HC HB1 HLP_1 HLQ_1 hrd hG
  go_wp2_with fail
  have HC := Lib.hid (few_any q k2 c2 20 Q w2 (by decide) hk2 HLQ_2.out)
  refine HC.out.mono ?_
  rintro e w3 ⟨⟨p2, m2, d2, H, rfl, hm2, hd2, hrd, hH⟩, hb3⟩
  have HB3 := Lib.hid (HB2.out.trans (hb3.mono HB2.out.size))
  have HLP_3 := Lib.hid (HLP_2.out.below hb3)
  have HLQ_3 := Lib.hid (HLQ_2.out.below hb3)
  have HG_3 := Lib.hid (HG_2.out.below hb3)
  have HH_3 := Lib.hid hrd
  have HHS := Lib.hid hH
  clear hb3 HC HB2 HLP_2 HLQ_2 HG_2 hrd hH
  have HBD := Lib.hid (heads_bind G H m1 m2)
  have HSM : Hid (SameL m1 m2 G H → headF G m1 = headF H m2) := Lib.hid (fun h => by
    obtain ⟨rfl, h2⟩ := h
    exact heads_same m1 (Nat.le_refl _) h2)
  have HZ1 := Lib.hid (fun i => getS_le (headsL_small G HGS.out m1) i)
  have HZ2 := Lib.hid (fun i => getS_le (headsL_small H HHS.out m2) i)
  have hq1 := headF_size G m1
  have hq2 := headF_size H m2
  have hl1 := headsL_length G m1
  have hl2 := headsL_length H m2
  have HA1 := Lib.hid (fun W (hb : Below w.heap.size w W) (hr : ReadsS W p1 m1 G) => heads_any p1 m1 d1 G W (by omega) HGS.out hr (HT.out.below hb))
  have HA2 := Lib.hid (fun W (hb : Below w.heap.size w W) (hr : ReadsS W p2 m2 H) => heads_any p2 m2 d2 H W (by omega) HHS.out hr (HT.out.below hb))
  obtain ⟨L1, hL1⟩ : ∃ L, headsL G m1 = L := ⟨_, rfl⟩
  obtain ⟨L2, hL2⟩ : ∃ L, headsL H m2 = L := ⟨_, rfl⟩
  obtain ⟨h1, hh1⟩ : ∃ L, headF G m1 = L := ⟨_, rfl⟩
  obtain ⟨h2, hh2⟩ : ∃ L, headF H m2 = L := ⟨_, rfl⟩
  rw [hL1] at HZ1 HA1 HBD hl1
  rw [hL2] at HZ2 HA2 HBD hl2
  rw [hh1] at HA1 HBD HSM hq1
  rw [hh2] at HA2 HBD HSM hq2
  have z1 : (h1.size : Int) = 32 := by omega
  have HN1 := Lib.hid hl1
  have HN2 := Lib.hid hl2
  clear hL1 hL2 hh1 hh2 hl1 hl2
  go_wp2_with fail
  refine (HA1.out w3 HB3.out HG_3.out).mono ?_
  rintro e w4 ⟨⟨u1, rfl, ho1⟩, hb4⟩
  obtain ⟨a1, b1, rfl, _, hrd1⟩ := own_readsS ho1
  rw [HN1.out] at hrd1 ⊢
  have HB4 := Lib.hid (HB3.out.trans (hb4.mono HB3.out.size))
  have HG_4 := Lib.hid (HG_3.out.below hb4)
  have HH_4 := Lib.hid (HH_3.out.below hb4)
  have HR1 := Lib.hid hrd1
  clear ho1 hrd1 hb4
  go_wp2_with fail
  refine (HA2.out w4 HB4.out HH_4.out).mono ?_
  rintro e w5 ⟨⟨u2, rfl, ho2⟩, hb5⟩
  obtain ⟨a2, b2, rfl, _, hrd2⟩ := own_readsS ho2
  rw [HN2.out] at hrd2 ⊢
  have HB5 := Lib.hid (HB4.out.trans (hb5.mono HB4.out.size))
  have HG_5 := Lib.hid (HG_4.out.below hb5)
  have HH_5 := Lib.hid (HH_4.out.below hb5)
  have HR1_5 := Lib.hid (HR1.out.below hb5)
  have HR2 := Lib.hid hrd2
  clear ho2 hrd2 hb5 HA1 HA2
  go_wp2_with fail
  have HSS := Lib.hid (sameS_any p1 p2 m1 m2 d1 d2 G H w5 (by omega) (by omega) HG_5.out HH_5.out)
  refine HSS.out.mono ?_
  rintro e w6 ⟨rfl, hb6⟩
  have HB6 := Lib.hid (HB5.out.trans (hb6.mono HB5.out.size))
  have HR1_6 := Lib.hid (HR1_5.out.below hb6)
  have HR2_6 := Lib.hid (HR2.out.below hb6)
  clear hb6 HSS
  by_cases hsame : SameL m1 m2 G H
  · rw [decide_eq_true hsame]
    have he := HSM.out hsame
    subst he
    clear hsame
    go_wp2_with fail
    go_ret
    exact ⟨rfl, HB6.out⟩
  · rw [decide_eq_false hsame]
    by_cases he : h1 = h2
    · subst he
      have HOR := Lib.hid ((HBD.out rfl).resolve_left hsame)
      have HCA := Lib.hid (fun W (hb : Below w6.heap.size w6 W) => collide_any a1 a2 m1 m2 b1 b2 (getS L1) (getS L2) W (by omega) (by omega) HZ1.out HZ2.out (HR1_6.out.below hb) (HR2_6.out.below hb) (HT.out.below (HB6.out.trans (hb.mono HB6.out.size))))
      have HCO : Hid (Coll L1 L2 → collB m1 m2 (getS L1) (getS L2) = true) := Lib.hid (fun h => by
        have := collB_true (CollF.of h)
        rw [HN1.out, HN2.out] at this
        exact this)
      obtain ⟨cb, hcb⟩ : ∃ cb, collB m1 m2 (getS L1) (getS L2) = cb := ⟨_, rfl⟩
      rw [hcb] at HCA HCO
      clear hcb hsame
      by_cases hmm : m1 = m2
      · subst hmm
        have hcb : cb = true := by
          rcases HOR.out with h | ⟨h, _⟩
          · exact HCO.out h
          · exact absurd rfl h
        subst hcb
        go_wp2_with fail
        go_quiet (fail)
        go_wp2_with fail
        have hbq := Below_dn (Below.refl w6.heap.size w6) nq
        refine (HCA.out _ hbq).mono ?_
        rintro e w9 ⟨rfl, hb9⟩
        go_wp2_with fail
        go_ret
        exact ⟨rfl, HB6.out.trans ((hbq.trans (hb9.mono hbq.size)).mono HB6.out.size)⟩
      · by_cases hlt : m1 < m2
        · have v1 : (m1 : Int) < (m2 : Int) := by omega
          have v2 : ¬ (m1 : Int) = (m2 : Int) := by omega
          have v3 : ((m1 : Int) != (m2 : Int)) = true := by simp; omega
          have v4 : min (m1 : Int) (m2 : Int) = (m1 : Int) := by omega
          have v5 : (if (m2 : Int) < (m1 : Int) then (m2 : Int) else (m1 : Int)) = (m1 : Int) := by split <;> omega
          have v6 : (if m2 < m1 then (m2 : Int) else (m1 : Int)) = (m1 : Int) := by split <;> omega
          have v7 : (0 : Int) ≤ (m1 : Int) := by omega
          have v8 : (m1 : Int) < (m2 : Int) := by omega
          obtain ⟨b, o, rfl, hcl⟩ := HR2_6.out m1 (by omega)
          have c9 := hcl m1 (by omega)
          have hx9 := HZ2.out m1
          obtain ⟨x, hx⟩ : ∃ x, getS L2 m1 = x := ⟨_, rfl⟩
          rw [hx] at c9 hx9
          have HXE := Lib.hid hx
          have HSU := Lib.hid (fun W (hb : Below w6.heap.size w6 W) => dsum_s x W (by omega) (HT.out.below (HB6.out.trans (hb.mono HB6.out.size))))
          obtain ⟨dx, hdx⟩ : ∃ d, dS x = d := ⟨_, rfl⟩
          simp only [hdx] at HSU
          have HDX := Lib.hid hdx
          have HZB : Hid (cb = false → dx = zero32) := Lib.hid (fun hc => by
                      rcases HOR.out with h | ⟨_, h⟩
                      · have := HCO.out h
                        rw [hc] at this
                        cases this
                      · rw [if_pos hlt, show min m1 m2 = m1 by omega, HXE.out, HDX.out] at h
                        exact h)
          have HBX := (Below.refl w6.heap.size w6).drew
          clear hcl hx hdx
          go_wp2_with fail
          refine wp_region_held_drew (S := fun W => W.cell? ⟨b, o + m1, none⟩ = some (.string x)) (by kernel_rfl) ?_ (fun hHeld => ?_)
          · exact c9
          refine wpAnyH_take (i := 0) (v := ?_) rfl (by kernel_rfl) (by kernel_rfl) (by kernel_rfl) (fun _ _ _ h => h) (Or.inl ⟨by rfl, ?_⟩) (by assumption) ?_
          rotate_left
          · intro w hSw
            try dsimp only at hSw
            go_simp
            all_goals with_reducible rfl
          try simp only [Act.put, List.getElem_toArray, List.getElem_cons_zero, List.setIfInBounds_toArray, List.set_cons_zero, List.set_cons_succ]
          refine wpAnyH_take (i := 1) (v := ?_) rfl (by kernel_rfl) (by kernel_rfl) (by kernel_rfl) (fun _ _ _ h => h) (Or.inl ⟨by rfl, ?_⟩) (by assumption) ?_
          rotate_left
          · intro w hSw
            try dsimp only at hSw
            go_simp
            all_goals with_reducible rfl
          try simp only [Act.put, List.getElem_toArray, List.getElem_cons_succ, List.getElem_cons_zero, List.setIfInBounds_toArray, List.set_cons_zero, List.set_cons_succ]
          refine wpAnyH_take (i := 2) (v := ?_) rfl (by kernel_rfl) (by kernel_rfl) (by kernel_rfl) (fun _ _ _ h => h) (Or.inl ⟨by rfl, ?_⟩) (by assumption) ?_
          rotate_left
          · intro w hSw
            try dsimp only at hSw
            go_simp
            all_goals with_reducible rfl
          try simp only [Act.put, List.getElem_toArray, List.getElem_cons_succ, List.getElem_cons_zero, List.setIfInBounds_toArray, List.set_cons_zero, List.set_cons_succ]
          refine wpAnyH_take (i := 3) (v := ?_) rfl (by kernel_rfl) (by kernel_rfl) (by kernel_rfl) (fun _ _ _ h => h) (Or.inl ⟨by rfl, ?_⟩) (by assumption) ?_
          rotate_left
          · intro w hSw
            try dsimp only at hSw
            go_simp
            all_goals with_reducible rfl
          try simp only [Act.put, List.getElem_toArray, List.getElem_cons_succ, List.getElem_cons_zero, List.setIfInBounds_toArray, List.set_cons_zero, List.set_cons_succ]
          refine wpAnyH_take (i := 4) (v := ?_) rfl (by kernel_rfl) (by kernel_rfl) (by kernel_rfl) (fun _ _ _ h => h) (Or.inl ⟨by rfl, ?_⟩) (by assumption) ?_
          rotate_left
          · intro w hSw
            try dsimp only at hSw
            go_simp
            all_goals with_reducible rfl
          try simp only [Act.put, List.getElem_toArray, List.getElem_cons_succ, List.getElem_cons_zero, List.setIfInBounds_toArray, List.set_cons_zero, List.set_cons_succ]
          refine wpAnyH_take (i := 5) (v := ?_) rfl (by kernel_rfl) (by kernel_rfl) (by kernel_rfl) (fun _ _ _ h => h) (Or.inl ⟨by rfl, ?_⟩) (by assumption) ?_
          rotate_left
          · intro w hSw
            try dsimp only at hSw
            go_simp
            all_goals with_reducible rfl
          try simp only [Act.put, List.getElem_toArray, List.getElem_cons_succ, List.getElem_cons_zero, List.setIfInBounds_toArray, List.set_cons_zero, List.set_cons_succ]
          refine wpAnyH_take (i := 6) (v := ?_) rfl (by kernel_rfl) (by kernel_rfl) (by kernel_rfl) (fun _ _ _ h => h) (Or.inl ⟨by rfl, ?_⟩) (by assumption) ?_
          rotate_left
          · intro w hSw
            try dsimp only at hSw
            go_simp
            all_goals with_reducible rfl
          try simp only [Act.put, List.getElem_toArray, List.getElem_cons_succ, List.getElem_cons_zero, List.setIfInBounds_toArray, List.set_cons_zero, List.set_cons_succ]
          refine wpAnyH_take (i := 7) (v := ?_) rfl (by kernel_rfl) (by kernel_rfl) (by kernel_rfl) (fun _ _ _ h => h) (Or.inl ⟨by rfl, ?_⟩) (by assumption) ?_
          rotate_left
          · intro w hSw
            try dsimp only at hSw
            go_simp
            all_goals with_reducible rfl
          try simp only [Act.put, List.getElem_toArray, List.getElem_cons_succ, List.getElem_cons_zero, List.setIfInBounds_toArray, List.set_cons_zero, List.set_cons_succ]
          refine wpAnyH_take (i := 8) (v := ?_) rfl (by kernel_rfl) (by kernel_rfl) (by kernel_rfl) (fun _ _ _ h => h) (Or.inl ⟨by rfl, ?_⟩) (by assumption) ?_
          rotate_left
          · intro w hSw
            try dsimp only at hSw
            go_simp
            all_goals with_reducible rfl
          try simp only [Act.put, List.getElem_toArray, List.getElem_cons_succ, List.getElem_cons_zero, List.setIfInBounds_toArray, List.set_cons_zero, List.set_cons_succ]
          refine wpAnyH_take (i := 9) (v := ?_) rfl (by kernel_rfl) (by kernel_rfl) (by kernel_rfl) (fun _ _ _ h => h) (Or.inl ⟨by rfl, ?_⟩) (by assumption) ?_
          rotate_left
          · intro w hSw
            try dsimp only at hSw
            go_simp
            all_goals with_reducible rfl
          try simp only [Act.put, List.getElem_toArray, List.getElem_cons_succ, List.getElem_cons_zero, List.setIfInBounds_toArray, List.set_cons_zero, List.set_cons_succ]
          refine wpAnyH_take (i := 10) (v := ?_) rfl (by kernel_rfl) (by kernel_rfl) (by kernel_rfl) (fun _ _ _ h => h) (Or.inl ⟨by rfl, ?_⟩) (by assumption) ?_
          rotate_left
          · intro w hSw
            try dsimp only at hSw
            go_simp
            all_goals with_reducible rfl
          try simp only [Act.put, List.getElem_toArray, List.getElem_cons_succ, List.getElem_cons_zero, List.setIfInBounds_toArray, List.set_cons_zero, List.set_cons_succ]
          refine wpAnyH_take (i := 11) (v := ?_) rfl (by kernel_rfl) (by kernel_rfl) (by kernel_rfl) (fun _ _ _ h => h) (Or.inl ⟨by rfl, ?_⟩) (by assumption) ?_
          rotate_left
          · intro w hSw
            try dsimp only at hSw
            go_simp
            all_goals with_reducible rfl
          try simp only [Act.put, List.getElem_toArray, List.getElem_cons_succ, List.getElem_cons_zero, List.setIfInBounds_toArray, List.set_cons_zero, List.set_cons_succ]
          refine wpAnyH_take (i := 12) (v := ?_) rfl (by kernel_rfl) (by kernel_rfl) (by kernel_rfl) (fun _ _ _ h => h) (Or.inl ⟨by rfl, ?_⟩) (by assumption) ?_
          rotate_left
          · intro w hSw
            try dsimp only at hSw
            go_simp
            all_goals with_reducible rfl
          try simp only [Act.put, List.getElem_toArray, List.getElem_cons_succ, List.getElem_cons_zero, List.setIfInBounds_toArray, List.set_cons_zero, List.set_cons_succ]
          refine wpAnyH_take (i := 13) (v := ?_) rfl (by kernel_rfl) (by kernel_rfl) (by kernel_rfl) (fun _ _ _ h => h) (Or.inl ⟨by rfl, ?_⟩) (by assumption) ?_
          rotate_left
          · intro w hSw
            try dsimp only at hSw
            go_simp
            all_goals with_reducible rfl
          try simp only [Act.put, List.getElem_toArray, List.getElem_cons_succ, List.getElem_cons_zero, List.setIfInBounds_toArray, List.set_cons_zero, List.set_cons_succ]
          refine wpAnyH_ready (rs := [14, 15]) (by kernel_rfl) (by simp) ?_
          refine AllReadyH.cons rfl (fun K hK => ?_) (AllReadyH.cons rfl (fun K hK => ?_) AllReadyH.nil)
          · go_simp
            go_at_call 30
            refine (HSU.out _ HBX).mono ?_
            rintro e w11 ⟨rfl, hr_w11⟩
            have hb_w11 := HBX.trans (hr_w11.mono HBX.size)
            refine hK.out _ _ ?_ (fun hHeld2 => ?_)
            · exact (hb_w11.cell (p := ⟨b, o + m1, none⟩) (cell_lt' c9)).trans c9
            clear hK K hHeld
            have hHeld := hHeld2
            clear hHeld2
            try simp only [Act.put, List.getElem_toArray, List.getElem_cons_succ, List.getElem_cons_zero, List.setIfInBounds_toArray, List.set_cons_zero, List.set_cons_succ]
            obtain ⟨o9, hmk, hcv⟩ := make_zero2 w11
            have hcv1 := hcv (w11.alloc o9) (Below.refl _ _)
            have hb12 := hb_w11.alloc hb_w11.size o9
            clear hcv
            refine wpAnyH_ready (rs := [15]) (by kernel_rfl) (by simp) ?_
            refine AllReadyH.cons rfl (fun K hK => ?_) AllReadyH.nil
            go_simp
            refine hK.out _ _ ?_ (fun hHeld2 => ?_)
            · exact (hb12.cell (p := ⟨b, o + m1, none⟩) (cell_lt' c9)).trans c9
            clear hK K hHeld
            have hHeld := hHeld2
            clear hHeld2
            try simp only [Act.put, List.getElem_toArray, List.getElem_cons_succ, List.getElem_cons_zero, List.setIfInBounds_toArray, List.set_cons_zero, List.set_cons_succ]
            refine wpAnyH_ready (rs := [16]) (by kernel_rfl) (by simp) ?_
            refine AllReadyH.cons rfl (fun K hK => ?_) AllReadyH.nil
            go_simp
            refine hK.out _ _ ?_ (fun hHeld2 => ?_)
            · exact hHeld
            clear hK K hHeld
            have hHeld := hHeld2
            clear hHeld2
            try simp only [Act.put, List.getElem_toArray, List.getElem_cons_succ, List.getElem_cons_zero, List.setIfInBounds_toArray, List.set_cons_zero, List.set_cons_succ]
            clear hmk hcv1
            refine wpAnyH_take (i := 17) (v := ?_) rfl (by kernel_rfl) (by kernel_rfl) (by kernel_rfl) (fun _ _ _ h => h) (Or.inl ⟨by rfl, ?_⟩) (by assumption) ?_
            rotate_left
            · intro w hSw
              try dsimp only at hSw
              go_simp
              all_goals with_reducible rfl
            try simp only [Act.put, List.getElem_toArray, List.getElem_cons_succ, List.getElem_cons_zero, List.setIfInBounds_toArray, List.set_cons_zero, List.set_cons_succ]
            refine wpAnyH_take (i := 18) (v := ?_) rfl (by kernel_rfl) (by kernel_rfl) (by kernel_rfl) (fun _ _ _ h => h) (Or.inl ⟨by rfl, ?_⟩) (by assumption) ?_
            rotate_left
            · intro w hSw
              try dsimp only at hSw
              go_simp
              all_goals with_reducible rfl
            try simp only [Act.put, List.getElem_toArray, List.getElem_cons_succ, List.getElem_cons_zero, List.setIfInBounds_toArray, List.set_cons_zero, List.set_cons_succ]
            refine wpAnyH_take (i := 19) (v := ?_) rfl (by kernel_rfl) (by kernel_rfl) (by kernel_rfl) (fun _ _ _ h => h) (Or.inl ⟨by rfl, ?_⟩) (by assumption) ?_
            rotate_left
            · intro w hSw
              try dsimp only at hSw
              go_simp
              all_goals with_reducible rfl
            try simp only [Act.put, List.getElem_toArray, List.getElem_cons_succ, List.getElem_cons_zero, List.setIfInBounds_toArray, List.set_cons_zero, List.set_cons_succ]
            refine wpAnyH_done (by kernel_rfl) ?_ _
            cases cb with
            | true =>
              go_wp2_with fail
              refine (HCA.out _ hb12).mono ?_
              rintro e w19 ⟨rfl, hb19⟩
              go_wp2_with fail
              go_ret
              exact ⟨rfl, HB6.out.trans ((hb12.trans (hb19.mono hb12.size)).mono HB6.out.size)⟩
            | false =>
              have hzb : dx = zero32 := HZB.out rfl
              subst hzb
              go_wp2_with fail
              refine (HCA.out _ hb12).mono ?_
              rintro e w19 ⟨rfl, hb19⟩
              go_wp2_with fail
              go_ret
              exact ⟨rfl, HB6.out.trans ((hb12.trans (hb19.mono hb12.size)).mono HB6.out.size)⟩
          · obtain ⟨o9, hmk, hcv⟩ := make_zero2 w6.drew
            rw [show w6.drew.heap.size = w6.heap.size from rfl, show w6.drew.alloc o9 = (w6.alloc o9).drew from rfl] at hmk hcv
            have hb12 : Below w6.heap.size w6 (w6.alloc o9).drew := ((Below.refl _ _).alloc (Nat.le_refl _) o9).drew
            go_simp
            refine hK.out _ _ ?_ (fun hHeld2 => ?_)
            · exact (hb12.cell (p := ⟨b, o + m1, none⟩) (cell_lt' c9)).trans c9
            clear hK K hHeld
            have hHeld := hHeld2
            clear hHeld2
            try simp only [Act.put, List.getElem_toArray, List.getElem_cons_succ, List.getElem_cons_zero, List.setIfInBounds_toArray, List.set_cons_zero, List.set_cons_succ]
            clear hmk
            refine wpAnyH_ready (rs := [14, 16]) (by kernel_rfl) (by simp) ?_
            refine AllReadyH.cons rfl (fun K hK => ?_) (AllReadyH.cons rfl (fun K hK => ?_) AllReadyH.nil)
            · go_simp
              go_at_call 30
              refine (HSU.out _ hb12).mono ?_
              rintro e w13 ⟨rfl, hr_w13⟩
              have hb_w13 := hb12.trans (hr_w13.mono hb12.size)
              refine hK.out _ _ ?_ (fun hHeld2 => ?_)
              · exact (hb_w13.cell (p := ⟨b, o + m1, none⟩) (cell_lt' c9)).trans c9
              clear hK K hHeld
              have hHeld := hHeld2
              clear hHeld2
              try simp only [Act.put, List.getElem_toArray, List.getElem_cons_succ, List.getElem_cons_zero, List.setIfInBounds_toArray, List.set_cons_zero, List.set_cons_succ]
              have hcv1 := hcv w13 hr_w13
              clear hcv
              refine wpAnyH_ready (rs := [16]) (by kernel_rfl) (by simp) ?_
              refine AllReadyH.cons rfl (fun K hK => ?_) AllReadyH.nil
              go_simp
              refine hK.out _ _ ?_ (fun hHeld2 => ?_)
              · exact hHeld
              clear hK K hHeld
              have hHeld := hHeld2
              clear hHeld2
              try simp only [Act.put, List.getElem_toArray, List.getElem_cons_succ, List.getElem_cons_zero, List.setIfInBounds_toArray, List.set_cons_zero, List.set_cons_succ]
              clear hcv1
              refine wpAnyH_take (i := 17) (v := ?_) rfl (by kernel_rfl) (by kernel_rfl) (by kernel_rfl) (fun _ _ _ h => h) (Or.inl ⟨by rfl, ?_⟩) (by assumption) ?_
              rotate_left
              · intro w hSw
                try dsimp only at hSw
                go_simp
                all_goals with_reducible rfl
              try simp only [Act.put, List.getElem_toArray, List.getElem_cons_succ, List.getElem_cons_zero, List.setIfInBounds_toArray, List.set_cons_zero, List.set_cons_succ]
              refine wpAnyH_take (i := 18) (v := ?_) rfl (by kernel_rfl) (by kernel_rfl) (by kernel_rfl) (fun _ _ _ h => h) (Or.inl ⟨by rfl, ?_⟩) (by assumption) ?_
              rotate_left
              · intro w hSw
                try dsimp only at hSw
                go_simp
                all_goals with_reducible rfl
              try simp only [Act.put, List.getElem_toArray, List.getElem_cons_succ, List.getElem_cons_zero, List.setIfInBounds_toArray, List.set_cons_zero, List.set_cons_succ]
              refine wpAnyH_take (i := 19) (v := ?_) rfl (by kernel_rfl) (by kernel_rfl) (by kernel_rfl) (fun _ _ _ h => h) (Or.inl ⟨by rfl, ?_⟩) (by assumption) ?_
              rotate_left
              · intro w hSw
                try dsimp only at hSw
                go_simp
                all_goals with_reducible rfl
              try simp only [Act.put, List.getElem_toArray, List.getElem_cons_succ, List.getElem_cons_zero, List.setIfInBounds_toArray, List.set_cons_zero, List.set_cons_succ]
              refine wpAnyH_done (by kernel_rfl) ?_ _
              cases cb with
              | true =>
                go_wp2_with fail
                refine (HCA.out _ hb_w13).mono ?_
                rintro e w19 ⟨rfl, hb19⟩
                go_wp2_with fail
                go_ret
                exact ⟨rfl, HB6.out.trans ((hb_w13.trans (hb19.mono hb_w13.size)).mono HB6.out.size)⟩
              | false =>
                have hzb : dx = zero32 := HZB.out rfl
                subst hzb
                go_wp2_with fail
                refine (HCA.out _ hb_w13).mono ?_
                rintro e w19 ⟨rfl, hb19⟩
                go_wp2_with fail
                go_ret
                exact ⟨rfl, HB6.out.trans ((hb_w13.trans (hb19.mono hb_w13.size)).mono HB6.out.size)⟩
            · have hcv1 := hcv _ (Below.refl _ _)
              clear hcv
              go_simp
              refine hK.out _ _ ?_ (fun hHeld2 => ?_)
              · exact hHeld
              clear hK K hHeld
              have hHeld := hHeld2
              clear hHeld2
              try simp only [Act.put, List.getElem_toArray, List.getElem_cons_succ, List.getElem_cons_zero, List.setIfInBounds_toArray, List.set_cons_zero, List.set_cons_succ]
              clear hcv1
              refine wpAnyH_ready (rs := [14]) (by kernel_rfl) (by simp) ?_
              refine AllReadyH.cons rfl (fun K hK => ?_) AllReadyH.nil
              go_simp
              go_at_call 30
              refine (HSU.out _ hb12).mono ?_
              rintro e w13 ⟨rfl, hr_w13⟩
              have hb_w13 := hb12.trans (hr_w13.mono hb12.size)
              refine hK.out _ _ ?_ (fun hHeld2 => ?_)
              · exact (hb_w13.cell (p := ⟨b, o + m1, none⟩) (cell_lt' c9)).trans c9
              clear hK K hHeld
              have hHeld := hHeld2
              clear hHeld2
              try simp only [Act.put, List.getElem_toArray, List.getElem_cons_succ, List.getElem_cons_zero, List.setIfInBounds_toArray, List.set_cons_zero, List.set_cons_succ]
              refine wpAnyH_take (i := 17) (v := ?_) rfl (by kernel_rfl) (by kernel_rfl) (by kernel_rfl) (fun _ _ _ h => h) (Or.inl ⟨by rfl, ?_⟩) (by assumption) ?_
              rotate_left
              · intro w hSw
                try dsimp only at hSw
                go_simp
                all_goals with_reducible rfl
              try simp only [Act.put, List.getElem_toArray, List.getElem_cons_succ, List.getElem_cons_zero, List.setIfInBounds_toArray, List.set_cons_zero, List.set_cons_succ]
              refine wpAnyH_take (i := 18) (v := ?_) rfl (by kernel_rfl) (by kernel_rfl) (by kernel_rfl) (fun _ _ _ h => h) (Or.inl ⟨by rfl, ?_⟩) (by assumption) ?_
              rotate_left
              · intro w hSw
                try dsimp only at hSw
                go_simp
                all_goals with_reducible rfl
              try simp only [Act.put, List.getElem_toArray, List.getElem_cons_succ, List.getElem_cons_zero, List.setIfInBounds_toArray, List.set_cons_zero, List.set_cons_succ]
              refine wpAnyH_take (i := 19) (v := ?_) rfl (by kernel_rfl) (by kernel_rfl) (by kernel_rfl) (fun _ _ _ h => h) (Or.inl ⟨by rfl, ?_⟩) (by assumption) ?_
              rotate_left
              · intro w hSw
                try dsimp only at hSw
                go_simp
                all_goals with_reducible rfl
              try simp only [Act.put, List.getElem_toArray, List.getElem_cons_succ, List.getElem_cons_zero, List.setIfInBounds_toArray, List.set_cons_zero, List.set_cons_succ]
              refine wpAnyH_done (by kernel_rfl) ?_ _
              cases cb with
              | true =>
                go_wp2_with fail
                refine (HCA.out _ hb_w13).mono ?_
                rintro e w19 ⟨rfl, hb19⟩
                go_wp2_with fail
                go_ret
                exact ⟨rfl, HB6.out.trans ((hb_w13.trans (hb19.mono hb_w13.size)).mono HB6.out.size)⟩
              | false =>
                have hzb : dx = zero32 := HZB.out rfl
                subst hzb
                go_wp2_with fail
                refine (HCA.out _ hb_w13).mono ?_
                rintro e w19 ⟨rfl, hb19⟩
                go_wp2_with fail
                go_ret
                exact ⟨rfl, HB6.out.trans ((hb_w13.trans (hb19.mono hb_w13.size)).mono HB6.out.size)⟩
        · have v1 : ¬ (m1 : Int) < (m2 : Int) := by omega
          have v2 : ¬ (m1 : Int) = (m2 : Int) := by omega
          have v3 : ((m1 : Int) != (m2 : Int)) = true := by simp; omega
          have v4 : min (m1 : Int) (m2 : Int) = (m2 : Int) := by omega
          have v5 : (if (m2 : Int) < (m1 : Int) then (m2 : Int) else (m1 : Int)) = (m2 : Int) := by split <;> omega
          have v6 : (if m2 < m1 then (m2 : Int) else (m1 : Int)) = (m2 : Int) := by split <;> omega
          have v7 : (0 : Int) ≤ (m2 : Int) := by omega
          have v8 : (m2 : Int) < (m1 : Int) := by omega
          obtain ⟨b, o, rfl, hcl⟩ := HR1_6.out m2 (by omega)
          have c9 := hcl m2 (by omega)
          have hx9 := HZ1.out m2
          obtain ⟨x, hx⟩ : ∃ x, getS L1 m2 = x := ⟨_, rfl⟩
          rw [hx] at c9 hx9
          have HXE := Lib.hid hx
          have HSU := Lib.hid (fun W (hb : Below w6.heap.size w6 W) => dsum_s x W (by omega) (HT.out.below (HB6.out.trans (hb.mono HB6.out.size))))
          obtain ⟨dx, hdx⟩ : ∃ d, dS x = d := ⟨_, rfl⟩
          simp only [hdx] at HSU
          have HDX := Lib.hid hdx
          have HZB : Hid (cb = false → dx = zero32) := Lib.hid (fun hc => by
                      rcases HOR.out with h | ⟨_, h⟩
                      · have := HCO.out h
                        rw [hc] at this
                        cases this
                      · rw [if_neg hlt, show min m1 m2 = m2 by omega, HXE.out, HDX.out] at h
                        exact h)
          have HBX := (Below.refl w6.heap.size w6).drew
          clear hcl hx hdx
          go_wp2_with fail
          refine wp_region_held_drew (S := fun W => W.cell? ⟨b, o + m2, none⟩ = some (.string x)) (by kernel_rfl) ?_ (fun hHeld => ?_)
          · exact c9
          refine wpAnyH_take (i := 0) (v := ?_) rfl (by kernel_rfl) (by kernel_rfl) (by kernel_rfl) (fun _ _ _ h => h) (Or.inl ⟨by rfl, ?_⟩) (by assumption) ?_
          rotate_left
          · intro w hSw
            try dsimp only at hSw
            go_simp
            all_goals with_reducible rfl
          try simp only [Act.put, List.getElem_toArray, List.getElem_cons_zero, List.setIfInBounds_toArray, List.set_cons_zero, List.set_cons_succ]
          refine wpAnyH_take (i := 1) (v := ?_) rfl (by kernel_rfl) (by kernel_rfl) (by kernel_rfl) (fun _ _ _ h => h) (Or.inl ⟨by rfl, ?_⟩) (by assumption) ?_
          rotate_left
          · intro w hSw
            try dsimp only at hSw
            go_simp
            all_goals with_reducible rfl
          try simp only [Act.put, List.getElem_toArray, List.getElem_cons_succ, List.getElem_cons_zero, List.setIfInBounds_toArray, List.set_cons_zero, List.set_cons_succ]
          refine wpAnyH_take (i := 2) (v := ?_) rfl (by kernel_rfl) (by kernel_rfl) (by kernel_rfl) (fun _ _ _ h => h) (Or.inl ⟨by rfl, ?_⟩) (by assumption) ?_
          rotate_left
          · intro w hSw
            try dsimp only at hSw
            go_simp
            all_goals with_reducible rfl
          try simp only [Act.put, List.getElem_toArray, List.getElem_cons_succ, List.getElem_cons_zero, List.setIfInBounds_toArray, List.set_cons_zero, List.set_cons_succ]
          refine wpAnyH_take (i := 3) (v := ?_) rfl (by kernel_rfl) (by kernel_rfl) (by kernel_rfl) (fun _ _ _ h => h) (Or.inl ⟨by rfl, ?_⟩) (by assumption) ?_
          rotate_left
          · intro w hSw
            try dsimp only at hSw
            go_simp
            all_goals with_reducible rfl
          try simp only [Act.put, List.getElem_toArray, List.getElem_cons_succ, List.getElem_cons_zero, List.setIfInBounds_toArray, List.set_cons_zero, List.set_cons_succ]
          refine wpAnyH_take (i := 4) (v := ?_) rfl (by kernel_rfl) (by kernel_rfl) (by kernel_rfl) (fun _ _ _ h => h) (Or.inl ⟨by rfl, ?_⟩) (by assumption) ?_
          rotate_left
          · intro w hSw
            try dsimp only at hSw
            go_simp
            all_goals with_reducible rfl
          try simp only [Act.put, List.getElem_toArray, List.getElem_cons_succ, List.getElem_cons_zero, List.setIfInBounds_toArray, List.set_cons_zero, List.set_cons_succ]
          refine wpAnyH_take (i := 5) (v := ?_) rfl (by kernel_rfl) (by kernel_rfl) (by kernel_rfl) (fun _ _ _ h => h) (Or.inl ⟨by rfl, ?_⟩) (by assumption) ?_
          rotate_left
          · intro w hSw
            try dsimp only at hSw
            go_simp
            all_goals with_reducible rfl
          try simp only [Act.put, List.getElem_toArray, List.getElem_cons_succ, List.getElem_cons_zero, List.setIfInBounds_toArray, List.set_cons_zero, List.set_cons_succ]
          refine wpAnyH_take (i := 6) (v := ?_) rfl (by kernel_rfl) (by kernel_rfl) (by kernel_rfl) (fun _ _ _ h => h) (Or.inl ⟨by rfl, ?_⟩) (by assumption) ?_
          rotate_left
          · intro w hSw
            try dsimp only at hSw
            go_simp
            all_goals with_reducible rfl
          try simp only [Act.put, List.getElem_toArray, List.getElem_cons_succ, List.getElem_cons_zero, List.setIfInBounds_toArray, List.set_cons_zero, List.set_cons_succ]
          refine wpAnyH_take (i := 7) (v := ?_) rfl (by kernel_rfl) (by kernel_rfl) (by kernel_rfl) (fun _ _ _ h => h) (Or.inl ⟨by rfl, ?_⟩) (by assumption) ?_
          rotate_left
          · intro w hSw
            try dsimp only at hSw
            go_simp
            all_goals with_reducible rfl
          try simp only [Act.put, List.getElem_toArray, List.getElem_cons_succ, List.getElem_cons_zero, List.setIfInBounds_toArray, List.set_cons_zero, List.set_cons_succ]
          refine wpAnyH_take (i := 8) (v := ?_) rfl (by kernel_rfl) (by kernel_rfl) (by kernel_rfl) (fun _ _ _ h => h) (Or.inl ⟨by rfl, ?_⟩) (by assumption) ?_
          rotate_left
          · intro w hSw
            try dsimp only at hSw
            go_simp
            all_goals with_reducible rfl
          try simp only [Act.put, List.getElem_toArray, List.getElem_cons_succ, List.getElem_cons_zero, List.setIfInBounds_toArray, List.set_cons_zero, List.set_cons_succ]
          refine wpAnyH_take (i := 9) (v := ?_) rfl (by kernel_rfl) (by kernel_rfl) (by kernel_rfl) (fun _ _ _ h => h) (Or.inl ⟨by rfl, ?_⟩) (by assumption) ?_
          rotate_left
          · intro w hSw
            try dsimp only at hSw
            go_simp
            all_goals with_reducible rfl
          try simp only [Act.put, List.getElem_toArray, List.getElem_cons_succ, List.getElem_cons_zero, List.setIfInBounds_toArray, List.set_cons_zero, List.set_cons_succ]
          refine wpAnyH_take (i := 10) (v := ?_) rfl (by kernel_rfl) (by kernel_rfl) (by kernel_rfl) (fun _ _ _ h => h) (Or.inl ⟨by rfl, ?_⟩) (by assumption) ?_
          rotate_left
          · intro w hSw
            try dsimp only at hSw
            go_simp
            all_goals with_reducible rfl
          try simp only [Act.put, List.getElem_toArray, List.getElem_cons_succ, List.getElem_cons_zero, List.setIfInBounds_toArray, List.set_cons_zero, List.set_cons_succ]
          refine wpAnyH_take (i := 11) (v := ?_) rfl (by kernel_rfl) (by kernel_rfl) (by kernel_rfl) (fun _ _ _ h => h) (Or.inl ⟨by rfl, ?_⟩) (by assumption) ?_
          rotate_left
          · intro w hSw
            try dsimp only at hSw
            go_simp
            all_goals with_reducible rfl
          try simp only [Act.put, List.getElem_toArray, List.getElem_cons_succ, List.getElem_cons_zero, List.setIfInBounds_toArray, List.set_cons_zero, List.set_cons_succ]
          refine wpAnyH_take (i := 12) (v := ?_) rfl (by kernel_rfl) (by kernel_rfl) (by kernel_rfl) (fun _ _ _ h => h) (Or.inl ⟨by rfl, ?_⟩) (by assumption) ?_
          rotate_left
          · intro w hSw
            try dsimp only at hSw
            go_simp
            all_goals with_reducible rfl
          try simp only [Act.put, List.getElem_toArray, List.getElem_cons_succ, List.getElem_cons_zero, List.setIfInBounds_toArray, List.set_cons_zero, List.set_cons_succ]
          refine wpAnyH_take (i := 13) (v := ?_) rfl (by kernel_rfl) (by kernel_rfl) (by kernel_rfl) (fun _ _ _ h => h) (Or.inl ⟨by rfl, ?_⟩) (by assumption) ?_
          rotate_left
          · intro w hSw
            try dsimp only at hSw
            go_simp
            all_goals with_reducible rfl
          try simp only [Act.put, List.getElem_toArray, List.getElem_cons_succ, List.getElem_cons_zero, List.setIfInBounds_toArray, List.set_cons_zero, List.set_cons_succ]
          refine wpAnyH_ready (rs := [14, 15]) (by kernel_rfl) (by simp) ?_
          refine AllReadyH.cons rfl (fun K hK => ?_) (AllReadyH.cons rfl (fun K hK => ?_) AllReadyH.nil)
          · go_simp
            go_at_call 30
            refine (HSU.out _ HBX).mono ?_
            rintro e w11 ⟨rfl, hr_w11⟩
            have hb_w11 := HBX.trans (hr_w11.mono HBX.size)
            refine hK.out _ _ ?_ (fun hHeld2 => ?_)
            · exact (hb_w11.cell (p := ⟨b, o + m2, none⟩) (cell_lt' c9)).trans c9
            clear hK K hHeld
            have hHeld := hHeld2
            clear hHeld2
            try simp only [Act.put, List.getElem_toArray, List.getElem_cons_succ, List.getElem_cons_zero, List.setIfInBounds_toArray, List.set_cons_zero, List.set_cons_succ]
            obtain ⟨o9, hmk, hcv⟩ := make_zero2 w11
            have hcv1 := hcv (w11.alloc o9) (Below.refl _ _)
            have hb12 := hb_w11.alloc hb_w11.size o9
            clear hcv
            refine wpAnyH_ready (rs := [15]) (by kernel_rfl) (by simp) ?_
            refine AllReadyH.cons rfl (fun K hK => ?_) AllReadyH.nil
            go_simp
            refine hK.out _ _ ?_ (fun hHeld2 => ?_)
            · exact (hb12.cell (p := ⟨b, o + m2, none⟩) (cell_lt' c9)).trans c9
            clear hK K hHeld
            have hHeld := hHeld2
            clear hHeld2
            try simp only [Act.put, List.getElem_toArray, List.getElem_cons_succ, List.getElem_cons_zero, List.setIfInBounds_toArray, List.set_cons_zero, List.set_cons_succ]
            refine wpAnyH_ready (rs := [16]) (by kernel_rfl) (by simp) ?_
            refine AllReadyH.cons rfl (fun K hK => ?_) AllReadyH.nil
            go_simp
            refine hK.out _ _ ?_ (fun hHeld2 => ?_)
            · exact hHeld
            clear hK K hHeld
            have hHeld := hHeld2
            clear hHeld2
            try simp only [Act.put, List.getElem_toArray, List.getElem_cons_succ, List.getElem_cons_zero, List.setIfInBounds_toArray, List.set_cons_zero, List.set_cons_succ]
            clear hmk hcv1
            refine wpAnyH_take (i := 17) (v := ?_) rfl (by kernel_rfl) (by kernel_rfl) (by kernel_rfl) (fun _ _ _ h => h) (Or.inl ⟨by rfl, ?_⟩) (by assumption) ?_
            rotate_left
            · intro w hSw
              try dsimp only at hSw
              go_simp
              all_goals with_reducible rfl
            try simp only [Act.put, List.getElem_toArray, List.getElem_cons_succ, List.getElem_cons_zero, List.setIfInBounds_toArray, List.set_cons_zero, List.set_cons_succ]
            refine wpAnyH_take (i := 18) (v := ?_) rfl (by kernel_rfl) (by kernel_rfl) (by kernel_rfl) (fun _ _ _ h => h) (Or.inl ⟨by rfl, ?_⟩) (by assumption) ?_
            rotate_left
            · intro w hSw
              try dsimp only at hSw
              go_simp
              all_goals with_reducible rfl
            try simp only [Act.put, List.getElem_toArray, List.getElem_cons_succ, List.getElem_cons_zero, List.setIfInBounds_toArray, List.set_cons_zero, List.set_cons_succ]
            refine wpAnyH_take (i := 19) (v := ?_) rfl (by kernel_rfl) (by kernel_rfl) (by kernel_rfl) (fun _ _ _ h => h) (Or.inl ⟨by rfl, ?_⟩) (by assumption) ?_
            rotate_left
            · intro w hSw
              try dsimp only at hSw
              go_simp
              all_goals with_reducible rfl
            try simp only [Act.put, List.getElem_toArray, List.getElem_cons_succ, List.getElem_cons_zero, List.setIfInBounds_toArray, List.set_cons_zero, List.set_cons_succ]
            refine wpAnyH_done (by kernel_rfl) ?_ _
            cases cb with
            | true =>
              go_wp2_with fail
              refine (HCA.out _ hb12).mono ?_
              rintro e w19 ⟨rfl, hb19⟩
              go_wp2_with fail
              go_ret
              exact ⟨rfl, HB6.out.trans ((hb12.trans (hb19.mono hb12.size)).mono HB6.out.size)⟩
            | false =>
              have hzb : dx = zero32 := HZB.out rfl
              subst hzb
              go_wp2_with fail
              refine (HCA.out _ hb12).mono ?_
              rintro e w19 ⟨rfl, hb19⟩
              go_wp2_with fail
              go_ret
              exact ⟨rfl, HB6.out.trans ((hb12.trans (hb19.mono hb12.size)).mono HB6.out.size)⟩
          · obtain ⟨o9, hmk, hcv⟩ := make_zero2 w6.drew
            rw [show w6.drew.heap.size = w6.heap.size from rfl, show w6.drew.alloc o9 = (w6.alloc o9).drew from rfl] at hmk hcv
            have hb12 : Below w6.heap.size w6 (w6.alloc o9).drew := ((Below.refl _ _).alloc (Nat.le_refl _) o9).drew
            go_simp
            refine hK.out _ _ ?_ (fun hHeld2 => ?_)
            · exact (hb12.cell (p := ⟨b, o + m2, none⟩) (cell_lt' c9)).trans c9
            clear hK K hHeld
            have hHeld := hHeld2
            clear hHeld2
            try simp only [Act.put, List.getElem_toArray, List.getElem_cons_succ, List.getElem_cons_zero, List.setIfInBounds_toArray, List.set_cons_zero, List.set_cons_succ]
            clear hmk
            refine wpAnyH_ready (rs := [14, 16]) (by kernel_rfl) (by simp) ?_
            refine AllReadyH.cons rfl (fun K hK => ?_) (AllReadyH.cons rfl (fun K hK => ?_) AllReadyH.nil)
            · go_simp
              go_at_call 30
              refine (HSU.out _ hb12).mono ?_
              rintro e w13 ⟨rfl, hr_w13⟩
              have hb_w13 := hb12.trans (hr_w13.mono hb12.size)
              refine hK.out _ _ ?_ (fun hHeld2 => ?_)
              · exact (hb_w13.cell (p := ⟨b, o + m2, none⟩) (cell_lt' c9)).trans c9
              clear hK K hHeld
              have hHeld := hHeld2
              clear hHeld2
              try simp only [Act.put, List.getElem_toArray, List.getElem_cons_succ, List.getElem_cons_zero, List.setIfInBounds_toArray, List.set_cons_zero, List.set_cons_succ]
              have hcv1 := hcv w13 hr_w13
              clear hcv
              refine wpAnyH_ready (rs := [16]) (by kernel_rfl) (by simp) ?_
              refine AllReadyH.cons rfl (fun K hK => ?_) AllReadyH.nil
              go_simp
              refine hK.out _ _ ?_ (fun hHeld2 => ?_)
              · exact hHeld
              clear hK K hHeld
              have hHeld := hHeld2
              clear hHeld2
              try simp only [Act.put, List.getElem_toArray, List.getElem_cons_succ, List.getElem_cons_zero, List.setIfInBounds_toArray, List.set_cons_zero, List.set_cons_succ]
              clear hcv1
              refine wpAnyH_take (i := 17) (v := ?_) rfl (by kernel_rfl) (by kernel_rfl) (by kernel_rfl) (fun _ _ _ h => h) (Or.inl ⟨by rfl, ?_⟩) (by assumption) ?_
              rotate_left
              · intro w hSw
                try dsimp only at hSw
                go_simp
                all_goals with_reducible rfl
              try simp only [Act.put, List.getElem_toArray, List.getElem_cons_succ, List.getElem_cons_zero, List.setIfInBounds_toArray, List.set_cons_zero, List.set_cons_succ]
              refine wpAnyH_take (i := 18) (v := ?_) rfl (by kernel_rfl) (by kernel_rfl) (by kernel_rfl) (fun _ _ _ h => h) (Or.inl ⟨by rfl, ?_⟩) (by assumption) ?_
              rotate_left
              · intro w hSw
                try dsimp only at hSw
                go_simp
                all_goals with_reducible rfl
              try simp only [Act.put, List.getElem_toArray, List.getElem_cons_succ, List.getElem_cons_zero, List.setIfInBounds_toArray, List.set_cons_zero, List.set_cons_succ]
              refine wpAnyH_take (i := 19) (v := ?_) rfl (by kernel_rfl) (by kernel_rfl) (by kernel_rfl) (fun _ _ _ h => h) (Or.inl ⟨by rfl, ?_⟩) (by assumption) ?_
              rotate_left
              · intro w hSw
                try dsimp only at hSw
                go_simp
                all_goals with_reducible rfl
              try simp only [Act.put, List.getElem_toArray, List.getElem_cons_succ, List.getElem_cons_zero, List.setIfInBounds_toArray, List.set_cons_zero, List.set_cons_succ]
              refine wpAnyH_done (by kernel_rfl) ?_ _
              cases cb with
              | true =>
                go_wp2_with fail
                refine (HCA.out _ hb_w13).mono ?_
                rintro e w19 ⟨rfl, hb19⟩
                go_wp2_with fail
                go_ret
                exact ⟨rfl, HB6.out.trans ((hb_w13.trans (hb19.mono hb_w13.size)).mono HB6.out.size)⟩
              | false =>
                have hzb : dx = zero32 := HZB.out rfl
                subst hzb
                go_wp2_with fail
                refine (HCA.out _ hb_w13).mono ?_
                rintro e w19 ⟨rfl, hb19⟩
                go_wp2_with fail
                go_ret
                exact ⟨rfl, HB6.out.trans ((hb_w13.trans (hb19.mono hb_w13.size)).mono HB6.out.size)⟩
            · have hcv1 := hcv _ (Below.refl _ _)
              clear hcv
              go_simp
              refine hK.out _ _ ?_ (fun hHeld2 => ?_)
              · exact hHeld
              clear hK K hHeld
              have hHeld := hHeld2
              clear hHeld2
              try simp only [Act.put, List.getElem_toArray, List.getElem_cons_succ, List.getElem_cons_zero, List.setIfInBounds_toArray, List.set_cons_zero, List.set_cons_succ]
              clear hcv1
              refine wpAnyH_ready (rs := [14]) (by kernel_rfl) (by simp) ?_
              refine AllReadyH.cons rfl (fun K hK => ?_) AllReadyH.nil
              go_simp
              go_at_call 30
              refine (HSU.out _ hb12).mono ?_
              rintro e w13 ⟨rfl, hr_w13⟩
              have hb_w13 := hb12.trans (hr_w13.mono hb12.size)
              refine hK.out _ _ ?_ (fun hHeld2 => ?_)
              · exact (hb_w13.cell (p := ⟨b, o + m2, none⟩) (cell_lt' c9)).trans c9
              clear hK K hHeld
              have hHeld := hHeld2
              clear hHeld2
              try simp only [Act.put, List.getElem_toArray, List.getElem_cons_succ, List.getElem_cons_zero, List.setIfInBounds_toArray, List.set_cons_zero, List.set_cons_succ]
              refine wpAnyH_take (i := 17) (v := ?_) rfl (by kernel_rfl) (by kernel_rfl) (by kernel_rfl) (fun _ _ _ h => h) (Or.inl ⟨by rfl, ?_⟩) (by assumption) ?_
              rotate_left
              · intro w hSw
                try dsimp only at hSw
                go_simp
                all_goals with_reducible rfl
              try simp only [Act.put, List.getElem_toArray, List.getElem_cons_succ, List.getElem_cons_zero, List.setIfInBounds_toArray, List.set_cons_zero, List.set_cons_succ]
              refine wpAnyH_take (i := 18) (v := ?_) rfl (by kernel_rfl) (by kernel_rfl) (by kernel_rfl) (fun _ _ _ h => h) (Or.inl ⟨by rfl, ?_⟩) (by assumption) ?_
              rotate_left
              · intro w hSw
                try dsimp only at hSw
                go_simp
                all_goals with_reducible rfl
              try simp only [Act.put, List.getElem_toArray, List.getElem_cons_succ, List.getElem_cons_zero, List.setIfInBounds_toArray, List.set_cons_zero, List.set_cons_succ]
              refine wpAnyH_take (i := 19) (v := ?_) rfl (by kernel_rfl) (by kernel_rfl) (by kernel_rfl) (fun _ _ _ h => h) (Or.inl ⟨by rfl, ?_⟩) (by assumption) ?_
              rotate_left
              · intro w hSw
                try dsimp only at hSw
                go_simp
                all_goals with_reducible rfl
              try simp only [Act.put, List.getElem_toArray, List.getElem_cons_succ, List.getElem_cons_zero, List.setIfInBounds_toArray, List.set_cons_zero, List.set_cons_succ]
              refine wpAnyH_done (by kernel_rfl) ?_ _
              cases cb with
              | true =>
                go_wp2_with fail
                refine (HCA.out _ hb_w13).mono ?_
                rintro e w19 ⟨rfl, hb19⟩
                go_wp2_with fail
                go_ret
                exact ⟨rfl, HB6.out.trans ((hb_w13.trans (hb19.mono hb_w13.size)).mono HB6.out.size)⟩
              | false =>
                have hzb : dx = zero32 := HZB.out rfl
                subst hzb
                go_wp2_with fail
                refine (HCA.out _ hb_w13).mono ?_
                rintro e w19 ⟨rfl, hb19⟩
                go_wp2_with fail
                go_ret
                exact ⟨rfl, HB6.out.trans ((hb_w13.trans (hb19.mono hb_w13.size)).mono HB6.out.size)⟩
    · have e1 : (h1.toList == h2.toList) = false := by rw [beq_dec]; exact decide_eq_false he
      have e2 : (h1.toList != h2.toList) = true := by simp [bne, e1]
      clear hsame he
      go_wp2_with fail
      go_ret
      exact ⟨rfl, HB6.out⟩
end Go.Proofs.YtolhjkbfinlfcaaDoor
