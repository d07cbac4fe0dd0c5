/- BookSums: the law's body returns true. Conditions: deeds that can be read; numbers of 64 bits. -/
import Derived.Test.YtcfplkbbgjiocaaBookSumLaw
namespace Go.Proofs.Ytcfplkbbgjiocaa
open Go Go.RowKit Go.Shelf
theorem NBox.other {W : World} {G n b i : Nat} {f : Nat → Int} (h : NBox W G n f) (hne : b ≠ G) (v : Value) : NBox (W.setCell ⟨b, i, none⟩ v) G n f := by
  obtain ⟨cs, t, h, hc⟩ := h
  exact ⟨cs, t, (Below.heap_setCell _ _ _ _ (fun e => hne e.symm)).trans h, hc⟩
theorem NBox.low {W W' : World} {F G n : Nat} {f : Nat → Int} (h : NBox W G n f) (hb : Below F W W') (hG : G < F) : NBox W' G n f := by
  obtain ⟨cs, t, h, hc⟩ := h
  exact ⟨cs, t, (hb.block _ hG).trans h, hc⟩
theorem readsI_far {W : World} {p : Option Addr} {n : Nat} {f : Nat → Int} (h : ReadsI W p n f) {b : Nat} (hb : ∀ a, p = some a → b < a.block) (i : Nat) (v : Value) : ReadsI (W.setCell ⟨b, i, none⟩ v) p n f := fun j hj => by
  obtain ⟨B, off, hp, hc⟩ := h j hj
  have := hb _ hp
  exact ⟨B, off, hp, fun k hk => (World.cell?_setCell_far W ⟨b, i, none⟩ ⟨B, off + k, none⟩ v (by show b ≠ B; have : b < B := this; omega)).trans (hc k hk)⟩
theorem readsP_low {W W' : World} {F : Nat} {p : Option Addr} {n : Nat} {g : Nat → Pst} (h : ReadsP W p n g) (hb : Below F W W') (hF : W.heap.size ≤ F) : ReadsP W' p n g := h.below (hb.mono hF)
theorem stat_good {tn n k : Nat} {closed month er : Int} {g : Nat → Pst} {f : Nat → Int} (h : StatSpec (tn : Int) closed n g month k f er) (hok : BookOk (tn : Int) closed n g) (hm : 0 ≤ month ∧ month ≤ 11) : er = 0 ∧ k = tn ∧ ∀ i, i < tn → f i = balF g month i n := by
  rcases h with ⟨_, h1, h2, h3⟩ | ⟨hno, _⟩
  · obtain rfl : k = tn := by omega
    exact ⟨h1, rfl, h3⟩
  · exact absurd ⟨hok, hm⟩ hno
theorem owed_good {tn n k : Nat} {closed sub er : Int} {g : Nat → Pst} {f : Nat → Int} (h : OwedSpec (tn : Int) closed n g sub k f er) (hok : BookOk (tn : Int) closed n g) (hm : 0 ≤ sub ∧ sub ≤ 999) : er = 0 ∧ k = tn ∧ ∀ i, i < tn → f i = sumD (owedD g n sub) g i n := by
  rcases h with ⟨_, h1, h2, h3⟩ | ⟨hno, _⟩
  · obtain rfl : k = tn := by omega
    exact ⟨h1, rfl, h3⟩
  · exact absurd ⟨hok, hm⟩ hno
theorem bal_good {tn n : Nat} {closed team month x er : Int} {g : Nat → Pst} (h : BalSpec (tn : Int) closed n g team month x er) (hok : BookOk (tn : Int) closed n g) (ht : 0 ≤ team ∧ team < tn) (hm : 0 ≤ month ∧ month ≤ 11) : er = 0 ∧ x = balF g month team n := by
  rcases h with ⟨_, h1, h2⟩ | ⟨hno, _⟩
  · exact ⟨h1, h2⟩
  · exact absurd ⟨hok, ⟨ht.1, by omega⟩, hm⟩ hno
set_option maxRecDepth 100000 in
set_option maxHeartbeats 8000000 in
theorem bookSums_any (x : Int) (q0 : Option Addr) (m0 c0 : Nat) (h : Nat → Nat → Int) (w : World) (hin : ArrsIn w q0 m0 h) (bx : -9223372036854775808 ≤ x ∧ x ≤ 9223372036854775807) :
    Calls Try.prog 4 #[.int .i64 x, .slice q0 m0 c0] w fun e w' => e = .returned (.bool true) ∧ Below w.heap.size w w' := by
  have HIN := Lib.hid hin
  have HBX := Lib.hid bx
  clear hin bx
  go_enter Try.func4, Try.ntmps4
  go_wp2_with fail
  refine (sane_any _).mono ?_
  rintro e w1 ⟨rfl, hb1⟩
  go_wp2_with fail
  refine (Made_any x q0 m0 c0 h w1 (HIN.out.below hb1) HBX.out).mono ?_
  rintro e w2 ⟨tn, n, c, closed, q, g, rfl, hok, hn48, hsub, hrd2, _, hb2⟩
  have hal3 : Below w2.heap.size w2 (w2.alloc (.cells #[.int .i64 (tn : Int), .slice q n c, .int .i64 closed] 24)) := (Below.refl _ _).alloc (Nat.le_refl _) _
  have hx3 := BkBox.new w2 (tn : Int) closed (.slice q n c)
  obtain ⟨w3, hw3⟩ : ∃ w3, w2.alloc (.cells #[.int .i64 (tn : Int), .slice q n c, .int .i64 closed] 24) = w3 := ⟨_, rfl⟩
  have HW3 := Lib.hid hw3
  rw [hw3] at hal3 hx3
  have HB3 := Lib.hid ((hb1.trans (hb2.mono hb1.size)).trans (hal3.mono (Nat.le_trans hb1.size hb2.size)))
  have HX3 := Lib.hid hx3
  have HR3 := Lib.hid (hrd2.below hal3)
  have HOK := Lib.hid hok
  have HSUB := Lib.hid hsub
  have htn := hok.1.1
  unfold within at htn
  have hf48 : Hid (∀ i, i < n → Formed (g i) ((tn : Int) - 1)) := Lib.hid (fun i hi => (hok.2 i hi).2.1)
  clear hb1 hb2 hal3 hx3 hw3 hrd2 hok hsub
  go_upto_region 3 with fail
  rw [HW3.out]
  obtain ⟨A, hA⟩ : ∃ A, w2.heap.size = A := ⟨_, rfl⟩
  rw [hA] at HX3
  rw [hA]
  clear HW3 hA
  obtain ⟨a0, a1, a2⟩ := HX3.out.cells
  obtain ⟨ob, hmk, hnb⟩ := make_ints tn (by omega)
  have HMK := Lib.hid hmk
  have HNB := Lib.hid hnb
  have v0 : (0 : Int) ≤ (tn : Int) := by omega
  have hal4 : Below w3.heap.size w3 (w3.alloc ob) := (Below.refl _ _).alloc (Nat.le_refl _) _
  have HAL4 := Lib.hid hal4
  clear hnb hal4
  go_upto_region 4 with fail
  have HN4 := Lib.hid (HNB.out w3)
  obtain ⟨G, hG⟩ : ∃ G, w3.heap.size = G := ⟨_, rfl⟩
  have HG := Lib.hid hG
  obtain ⟨w4, hw4⟩ : ∃ w4, w3.alloc ob = w4 := ⟨_, rfl⟩
  rw [hw4] at HN4 HAL4 ⊢
  rw [hG] at HN4 HAL4 ⊢
  have HX4 := Lib.hid (HX3.out.low HAL4.out (by have := HX3.out.lt; omega))
  have HR4 := Lib.hid (readsP_low HR3.out HAL4.out (by omega))
  have HRG : Hid (∀ W, Below G w4 W → ReadsP W q n g ∧ BkBox W A (tn : Int) (.slice q n c) closed) := Lib.hid (fun W hb => by
    have h := HAL4.out.trans hb
    exact ⟨readsP_low HR3.out h (by omega), HX3.out.low h (by have := HX3.out.lt; omega)⟩)
  have HB4 := Lib.hid (HB3.out.trans (HAL4.out.mono (by have := HB3.out.size; omega)))
  have hGw : w.heap.size ≤ G := by have := HB3.out.size; omega
  clear hw4 hG hmk a0 a1 a2
  have hbal : Hid (∀ (m : Int) (t : Int), -50000000000 ≤ balF g m t n ∧ balF g m t n ≤ 50000000000) := Lib.hid (fun m t => by
    have := balF_bd (month := m) (team := t) n hf48.out
    omega)
  go_wp2_with fail
  go_loopw [8] (fun mv wr => ∃ m : Nat, m ≤ 12 ∧ mv = .int .i64 m ∧ NBox wr G tn (fun t : Nat => sumN (fun m' : Nat => balF g m' t n) m) ∧ Below G w4 wr) (fun mv _ => 12 - (intOf mv).toNat)
  case atStart => exact ⟨0, by omega, rfl, HN4.out, Below.refl _ _⟩
  case round =>
    obtain ⟨m, hm, rfl, hN, hb⟩ := hrel
    obtain ⟨hrd, hbk⟩ := HRG.out wr hb
    obtain ⟨a0, a1, a2⟩ := hbk.cells
    by_cases hlt : m < 12
    · have HST := Lib.hid (Statement_any (tn : Int) closed (m : Int) q n c g wr (by unfold maxLen; omega) hrd)
      have HN := Lib.hid hN
      clear hrd hN
      have l0 : (m : Int) < 12 := by omega
      go_wp2_with fail
      refine HST.out.mono ?_
      rintro e w5 ⟨ps, ks, kc, f, er, rfl, hsp, hrs, hqs, hb5⟩
      obtain ⟨rfl, rfl, hfs⟩ := stat_good hsp HOK.out ⟨by omega, by omega⟩
      have HRS := Lib.hid (hrs.congr hfs)
      have HQS : Hid (∀ a, ps = some a → G < a.block) := Lib.hid (fun a h => by have := hqs a h; have := HN.out.lt; omega)
      have HN5 := Lib.hid (HN.out.below hb5)
      have HB5 := Lib.hid (hb.trans (hb5.mono (Nat.le_of_lt HN.out.lt)))
      clear hsp hrs hqs hfs hb5 hbk a0 a1 a2
      obtain ⟨a0, a1, a2⟩ := (HRG.out w5 HB5.out).2.cells
      go_wp2_with fail
      go_loopw [11, 12] (fun sv tv wx => ∃ t : Nat, t ≤ ks ∧ tv = .int .i64 t ∧ sv = .int .i64 (sumN (fun t' : Nat => balF g m t' n) t) ∧ NBox wx G ks (fun t' : Nat => if t' < t then sumN (fun m' : Nat => balF g m' t' n) (m + 1) else sumN (fun m' : Nat => balF g m' t' n) m) ∧ ReadsI wx ps ks (fun t : Nat => balF g m t n) ∧ Below G w4 wx) (fun _ tv _ => ks - (intOf tv).toNat)
      case atStart => exact ⟨0, by omega, rfl, rfl, HN5.out.congr (fun i _ => if_neg (by omega)), HRS.out, HB5.out⟩
      case round =>
        obtain ⟨t, ht, rfl, rfl, hNx, hrx, hbx⟩ := hrel
        clear a0 a1 a2
        obtain ⟨hrdx, hbkx⟩ := HRG.out wr hbx
        obtain ⟨a0, a1, a2⟩ := hbkx.cells
        by_cases htl : t < ks
        · have HBA := Lib.hid (Balance_any (ks : Int) closed (t : Int) (m : Int) q n c g wr (by unfold maxLen; omega) hrdx)
          have HNX := Lib.hid hNx
          have HRX := Lib.hid hrx
          have l1 : (t : Int) < (ks : Int) := by omega
          have l2 : (0 : Int) ≤ (t : Int) := by omega
          clear hrdx hbkx hNx hrx
          go_wp2_with fail
          refine HBA.out.mono ?_
          rintro e w6 ⟨⟨xv, er, rfl, hsp⟩, hb6⟩
          obtain ⟨rfl, rfl⟩ := bal_good hsp HOK.out ⟨by omega, by omega⟩ ⟨by omega, by omega⟩
          have HN6 := Lib.hid (HNX.out.below hb6)
          have HR6 := Lib.hid (HRX.out.below hb6)
          have HB6 := Lib.hid (hbx.trans (hb6.mono (Nat.le_of_lt HNX.out.lt)))
          clear hsp hb6 a0 a1 a2
          obtain ⟨a0, a1, a2⟩ := (HRG.out w6 HB6.out).2.cells
          obtain ⟨b, o, rfl, hc⟩ := HR6.out t htl
          have s1 : w6.cell? ⟨b, o + t, none⟩ = some (.int .i64 (balF g (m : Int) (t : Int) n)) := hc t htl
          have s2 := HN6.out.cell t htl
          have s3 := HN6.out.free t
          simp only [if_neg (show ¬ t < t by omega)] at s2
          have hB := hbal.out (m : Int) (t : Int)
          have hS := sumN_bd (f := fun t' : Nat => balF g m t' n) (B := 50000000000) t (fun i _ => hbal.out m i)
          have hM := sumN_bd (f := fun m' : Nat => balF g m' t n) (B := 50000000000) m (fun i _ => hbal.out i t)
          have HS1 : Hid (sumN (fun t' : Nat => balF g m t' n) (t + 1) = sumN (fun t' : Nat => balF g m t' n) t + balF g m t n) := Lib.hid rfl
          have HM1 : Hid (sumN (fun m' : Nat => balF g m' t n) (m + 1) = sumN (fun m' : Nat => balF g m' t n) m + balF g m t n) := Lib.hid rfl
          obtain ⟨bv, hbv⟩ : ∃ bv, balF g (m : Int) (t : Int) n = bv := ⟨_, rfl⟩
          obtain ⟨sv, hsv⟩ : ∃ sv, sumN (fun t' : Nat => balF g m t' n) t = sv := ⟨_, rfl⟩
          obtain ⟨mv, hmv⟩ : ∃ mv, sumN (fun m' : Nat => balF g m' t n) m = mv := ⟨_, rfl⟩
          rw [hbv] at s1 hB HS1 HM1
          rw [hsv] at hS HS1
          rw [hmv] at hM HM1 s2
          rw [hbv, hsv]
          have hB' : -50000000000 ≤ bv ∧ bv ≤ 50000000000 := hB
          have hS' : -200000000000 ≤ sv ∧ sv ≤ 200000000000 := by omega
          have hM' : -600000000000 ≤ mv ∧ mv ≤ 600000000000 := by omega
          obtain ⟨hB1, hB2⟩ := hB'
          obtain ⟨hS1, hS2⟩ := hS'
          obtain ⟨hM1, hM2⟩ := hM'
          have HMV := Lib.hid hmv
          clear hB hS hM hbv hsv hmv hc
          go_wp2_with fail
          go_region
          all_goals (try go_wp2_with fail)
          have hqs : ∀ a, (some ⟨b, o, none⟩ : Option Addr) = some a → G < a.block := HQS.out
          exact ⟨⟨t + 1, by omega, by go_num, by rw [HS1.out], (HN6.out.set t htl (mv + bv)).drew.congr (fun i hi => by
            by_cases e : i = t
            · subst e
              rw [if_pos (by omega), if_pos rfl, HM1.out]
            · rw [if_neg e]
              by_cases e2 : i < t
              · rw [if_pos e2, if_pos (by omega)]
              · rw [if_neg e2, if_neg (by omega)]), readsI_far HR6.out hqs t (.int .i64 (mv + bv)), (Below_set HB6.out (b := G) (i := t) (Nat.le_refl G) (.int .i64 (mv + bv))).drew⟩, by simp [intOf]; omega⟩
        · obtain rfl : t = ks := by omega
          have hz : sumN (fun t' : Nat => balF g m t' n) t = 0 := by
            rw [sumN_congr t (fun i _ => balF_sumD g m i n)]
            exact teams_zero _ (by omega) n hf48.out
          rw [hz]
          go_wp2_with fail
          exact ⟨⟨m + 1, by omega, by go_num, hNx.congr (fun i hi => (if_pos hi).symm), hbx⟩, by simp [intOf]; omega⟩
    · have hm12 : m = 12 := by omega
      have hNG := hN.congr (f' := fun t : Nat => totF g t n) (fun i _ => by rw [hm12]; exact (months_all n hf48.out).symm)
      have nl : ¬ (m : Int) < 12 := by omega
      clear hlt hm12
      have HN := Lib.hid hNG
      have HB7 := Lib.hid hb
      have hmk := HMK.out
      have HN8 := Lib.hid (HNB.out wr)
      have hal8 : Below wr.heap.size wr (wr.alloc ob) := (Below.refl _ _).alloc (Nat.le_refl _) _
      have HAL8 := Lib.hid hal8
      have hGH := hN.lt
      clear hN hNG hrd hbk hb hal8
      go_upto_region 22 with fail
      obtain ⟨H, hH⟩ : ∃ H, wr.heap.size = H := ⟨_, rfl⟩
      obtain ⟨w8, hw8⟩ : ∃ w8, wr.alloc ob = w8 := ⟨_, rfl⟩
      rw [hw8] at HN8 HAL8 ⊢
      rw [hH] at HN8 HAL8 hGH ⊢
      have HBH : Hid (∀ W, Below H w8 W → Below G w4 W ∧ NBox W G tn (fun t : Nat => totF g t n)) := Lib.hid (fun W hb => by
        have h := HAL8.out.trans hb
        exact ⟨HB7.out.trans (h.mono (by omega)), HN.out.low h hGH⟩)
      clear hw8 hmk a0 a1 a2
      have hsD : Hid (∀ (k : Int) (t : Int), -50000000000 ≤ sumD (owedD g n k) g t n ∧ sumD (owedD g n k) g t n ≤ 50000000000) := Lib.hid (fun k t => by
        have h := sumD_bd (d := owedD g n k) (team := t) n hf48.out
        have h2 : (n : Int) ≤ 48 := by omega
        exact ⟨Int.le_trans (show (-50000000000 : Int) ≤ -(n * 1000000000 : Int) by omega) h.1, Int.le_trans h.2 (show (n * 1000000000 : Int) ≤ 50000000000 by omega)⟩)
      go_wp2_with fail
      go_loopw [16] (fun kv wr => ∃ k : Nat, k ≤ 6 ∧ kv = .int .i64 k ∧ NBox wr H tn (fun t : Nat => sumN (fun k' : Nat => sumD (owedD g n k') g t n) k) ∧ Below H w8 wr) (fun kv _ => 6 - (intOf kv).toNat)
      case atStart => exact ⟨0, by omega, rfl, HN8.out, Below.refl _ _⟩
      case round =>
        obtain ⟨k, hk, rfl, hN, hb⟩ := hrel
        obtain ⟨hbG, hNG⟩ := HBH.out wr hb
        obtain ⟨hrd, hbk⟩ := HRG.out wr hbG
        obtain ⟨a0, a1, a2⟩ := hbk.cells
        by_cases hlt : k < 6
        · have HST := Lib.hid (Owed_any (tn : Int) closed (k : Int) q n c g wr (by unfold maxLen; omega) hrd)
          have HNK := Lib.hid hN
          clear hrd hN hNG hbG
          have l0 : (k : Int) < 6 := by omega
          go_wp2_with fail
          refine HST.out.mono ?_
          rintro e w5 ⟨ps, ks, kc, f, er, rfl, hsp, hrs, hqs, hb5⟩
          obtain ⟨rfl, rfl, hfs⟩ := owed_good hsp HOK.out ⟨by omega, by omega⟩
          have HRS := Lib.hid (hrs.congr hfs)
          have HQS : Hid (∀ a, ps = some a → H < a.block) := Lib.hid (fun a h => by have := hqs a h; have := HNK.out.lt; omega)
          have HN5 := Lib.hid (HNK.out.below hb5)
          have HB5 := Lib.hid (hb.trans (hb5.mono (Nat.le_of_lt HNK.out.lt)))
          clear hsp hrs hqs hfs hb5 hbk a0 a1 a2
          obtain ⟨a0, a1, a2⟩ := (HRG.out w5 (HBH.out w5 HB5.out).1).2.cells
          go_wp2_with fail
          go_loopw [19, 20] (fun sv tv wx => ∃ t : Nat, t ≤ ks ∧ tv = .int .i64 t ∧ sv = .int .i64 (sumN (fun t' : Nat => sumD (owedD g n k) g t' n) t) ∧ NBox wx H ks (fun t' : Nat => if t' < t then sumN (fun k' : Nat => sumD (owedD g n k') g t' n) (k + 1) else sumN (fun k' : Nat => sumD (owedD g n k') g t' n) k) ∧ ReadsI wx ps ks (fun t : Nat => sumD (owedD g n k) g t n) ∧ Below H w8 wx) (fun _ tv _ => ks - (intOf tv).toNat)
          case atStart => exact ⟨0, by omega, rfl, rfl, HN5.out.congr (fun i _ => if_neg (by omega)), HRS.out, HB5.out⟩
          case round =>
            obtain ⟨t, ht, rfl, rfl, hNx, hrx, hbx⟩ := hrel
            clear a0 a1 a2
            obtain ⟨hrdx, hbkx⟩ := HRG.out wr (HBH.out wr hbx).1
            obtain ⟨a0, a1, a2⟩ := hbkx.cells
            by_cases htl : t < ks
            · have HN6 := Lib.hid hNx
              have HR6 := Lib.hid hrx
              have l1 : (t : Int) < (ks : Int) := by omega
              have l2 : (0 : Int) ≤ (t : Int) := by omega
              clear hrdx hbkx hNx hrx
              obtain ⟨b, o, rfl, hc⟩ := HR6.out t htl
              have s1 : wr.cell? ⟨b, o + t, none⟩ = some (.int .i64 (sumD (owedD g n k) g (t : Int) n)) := hc t htl
              have s2 := HN6.out.cell t htl
              have s3 := HN6.out.free t
              simp only [if_neg (show ¬ t < t by omega)] at s2
              have hB := hsD.out (k : Int) (t : Int)
              have hS := sumN_bd (f := fun t' : Nat => sumD (owedD g n k) g t' n) (B := 50000000000) t (fun i _ => hsD.out k i)
              have hM := sumN_bd (f := fun k' : Nat => sumD (owedD g n k') g t n) (B := 50000000000) k (fun i _ => hsD.out i t)
              have HS1 : Hid (sumN (fun t' : Nat => sumD (owedD g n k) g t' n) (t + 1) = sumN (fun t' : Nat => sumD (owedD g n k) g t' n) t + sumD (owedD g n k) g t n) := Lib.hid rfl
              have HM1 : Hid (sumN (fun k' : Nat => sumD (owedD g n k') g t n) (k + 1) = sumN (fun k' : Nat => sumD (owedD g n k') g t n) k + sumD (owedD g n k) g t n) := Lib.hid rfl
              obtain ⟨bv, hbv⟩ : ∃ bv, sumD (owedD g n k) g (t : Int) n = bv := ⟨_, rfl⟩
              obtain ⟨sv, hsv⟩ : ∃ sv, sumN (fun t' : Nat => sumD (owedD g n k) g t' n) t = sv := ⟨_, rfl⟩
              obtain ⟨mv, hmv⟩ : ∃ mv, sumN (fun k' : Nat => sumD (owedD g n k') g t n) k = mv := ⟨_, rfl⟩
              rw [hbv] at s1 hB HS1 HM1
              rw [hsv] at hS HS1
              rw [hmv] at hM HM1 s2
              rw [hsv]
              have hB' : -50000000000 ≤ bv ∧ bv ≤ 50000000000 := hB
              have hS' : -200000000000 ≤ sv ∧ sv ≤ 200000000000 := by omega
              have hM' : -600000000000 ≤ mv ∧ mv ≤ 600000000000 := by omega
              obtain ⟨hB1, hB2⟩ := hB'
              obtain ⟨hS1, hS2⟩ := hS'
              obtain ⟨hM1, hM2⟩ := hM'
              clear hB hS hM hbv hsv hmv hc
              go_wp2_with fail
              go_region
              all_goals (try go_wp2_with fail)
              have hqs : ∀ a, (some ⟨b, o, none⟩ : Option Addr) = some a → H < a.block := HQS.out
              exact ⟨⟨t + 1, by omega, by go_num, by rw [HS1.out], (HN6.out.set t htl (mv + bv)).drew.congr (fun i hi => by
                by_cases e : i = t
                · subst e
                  rw [if_pos (by omega), if_pos rfl, HM1.out]
                · rw [if_neg e]
                  by_cases e2 : i < t
                  · rw [if_pos e2, if_pos (by omega)]
                  · rw [if_neg e2, if_neg (by omega)]), readsI_far HR6.out hqs t (.int .i64 (mv + bv)), (Below_set hbx (b := H) (i := t) (Nat.le_refl H) (.int .i64 (mv + bv))).drew⟩, by simp [intOf]; omega⟩
            · obtain rfl : t = ks := by omega
              have hz : sumN (fun t' : Nat => sumD (owedD g n k) g t' n) t = 0 := teams_zero _ (by omega) n hf48.out
              rw [hz]
              go_wp2_with fail
              exact ⟨⟨k + 1, by omega, by go_num, hNx.congr (fun i hi => (if_pos hi).symm), hbx⟩, by simp [intOf]; omega⟩
        · have hk6 : k = 6 := by omega
          have hNH := hN.congr (f' := fun t : Nat => totF g t n - totF g t 0) (fun i _ => by
            show totF g (i : Int) n - 0 = _
            rw [hk6, owed_all HOK.out HSUB.out]
            omega)
          have nl2 : ¬ (k : Int) < 6 := by omega
          have hNG0 := hNG.congr (f' := fun t : Nat => totF g t n - totF g t 0) (fun i _ => by
            show totF g (i : Int) n - 0 = _
            omega)
          have hGl := hNG.lt
          clear hlt hk6 hN hNG hrd hbk
          have htb : Hid (∀ (t : Int) (i : Nat), i ≤ n → -50000000000 ≤ totF g t i ∧ totF g t i ≤ 50000000000) := Lib.hid (fun t i hi => by
            have h := sumD_bd (d := fun _ => true) (team := t) i (fun j hj => hf48.out j (by omega))
            have h2 : (i : Int) ≤ 48 := by omega
            exact ⟨Int.le_trans (show (-50000000000 : Int) ≤ -(i * 1000000000 : Int) by omega) h.1, Int.le_trans h.2 (show (i * 1000000000 : Int) ≤ 50000000000 by omega)⟩)
          go_wp2_with fail
          go_loopw [21] (fun iv wx => ∃ i : Nat, i ≤ n ∧ iv = .int .i64 i ∧ NBox wx G tn (fun t : Nat => totF g t n - totF g t i) ∧ NBox wx H tn (fun t : Nat => totF g t n - totF g t i) ∧ Below G w4 wx) (fun iv _ => n - (intOf iv).toNat)
          case atStart => exact ⟨0, by omega, rfl, hNG0, hNH, hbG⟩
          case round =>
            obtain ⟨i, hi, rfl, hNg, hNh, hbx⟩ := hrel
            clear a0 a1 a2 hNG0 hNH
            obtain ⟨hrdx, hbkx⟩ := HRG.out wr hbx
            obtain ⟨a0, a1, a2⟩ := hbkx.cells
            by_cases hil : i < n
            · obtain ⟨b, o, rfl, hcs⟩ := hrdx i hil
              obtain ⟨p0, p1, p2, p3, p4, p5, p6⟩ := pcells_of (hcs i hil)
              have v1 : (i : Int) < (n : Int) := by omega
              have v2 : (0 : Int) ≤ (i : Int) := by omega
              have hal : Below wr.heap.size wr (wr.alloc (.cells (g i).cells 27)) := (Below.refl _ _).alloc (Nat.le_refl _) _
              have hpc := PCells.new wr (g i) 27
              obtain ⟨w5, hw5⟩ : ∃ w5, wr.alloc (.cells (g i).cells 27) = w5 := ⟨_, rfl⟩
              have HW5 := Lib.hid (show wr.alloc (.cells #[.int .i64 (g i).kind, .int .i64 (g i).day, .int .i64 (g i).deb, .int .i64 (g i).cre, .int .i64 (g i).amt, .int .i64 (g i).sub, .int .i64 (g i).of] 27) = w5 from hw5)
              rw [hw5] at hal hpc
              have HNG5 := Lib.hid (hNg.below hal)
              have HNH5 := Lib.hid (hNh.below hal)
              have HB5 := Lib.hid (hbx.trans (hal.mono (Nat.le_of_lt hNg.lt)))
              have hPG : G ≠ wr.heap.size := by have := hNg.lt; omega
              have hPH : H ≠ wr.heap.size := by have := hNh.lt; omega
              obtain ⟨P, hP⟩ : ∃ P, wr.heap.size = P := ⟨_, rfl⟩
              have HP := Lib.hid hP
              rw [hP] at hpc hPG hPH
              have HPC := Lib.hid hpc
              obtain ⟨cn, dn, e1, e2, _, _, e5, e8, e9, e6, e7⟩ := formed_teams (hf48.out i hil) (by omega)
              have HEF : Hid (∀ j : Nat, eff (g i) j = (if j = cn then (g i).amt else 0) - (if j = dn then (g i).amt else 0)) := Lib.hid (fun i => by
                unfold eff
                rw [e1, e2]
                by_cases e1 : i = cn <;> by_cases e2 : i = dn
                · omega
                · rw [if_pos (by omega), if_neg (by omega), if_pos e1, if_neg e2]
                · rw [if_neg (by omega), if_pos (by omega), if_neg e1, if_pos e2]
                · rw [if_neg (by omega), if_neg (by omega), if_neg e1, if_neg e2])
              have HT : Hid (∀ t : Int, totF g t (i + 1) = totF g t i + eff (g i) t) := Lib.hid (fun t => rfl)
              have hcb := htb.out (cn : Int) n (Nat.le_refl _)
              have hcb2 := htb.out (cn : Int) i (by omega)
              have hdb := htb.out (dn : Int) n (Nat.le_refl _)
              have hdb2 := htb.out (dn : Int) i (by omega)
              have u0 : (0 : Int) ≤ (cn : Int) := by omega
              have u1 : (cn : Int) < (tn : Int) := by omega
              have u2 : (0 : Int) ≤ (dn : Int) := by omega
              have u3 : (dn : Int) < (tn : Int) := by omega
              have HE1 := Lib.hid e1
              have HE2 := Lib.hid e2
              clear hcs hNg hNh hw5 hal hpc hP hrdx hbkx hbx e1 e2
              go_upto_region 40 with fail
              rw [HW5.out, HP.out]
              clear a0 a1 a2 p0 p1 p2 p3 p4 p5 p6 HW5
              obtain ⟨q0, q1, q2, q3, q4, q5, q6⟩ := HPC.out
              rw [HE1.out] at q3
              rw [HE2.out] at q2
              obtain ⟨a, hae⟩ : ∃ a, (g i).amt = a := ⟨_, rfl⟩
              rw [hae] at q4 e6 e7 HEF
              obtain ⟨y, hy⟩ : ∃ y, totF g (cn : Int) n - totF g (cn : Int) i = y := ⟨_, rfl⟩
              obtain ⟨z, hz⟩ : ∃ z, totF g (dn : Int) n - totF g (dn : Int) i = z := ⟨_, rfl⟩
              have HY := Lib.hid hy
              have HZ := Lib.hid hz
              have hyb : -200000000000 ≤ y ∧ y ≤ 200000000000 := by omega
              have hzb : -200000000000 ≤ z ∧ z ≤ 200000000000 := by omega
              obtain ⟨y1, y2⟩ := hyb
              obtain ⟨z1, z2⟩ := hzb
              have g1 : IntKind.i64.wrap (y - a) = y - a := IntWalk.i64_in _ (by omega)
              have g2 : IntKind.i64.wrap (z + a) = z + a := IntWalk.i64_in _ (by omega)
              clear hae hy hz hcb hcb2 hdb hdb2 q0 q1 q5 q6
              have x1 : w5.cell? ⟨G, cn, none⟩ = some (.int .i64 y) := by rw [← HY.out]; exact HNG5.out.cell cn e8
              have x2 := HNG5.out.free cn
              refine wp_region_held_drew (S := (fun W => W.cell? ⟨P, 0 + 2, none⟩ = some (.int .i64 (dn : Int)) ∧ W.cell? ⟨P, 0 + 3, none⟩ = some (.int .i64 (cn : Int)) ∧ W.cell? ⟨P, 0 + 4, none⟩ = some (.int .i64 a))) (by kernel_rfl) ?_ (fun hHeld => ?_)
              · exact ⟨q2, q3, q4⟩
              refine wpAnyH_take (i := 0) (v := ?_) rfl (by kernel_rfl) (by kernel_rfl) (by kernel_rfl) (fun _ _ _ h => h) (Or.inl ⟨by rfl, ?_⟩) (by assumption) ?_
              rotate_left
              · intro w hSw
                try dsimp only at hSw
                go_simp
                all_goals with_reducible rfl
              try simp only [Act.put, List.getElem_toArray, List.getElem_cons_zero, List.setIfInBounds_toArray, List.set_cons_zero, List.set_cons_succ]
              refine wpAnyH_take (i := 1) (v := ?_) rfl (by kernel_rfl) (by kernel_rfl) (by kernel_rfl) (fun _ _ _ h => h) (Or.inl ⟨by rfl, ?_⟩) (by assumption) ?_
              rotate_left
              · intro w hSw
                try dsimp only at hSw
                go_simp
                all_goals with_reducible rfl
              try simp only [Act.put, List.getElem_toArray, List.getElem_cons_succ, List.getElem_cons_zero, List.setIfInBounds_toArray, List.set_cons_zero, List.set_cons_succ]
              refine wpAnyH_take (i := 2) (v := ?_) rfl (by kernel_rfl) (by kernel_rfl) (by kernel_rfl) (fun _ _ _ h => h) (Or.inl ⟨by rfl, ?_⟩) (by assumption) ?_
              rotate_left
              · intro w hSw
                try dsimp only at hSw
                go_simp
                all_goals with_reducible rfl
              try simp only [Act.put, List.getElem_toArray, List.getElem_cons_succ, List.getElem_cons_zero, List.setIfInBounds_toArray, List.set_cons_zero, List.set_cons_succ]
              refine wpAnyH_take (i := 3) (v := ?_) rfl (by kernel_rfl) (by kernel_rfl) (by kernel_rfl) (fun _ _ _ h => h) (Or.inl ⟨by rfl, ?_⟩) (by assumption) ?_
              rotate_left
              · intro w hSw
                try dsimp only at hSw
                go_simp
                all_goals with_reducible rfl
              try simp only [Act.put, List.getElem_toArray, List.getElem_cons_succ, List.getElem_cons_zero, List.setIfInBounds_toArray, List.set_cons_zero, List.set_cons_succ]
              refine wpAnyH_take (i := 4) (v := ?_) rfl (by kernel_rfl) (by kernel_rfl) (by kernel_rfl) (fun _ _ _ h => h) (Or.inl ⟨by rfl, ?_⟩) (by assumption) ?_
              rotate_left
              · intro w hSw
                try dsimp only at hSw
                go_simp
                all_goals with_reducible rfl
              try simp only [Act.put, List.getElem_toArray, List.getElem_cons_succ, List.getElem_cons_zero, List.setIfInBounds_toArray, List.set_cons_zero, List.set_cons_succ]
              refine wpAnyH_take (i := 5) (v := ?_) rfl (by kernel_rfl) (by kernel_rfl) (by kernel_rfl) (fun _ _ _ h => h) (Or.inl ⟨by rfl, ?_⟩) (by assumption) ?_
              rotate_left
              · intro w hSw
                try dsimp only at hSw
                go_simp
                all_goals with_reducible rfl
              try simp only [Act.put, List.getElem_toArray, List.getElem_cons_succ, List.getElem_cons_zero, List.setIfInBounds_toArray, List.set_cons_zero, List.set_cons_succ]
              refine wpAnyH_take (i := 6) (v := ?_) rfl (by kernel_rfl) (by kernel_rfl) (by kernel_rfl) (fun _ _ _ h => h) (Or.inl ⟨by rfl, ?_⟩) (by assumption) ?_
              rotate_left
              · intro w hSw
                try dsimp only at hSw
                go_simp
                all_goals with_reducible rfl
              try simp only [Act.put, List.getElem_toArray, List.getElem_cons_succ, List.getElem_cons_zero, List.setIfInBounds_toArray, List.set_cons_zero, List.set_cons_succ]
              refine wpAnyH_take (i := 8) (v := ?_) rfl (by kernel_rfl) (by kernel_rfl) (by kernel_rfl) (fun _ _ _ h => h) (Or.inl ⟨by rfl, ?_⟩) (by assumption) ?_
              rotate_left
              · intro w hSw
                try dsimp only at hSw
                go_simp
                all_goals with_reducible rfl
              try simp only [Act.put, List.getElem_toArray, List.getElem_cons_succ, List.getElem_cons_zero, List.setIfInBounds_toArray, List.set_cons_zero, List.set_cons_succ]
              refine wpAnyH_take (i := 9) (v := ?_) rfl (by kernel_rfl) (by kernel_rfl) (by kernel_rfl) (fun _ _ _ h => h) (Or.inl ⟨by rfl, ?_⟩) (by assumption) ?_
              rotate_left
              · intro w hSw
                try dsimp only at hSw
                go_simp
                all_goals with_reducible rfl
              try simp only [Act.put, List.getElem_toArray, List.getElem_cons_succ, List.getElem_cons_zero, List.setIfInBounds_toArray, List.set_cons_zero, List.set_cons_succ]
              refine wpAnyH_ready (rs := [7]) (by kernel_rfl) (by simp) ?_
              refine AllReadyH.cons rfl (fun K hK => ?_) AllReadyH.nil
              go_simp
              refine hK.out _ _ ?_ (fun hHeld2 => ?_)
              · assumption
              clear hK K hHeld
              have hHeld := hHeld2
              clear hHeld2
              try simp only [Act.put, List.getElem_toArray, List.getElem_cons_succ, List.getElem_cons_zero, List.setIfInBounds_toArray, List.set_cons_zero, List.set_cons_succ]
              refine wpAnyH_take (i := 10) (v := ?_) rfl (by kernel_rfl) (by kernel_rfl) (by kernel_rfl) (fun _ _ _ h => h) (Or.inl ⟨by rfl, ?_⟩) (by assumption) ?_
              rotate_left
              · intro w hSw
                try dsimp only at hSw
                go_simp
                all_goals with_reducible rfl
              try simp only [Act.put, List.getElem_toArray, List.getElem_cons_succ, List.getElem_cons_zero, List.setIfInBounds_toArray, List.set_cons_zero, List.set_cons_succ]
              refine wpAnyH_take (i := 11) (v := ?_) rfl (by kernel_rfl) (by kernel_rfl) (by kernel_rfl) (fun _ _ _ h => h) (Or.inl ⟨by rfl, ?_⟩) (by assumption) ?_
              rotate_left
              · intro w hSw
                try dsimp only at hSw
                go_simp
                all_goals with_reducible rfl
              try simp only [Act.put, List.getElem_toArray, List.getElem_cons_succ, List.getElem_cons_zero, List.setIfInBounds_toArray, List.set_cons_zero, List.set_cons_succ]
              refine wpAnyH_ready (rs := [12]) (by kernel_rfl) (by simp) ?_
              refine AllReadyH.cons rfl (fun K hK => ?_) AllReadyH.nil
              go_simp
              refine hK.out _ _ ?_ (fun hHeld2 => ?_)
              · exact ⟨(World.cell?_setCell_far w5 ⟨G, cn, none⟩ ⟨P, 0 + 2, none⟩ _ hPG).trans q2, (World.cell?_setCell_far w5 ⟨G, cn, none⟩ ⟨P, 0 + 3, none⟩ _ hPG).trans q3, (World.cell?_setCell_far w5 ⟨G, cn, none⟩ ⟨P, 0 + 4, none⟩ _ hPG).trans q4⟩
              clear hK K hHeld
              have hHeld := hHeld2
              clear hHeld2
              try simp only [Act.put, List.getElem_toArray, List.getElem_cons_succ, List.getElem_cons_zero, List.setIfInBounds_toArray, List.set_cons_zero, List.set_cons_succ]
              refine wpAnyH_done (by kernel_rfl) ?_ _
              go_wp2_with fail
              have HNG6 := Lib.hid ((HNG5.out.set cn e8 (y - a)).drew)
              have HNH6 := Lib.hid ((HNH5.out.other (i := cn) (show G ≠ H by omega) (.int .i64 (y - a))).drew)
              have HB6 : Hid (Below G w4 (w5.setCell ⟨G, cn, none⟩ (.int .i64 (y - a))).drew) := Lib.hid (Below_set HB5.out (b := G) (i := cn) (Nat.le_refl G) (.int .i64 (y - a))).drew
              have r2 : (w5.setCell ⟨G, cn, none⟩ (.int .i64 (y - a))).drew.cell? ⟨P, 0 + 2, none⟩ = _ := (World.cell?_setCell_far w5 ⟨G, cn, none⟩ ⟨P, 0 + 2, none⟩ _ hPG).trans q2
              have r3 : (w5.setCell ⟨G, cn, none⟩ (.int .i64 (y - a))).drew.cell? ⟨P, 0 + 3, none⟩ = _ := (World.cell?_setCell_far w5 ⟨G, cn, none⟩ ⟨P, 0 + 3, none⟩ _ hPG).trans q3
              have r4 : (w5.setCell ⟨G, cn, none⟩ (.int .i64 (y - a))).drew.cell? ⟨P, 0 + 4, none⟩ = _ := (World.cell?_setCell_far w5 ⟨G, cn, none⟩ ⟨P, 0 + 4, none⟩ _ hPG).trans q4
              obtain ⟨w6, hw6⟩ : ∃ w6, (w5.setCell ⟨G, cn, none⟩ (.int .i64 (y - a))).drew = w6 := ⟨_, rfl⟩
              rw [hw6] at HNG6 HNH6 HB6 r2 r3 r4 ⊢
              clear hw6 x1 x2 q2 q3 q4
              have x1 : w6.cell? ⟨G, dn, none⟩ = some (.int .i64 z) := by
                have h := HNG6.out.cell dn e9
                simp only [if_neg (show ¬ dn = cn from fun e => e5 e.symm)] at h
                rwa [HZ.out] at h
              have x2 := HNG6.out.free dn
              refine wp_region_held_drew (S := (fun W => W.cell? ⟨P, 0 + 2, none⟩ = some (.int .i64 (dn : Int)) ∧ W.cell? ⟨P, 0 + 3, none⟩ = some (.int .i64 (cn : Int)) ∧ W.cell? ⟨P, 0 + 4, none⟩ = some (.int .i64 a))) (by kernel_rfl) ?_ (fun hHeld => ?_)
              · exact ⟨r2, r3, r4⟩
              refine wpAnyH_take (i := 0) (v := ?_) rfl (by kernel_rfl) (by kernel_rfl) (by kernel_rfl) (fun _ _ _ h => h) (Or.inl ⟨by rfl, ?_⟩) (by assumption) ?_
              rotate_left
              · intro w hSw
                try dsimp only at hSw
                go_simp
                all_goals with_reducible rfl
              try simp only [Act.put, List.getElem_toArray, List.getElem_cons_zero, List.setIfInBounds_toArray, List.set_cons_zero, List.set_cons_succ]
              refine wpAnyH_take (i := 1) (v := ?_) rfl (by kernel_rfl) (by kernel_rfl) (by kernel_rfl) (fun _ _ _ h => h) (Or.inl ⟨by rfl, ?_⟩) (by assumption) ?_
              rotate_left
              · intro w hSw
                try dsimp only at hSw
                go_simp
                all_goals with_reducible rfl
              try simp only [Act.put, List.getElem_toArray, List.getElem_cons_succ, List.getElem_cons_zero, List.setIfInBounds_toArray, List.set_cons_zero, List.set_cons_succ]
              refine wpAnyH_take (i := 2) (v := ?_) rfl (by kernel_rfl) (by kernel_rfl) (by kernel_rfl) (fun _ _ _ h => h) (Or.inl ⟨by rfl, ?_⟩) (by assumption) ?_
              rotate_left
              · intro w hSw
                try dsimp only at hSw
                go_simp
                all_goals with_reducible rfl
              try simp only [Act.put, List.getElem_toArray, List.getElem_cons_succ, List.getElem_cons_zero, List.setIfInBounds_toArray, List.set_cons_zero, List.set_cons_succ]
              refine wpAnyH_take (i := 3) (v := ?_) rfl (by kernel_rfl) (by kernel_rfl) (by kernel_rfl) (fun _ _ _ h => h) (Or.inl ⟨by rfl, ?_⟩) (by assumption) ?_
              rotate_left
              · intro w hSw
                try dsimp only at hSw
                go_simp
                all_goals with_reducible rfl
              try simp only [Act.put, List.getElem_toArray, List.getElem_cons_succ, List.getElem_cons_zero, List.setIfInBounds_toArray, List.set_cons_zero, List.set_cons_succ]
              refine wpAnyH_take (i := 4) (v := ?_) rfl (by kernel_rfl) (by kernel_rfl) (by kernel_rfl) (fun _ _ _ h => h) (Or.inl ⟨by rfl, ?_⟩) (by assumption) ?_
              rotate_left
              · intro w hSw
                try dsimp only at hSw
                go_simp
                all_goals with_reducible rfl
              try simp only [Act.put, List.getElem_toArray, List.getElem_cons_succ, List.getElem_cons_zero, List.setIfInBounds_toArray, List.set_cons_zero, List.set_cons_succ]
              refine wpAnyH_take (i := 5) (v := ?_) rfl (by kernel_rfl) (by kernel_rfl) (by kernel_rfl) (fun _ _ _ h => h) (Or.inl ⟨by rfl, ?_⟩) (by assumption) ?_
              rotate_left
              · intro w hSw
                try dsimp only at hSw
                go_simp
                all_goals with_reducible rfl
              try simp only [Act.put, List.getElem_toArray, List.getElem_cons_succ, List.getElem_cons_zero, List.setIfInBounds_toArray, List.set_cons_zero, List.set_cons_succ]
              refine wpAnyH_take (i := 6) (v := ?_) rfl (by kernel_rfl) (by kernel_rfl) (by kernel_rfl) (fun _ _ _ h => h) (Or.inl ⟨by rfl, ?_⟩) (by assumption) ?_
              rotate_left
              · intro w hSw
                try dsimp only at hSw
                go_simp
                all_goals with_reducible rfl
              try simp only [Act.put, List.getElem_toArray, List.getElem_cons_succ, List.getElem_cons_zero, List.setIfInBounds_toArray, List.set_cons_zero, List.set_cons_succ]
              refine wpAnyH_take (i := 8) (v := ?_) rfl (by kernel_rfl) (by kernel_rfl) (by kernel_rfl) (fun _ _ _ h => h) (Or.inl ⟨by rfl, ?_⟩) (by assumption) ?_
              rotate_left
              · intro w hSw
                try dsimp only at hSw
                go_simp
                all_goals with_reducible rfl
              try simp only [Act.put, List.getElem_toArray, List.getElem_cons_succ, List.getElem_cons_zero, List.setIfInBounds_toArray, List.set_cons_zero, List.set_cons_succ]
              refine wpAnyH_take (i := 9) (v := ?_) rfl (by kernel_rfl) (by kernel_rfl) (by kernel_rfl) (fun _ _ _ h => h) (Or.inl ⟨by rfl, ?_⟩) (by assumption) ?_
              rotate_left
              · intro w hSw
                try dsimp only at hSw
                go_simp
                all_goals with_reducible rfl
              try simp only [Act.put, List.getElem_toArray, List.getElem_cons_succ, List.getElem_cons_zero, List.setIfInBounds_toArray, List.set_cons_zero, List.set_cons_succ]
              refine wpAnyH_ready (rs := [7]) (by kernel_rfl) (by simp) ?_
              refine AllReadyH.cons rfl (fun K hK => ?_) AllReadyH.nil
              go_simp
              refine hK.out _ _ ?_ (fun hHeld2 => ?_)
              · assumption
              clear hK K hHeld
              have hHeld := hHeld2
              clear hHeld2
              try simp only [Act.put, List.getElem_toArray, List.getElem_cons_succ, List.getElem_cons_zero, List.setIfInBounds_toArray, List.set_cons_zero, List.set_cons_succ]
              refine wpAnyH_take (i := 10) (v := ?_) rfl (by kernel_rfl) (by kernel_rfl) (by kernel_rfl) (fun _ _ _ h => h) (Or.inl ⟨by rfl, ?_⟩) (by assumption) ?_
              rotate_left
              · intro w hSw
                try dsimp only at hSw
                go_simp
                all_goals with_reducible rfl
              try simp only [Act.put, List.getElem_toArray, List.getElem_cons_succ, List.getElem_cons_zero, List.setIfInBounds_toArray, List.set_cons_zero, List.set_cons_succ]
              refine wpAnyH_take (i := 11) (v := ?_) rfl (by kernel_rfl) (by kernel_rfl) (by kernel_rfl) (fun _ _ _ h => h) (Or.inl ⟨by rfl, ?_⟩) (by assumption) ?_
              rotate_left
              · intro w hSw
                try dsimp only at hSw
                go_simp
                all_goals with_reducible rfl
              try simp only [Act.put, List.getElem_toArray, List.getElem_cons_succ, List.getElem_cons_zero, List.setIfInBounds_toArray, List.set_cons_zero, List.set_cons_succ]
              refine wpAnyH_ready (rs := [12]) (by kernel_rfl) (by simp) ?_
              refine AllReadyH.cons rfl (fun K hK => ?_) AllReadyH.nil
              go_simp
              refine hK.out _ _ ?_ (fun hHeld2 => ?_)
              · exact ⟨(World.cell?_setCell_far w6 ⟨G, dn, none⟩ ⟨P, 0 + 2, none⟩ _ hPG).trans r2, (World.cell?_setCell_far w6 ⟨G, dn, none⟩ ⟨P, 0 + 3, none⟩ _ hPG).trans r3, (World.cell?_setCell_far w6 ⟨G, dn, none⟩ ⟨P, 0 + 4, none⟩ _ hPG).trans r4⟩
              clear hK K hHeld
              have hHeld := hHeld2
              clear hHeld2
              try simp only [Act.put, List.getElem_toArray, List.getElem_cons_succ, List.getElem_cons_zero, List.setIfInBounds_toArray, List.set_cons_zero, List.set_cons_succ]
              refine wpAnyH_done (by kernel_rfl) ?_ _
              go_wp2_with fail
              have HNG7 := Lib.hid ((HNG6.out.set dn e9 (z + a)).drew)
              have HNH7 := Lib.hid ((HNH6.out.other (i := dn) (show G ≠ H by omega) (.int .i64 (z + a))).drew)
              have HB7 : Hid (Below G w4 (w6.setCell ⟨G, dn, none⟩ (.int .i64 (z + a))).drew) := Lib.hid (Below_set HB6.out (b := G) (i := dn) (Nat.le_refl G) (.int .i64 (z + a))).drew
              have q2 : (w6.setCell ⟨G, dn, none⟩ (.int .i64 (z + a))).drew.cell? ⟨P, 0 + 2, none⟩ = _ := (World.cell?_setCell_far w6 ⟨G, dn, none⟩ ⟨P, 0 + 2, none⟩ _ hPG).trans r2
              have q3 : (w6.setCell ⟨G, dn, none⟩ (.int .i64 (z + a))).drew.cell? ⟨P, 0 + 3, none⟩ = _ := (World.cell?_setCell_far w6 ⟨G, dn, none⟩ ⟨P, 0 + 3, none⟩ _ hPG).trans r3
              have q4 : (w6.setCell ⟨G, dn, none⟩ (.int .i64 (z + a))).drew.cell? ⟨P, 0 + 4, none⟩ = _ := (World.cell?_setCell_far w6 ⟨G, dn, none⟩ ⟨P, 0 + 4, none⟩ _ hPG).trans r4
              obtain ⟨w7, hw7⟩ : ∃ w7, (w6.setCell ⟨G, dn, none⟩ (.int .i64 (z + a))).drew = w7 := ⟨_, rfl⟩
              rw [hw7] at HNG7 HNH7 HB7 q2 q3 q4 ⊢
              clear hw7 x1 x2 r2 r3 r4
              have x1 : w7.cell? ⟨H, cn, none⟩ = some (.int .i64 y) := by rw [← HY.out]; exact HNH7.out.cell cn e8
              have x2 := HNH7.out.free cn
              refine wp_region_held_drew (S := (fun W => W.cell? ⟨P, 0 + 2, none⟩ = some (.int .i64 (dn : Int)) ∧ W.cell? ⟨P, 0 + 3, none⟩ = some (.int .i64 (cn : Int)) ∧ W.cell? ⟨P, 0 + 4, none⟩ = some (.int .i64 a))) (by kernel_rfl) ?_ (fun hHeld => ?_)
              · exact ⟨q2, q3, q4⟩
              refine wpAnyH_take (i := 0) (v := ?_) rfl (by kernel_rfl) (by kernel_rfl) (by kernel_rfl) (fun _ _ _ h => h) (Or.inl ⟨by rfl, ?_⟩) (by assumption) ?_
              rotate_left
              · intro w hSw
                try dsimp only at hSw
                go_simp
                all_goals with_reducible rfl
              try simp only [Act.put, List.getElem_toArray, List.getElem_cons_zero, List.setIfInBounds_toArray, List.set_cons_zero, List.set_cons_succ]
              refine wpAnyH_take (i := 1) (v := ?_) rfl (by kernel_rfl) (by kernel_rfl) (by kernel_rfl) (fun _ _ _ h => h) (Or.inl ⟨by rfl, ?_⟩) (by assumption) ?_
              rotate_left
              · intro w hSw
                try dsimp only at hSw
                go_simp
                all_goals with_reducible rfl
              try simp only [Act.put, List.getElem_toArray, List.getElem_cons_succ, List.getElem_cons_zero, List.setIfInBounds_toArray, List.set_cons_zero, List.set_cons_succ]
              refine wpAnyH_take (i := 2) (v := ?_) rfl (by kernel_rfl) (by kernel_rfl) (by kernel_rfl) (fun _ _ _ h => h) (Or.inl ⟨by rfl, ?_⟩) (by assumption) ?_
              rotate_left
              · intro w hSw
                try dsimp only at hSw
                go_simp
                all_goals with_reducible rfl
              try simp only [Act.put, List.getElem_toArray, List.getElem_cons_succ, List.getElem_cons_zero, List.setIfInBounds_toArray, List.set_cons_zero, List.set_cons_succ]
              refine wpAnyH_take (i := 3) (v := ?_) rfl (by kernel_rfl) (by kernel_rfl) (by kernel_rfl) (fun _ _ _ h => h) (Or.inl ⟨by rfl, ?_⟩) (by assumption) ?_
              rotate_left
              · intro w hSw
                try dsimp only at hSw
                go_simp
                all_goals with_reducible rfl
              try simp only [Act.put, List.getElem_toArray, List.getElem_cons_succ, List.getElem_cons_zero, List.setIfInBounds_toArray, List.set_cons_zero, List.set_cons_succ]
              refine wpAnyH_take (i := 4) (v := ?_) rfl (by kernel_rfl) (by kernel_rfl) (by kernel_rfl) (fun _ _ _ h => h) (Or.inl ⟨by rfl, ?_⟩) (by assumption) ?_
              rotate_left
              · intro w hSw
                try dsimp only at hSw
                go_simp
                all_goals with_reducible rfl
              try simp only [Act.put, List.getElem_toArray, List.getElem_cons_succ, List.getElem_cons_zero, List.setIfInBounds_toArray, List.set_cons_zero, List.set_cons_succ]
              refine wpAnyH_take (i := 5) (v := ?_) rfl (by kernel_rfl) (by kernel_rfl) (by kernel_rfl) (fun _ _ _ h => h) (Or.inl ⟨by rfl, ?_⟩) (by assumption) ?_
              rotate_left
              · intro w hSw
                try dsimp only at hSw
                go_simp
                all_goals with_reducible rfl
              try simp only [Act.put, List.getElem_toArray, List.getElem_cons_succ, List.getElem_cons_zero, List.setIfInBounds_toArray, List.set_cons_zero, List.set_cons_succ]
              refine wpAnyH_take (i := 6) (v := ?_) rfl (by kernel_rfl) (by kernel_rfl) (by kernel_rfl) (fun _ _ _ h => h) (Or.inl ⟨by rfl, ?_⟩) (by assumption) ?_
              rotate_left
              · intro w hSw
                try dsimp only at hSw
                go_simp
                all_goals with_reducible rfl
              try simp only [Act.put, List.getElem_toArray, List.getElem_cons_succ, List.getElem_cons_zero, List.setIfInBounds_toArray, List.set_cons_zero, List.set_cons_succ]
              refine wpAnyH_take (i := 8) (v := ?_) rfl (by kernel_rfl) (by kernel_rfl) (by kernel_rfl) (fun _ _ _ h => h) (Or.inl ⟨by rfl, ?_⟩) (by assumption) ?_
              rotate_left
              · intro w hSw
                try dsimp only at hSw
                go_simp
                all_goals with_reducible rfl
              try simp only [Act.put, List.getElem_toArray, List.getElem_cons_succ, List.getElem_cons_zero, List.setIfInBounds_toArray, List.set_cons_zero, List.set_cons_succ]
              refine wpAnyH_take (i := 9) (v := ?_) rfl (by kernel_rfl) (by kernel_rfl) (by kernel_rfl) (fun _ _ _ h => h) (Or.inl ⟨by rfl, ?_⟩) (by assumption) ?_
              rotate_left
              · intro w hSw
                try dsimp only at hSw
                go_simp
                all_goals with_reducible rfl
              try simp only [Act.put, List.getElem_toArray, List.getElem_cons_succ, List.getElem_cons_zero, List.setIfInBounds_toArray, List.set_cons_zero, List.set_cons_succ]
              refine wpAnyH_ready (rs := [7]) (by kernel_rfl) (by simp) ?_
              refine AllReadyH.cons rfl (fun K hK => ?_) AllReadyH.nil
              go_simp
              refine hK.out _ _ ?_ (fun hHeld2 => ?_)
              · assumption
              clear hK K hHeld
              have hHeld := hHeld2
              clear hHeld2
              try simp only [Act.put, List.getElem_toArray, List.getElem_cons_succ, List.getElem_cons_zero, List.setIfInBounds_toArray, List.set_cons_zero, List.set_cons_succ]
              refine wpAnyH_take (i := 10) (v := ?_) rfl (by kernel_rfl) (by kernel_rfl) (by kernel_rfl) (fun _ _ _ h => h) (Or.inl ⟨by rfl, ?_⟩) (by assumption) ?_
              rotate_left
              · intro w hSw
                try dsimp only at hSw
                go_simp
                all_goals with_reducible rfl
              try simp only [Act.put, List.getElem_toArray, List.getElem_cons_succ, List.getElem_cons_zero, List.setIfInBounds_toArray, List.set_cons_zero, List.set_cons_succ]
              refine wpAnyH_take (i := 11) (v := ?_) rfl (by kernel_rfl) (by kernel_rfl) (by kernel_rfl) (fun _ _ _ h => h) (Or.inl ⟨by rfl, ?_⟩) (by assumption) ?_
              rotate_left
              · intro w hSw
                try dsimp only at hSw
                go_simp
                all_goals with_reducible rfl
              try simp only [Act.put, List.getElem_toArray, List.getElem_cons_succ, List.getElem_cons_zero, List.setIfInBounds_toArray, List.set_cons_zero, List.set_cons_succ]
              refine wpAnyH_ready (rs := [12]) (by kernel_rfl) (by simp) ?_
              refine AllReadyH.cons rfl (fun K hK => ?_) AllReadyH.nil
              go_simp
              refine hK.out _ _ ?_ (fun hHeld2 => ?_)
              · exact ⟨(World.cell?_setCell_far w7 ⟨H, cn, none⟩ ⟨P, 0 + 2, none⟩ _ hPH).trans q2, (World.cell?_setCell_far w7 ⟨H, cn, none⟩ ⟨P, 0 + 3, none⟩ _ hPH).trans q3, (World.cell?_setCell_far w7 ⟨H, cn, none⟩ ⟨P, 0 + 4, none⟩ _ hPH).trans q4⟩
              clear hK K hHeld
              have hHeld := hHeld2
              clear hHeld2
              try simp only [Act.put, List.getElem_toArray, List.getElem_cons_succ, List.getElem_cons_zero, List.setIfInBounds_toArray, List.set_cons_zero, List.set_cons_succ]
              refine wpAnyH_done (by kernel_rfl) ?_ _
              go_wp2_with fail
              have HNH8 := Lib.hid ((HNH7.out.set cn e8 (y - a)).drew)
              have HNG8 := Lib.hid ((HNG7.out.other (i := cn) (show H ≠ G by omega) (.int .i64 (y - a))).drew)
              have HB8 : Hid (Below G w4 (w7.setCell ⟨H, cn, none⟩ (.int .i64 (y - a))).drew) := Lib.hid (Below_set HB7.out (b := H) (i := cn) (Nat.le_of_lt hGH) (.int .i64 (y - a))).drew
              have r2 : (w7.setCell ⟨H, cn, none⟩ (.int .i64 (y - a))).drew.cell? ⟨P, 0 + 2, none⟩ = _ := (World.cell?_setCell_far w7 ⟨H, cn, none⟩ ⟨P, 0 + 2, none⟩ _ hPH).trans q2
              have r3 : (w7.setCell ⟨H, cn, none⟩ (.int .i64 (y - a))).drew.cell? ⟨P, 0 + 3, none⟩ = _ := (World.cell?_setCell_far w7 ⟨H, cn, none⟩ ⟨P, 0 + 3, none⟩ _ hPH).trans q3
              have r4 : (w7.setCell ⟨H, cn, none⟩ (.int .i64 (y - a))).drew.cell? ⟨P, 0 + 4, none⟩ = _ := (World.cell?_setCell_far w7 ⟨H, cn, none⟩ ⟨P, 0 + 4, none⟩ _ hPH).trans q4
              obtain ⟨w9, hw9⟩ : ∃ w9, (w7.setCell ⟨H, cn, none⟩ (.int .i64 (y - a))).drew = w9 := ⟨_, rfl⟩
              rw [hw9] at HNG8 HNH8 HB8 r2 r3 r4 ⊢
              clear hw9 x1 x2 q2 q3 q4
              have x1 : w9.cell? ⟨H, dn, none⟩ = some (.int .i64 z) := by
                have h := HNH8.out.cell dn e9
                simp only [if_neg (show ¬ dn = cn from fun e => e5 e.symm)] at h
                rwa [HZ.out] at h
              have x2 := HNH8.out.free dn
              refine wp_region_held_drew (S := (fun W => W.cell? ⟨P, 0 + 2, none⟩ = some (.int .i64 (dn : Int)) ∧ W.cell? ⟨P, 0 + 3, none⟩ = some (.int .i64 (cn : Int)) ∧ W.cell? ⟨P, 0 + 4, none⟩ = some (.int .i64 a))) (by kernel_rfl) ?_ (fun hHeld => ?_)
              · exact ⟨r2, r3, r4⟩
              refine wpAnyH_take (i := 0) (v := ?_) rfl (by kernel_rfl) (by kernel_rfl) (by kernel_rfl) (fun _ _ _ h => h) (Or.inl ⟨by rfl, ?_⟩) (by assumption) ?_
              rotate_left
              · intro w hSw
                try dsimp only at hSw
                go_simp
                all_goals with_reducible rfl
              try simp only [Act.put, List.getElem_toArray, List.getElem_cons_zero, List.setIfInBounds_toArray, List.set_cons_zero, List.set_cons_succ]
              refine wpAnyH_take (i := 1) (v := ?_) rfl (by kernel_rfl) (by kernel_rfl) (by kernel_rfl) (fun _ _ _ h => h) (Or.inl ⟨by rfl, ?_⟩) (by assumption) ?_
              rotate_left
              · intro w hSw
                try dsimp only at hSw
                go_simp
                all_goals with_reducible rfl
              try simp only [Act.put, List.getElem_toArray, List.getElem_cons_succ, List.getElem_cons_zero, List.setIfInBounds_toArray, List.set_cons_zero, List.set_cons_succ]
              refine wpAnyH_take (i := 2) (v := ?_) rfl (by kernel_rfl) (by kernel_rfl) (by kernel_rfl) (fun _ _ _ h => h) (Or.inl ⟨by rfl, ?_⟩) (by assumption) ?_
              rotate_left
              · intro w hSw
                try dsimp only at hSw
                go_simp
                all_goals with_reducible rfl
              try simp only [Act.put, List.getElem_toArray, List.getElem_cons_succ, List.getElem_cons_zero, List.setIfInBounds_toArray, List.set_cons_zero, List.set_cons_succ]
              refine wpAnyH_take (i := 3) (v := ?_) rfl (by kernel_rfl) (by kernel_rfl) (by kernel_rfl) (fun _ _ _ h => h) (Or.inl ⟨by rfl, ?_⟩) (by assumption) ?_
              rotate_left
              · intro w hSw
                try dsimp only at hSw
                go_simp
                all_goals with_reducible rfl
              try simp only [Act.put, List.getElem_toArray, List.getElem_cons_succ, List.getElem_cons_zero, List.setIfInBounds_toArray, List.set_cons_zero, List.set_cons_succ]
              refine wpAnyH_take (i := 4) (v := ?_) rfl (by kernel_rfl) (by kernel_rfl) (by kernel_rfl) (fun _ _ _ h => h) (Or.inl ⟨by rfl, ?_⟩) (by assumption) ?_
              rotate_left
              · intro w hSw
                try dsimp only at hSw
                go_simp
                all_goals with_reducible rfl
              try simp only [Act.put, List.getElem_toArray, List.getElem_cons_succ, List.getElem_cons_zero, List.setIfInBounds_toArray, List.set_cons_zero, List.set_cons_succ]
              refine wpAnyH_take (i := 5) (v := ?_) rfl (by kernel_rfl) (by kernel_rfl) (by kernel_rfl) (fun _ _ _ h => h) (Or.inl ⟨by rfl, ?_⟩) (by assumption) ?_
              rotate_left
              · intro w hSw
                try dsimp only at hSw
                go_simp
                all_goals with_reducible rfl
              try simp only [Act.put, List.getElem_toArray, List.getElem_cons_succ, List.getElem_cons_zero, List.setIfInBounds_toArray, List.set_cons_zero, List.set_cons_succ]
              refine wpAnyH_take (i := 6) (v := ?_) rfl (by kernel_rfl) (by kernel_rfl) (by kernel_rfl) (fun _ _ _ h => h) (Or.inl ⟨by rfl, ?_⟩) (by assumption) ?_
              rotate_left
              · intro w hSw
                try dsimp only at hSw
                go_simp
                all_goals with_reducible rfl
              try simp only [Act.put, List.getElem_toArray, List.getElem_cons_succ, List.getElem_cons_zero, List.setIfInBounds_toArray, List.set_cons_zero, List.set_cons_succ]
              refine wpAnyH_take (i := 8) (v := ?_) rfl (by kernel_rfl) (by kernel_rfl) (by kernel_rfl) (fun _ _ _ h => h) (Or.inl ⟨by rfl, ?_⟩) (by assumption) ?_
              rotate_left
              · intro w hSw
                try dsimp only at hSw
                go_simp
                all_goals with_reducible rfl
              try simp only [Act.put, List.getElem_toArray, List.getElem_cons_succ, List.getElem_cons_zero, List.setIfInBounds_toArray, List.set_cons_zero, List.set_cons_succ]
              refine wpAnyH_take (i := 9) (v := ?_) rfl (by kernel_rfl) (by kernel_rfl) (by kernel_rfl) (fun _ _ _ h => h) (Or.inl ⟨by rfl, ?_⟩) (by assumption) ?_
              rotate_left
              · intro w hSw
                try dsimp only at hSw
                go_simp
                all_goals with_reducible rfl
              try simp only [Act.put, List.getElem_toArray, List.getElem_cons_succ, List.getElem_cons_zero, List.setIfInBounds_toArray, List.set_cons_zero, List.set_cons_succ]
              refine wpAnyH_ready (rs := [7]) (by kernel_rfl) (by simp) ?_
              refine AllReadyH.cons rfl (fun K hK => ?_) AllReadyH.nil
              go_simp
              refine hK.out _ _ ?_ (fun hHeld2 => ?_)
              · assumption
              clear hK K hHeld
              have hHeld := hHeld2
              clear hHeld2
              try simp only [Act.put, List.getElem_toArray, List.getElem_cons_succ, List.getElem_cons_zero, List.setIfInBounds_toArray, List.set_cons_zero, List.set_cons_succ]
              refine wpAnyH_take (i := 10) (v := ?_) rfl (by kernel_rfl) (by kernel_rfl) (by kernel_rfl) (fun _ _ _ h => h) (Or.inl ⟨by rfl, ?_⟩) (by assumption) ?_
              rotate_left
              · intro w hSw
                try dsimp only at hSw
                go_simp
                all_goals with_reducible rfl
              try simp only [Act.put, List.getElem_toArray, List.getElem_cons_succ, List.getElem_cons_zero, List.setIfInBounds_toArray, List.set_cons_zero, List.set_cons_succ]
              refine wpAnyH_take (i := 11) (v := ?_) rfl (by kernel_rfl) (by kernel_rfl) (by kernel_rfl) (fun _ _ _ h => h) (Or.inl ⟨by rfl, ?_⟩) (by assumption) ?_
              rotate_left
              · intro w hSw
                try dsimp only at hSw
                go_simp
                all_goals with_reducible rfl
              try simp only [Act.put, List.getElem_toArray, List.getElem_cons_succ, List.getElem_cons_zero, List.setIfInBounds_toArray, List.set_cons_zero, List.set_cons_succ]
              refine wpAnyH_ready (rs := [12]) (by kernel_rfl) (by simp) ?_
              refine AllReadyH.cons rfl (fun K hK => ?_) AllReadyH.nil
              go_simp
              refine hK.out _ _ ?_ (fun hHeld2 => ?_)
              · exact ⟨(World.cell?_setCell_far w9 ⟨H, dn, none⟩ ⟨P, 0 + 2, none⟩ _ hPH).trans r2, (World.cell?_setCell_far w9 ⟨H, dn, none⟩ ⟨P, 0 + 3, none⟩ _ hPH).trans r3, (World.cell?_setCell_far w9 ⟨H, dn, none⟩ ⟨P, 0 + 4, none⟩ _ hPH).trans r4⟩
              clear hK K hHeld
              have hHeld := hHeld2
              clear hHeld2
              try simp only [Act.put, List.getElem_toArray, List.getElem_cons_succ, List.getElem_cons_zero, List.setIfInBounds_toArray, List.set_cons_zero, List.set_cons_succ]
              refine wpAnyH_done (by kernel_rfl) ?_ _
              go_wp2_with fail
              have hfin : ∀ j : Nat, totF g (j : Int) n - totF g (j : Int) (i + 1) = if j = dn then z + a else if j = cn then y - a else totF g (j : Int) n - totF g (j : Int) i := fun j => by
                rw [HT.out, HEF.out j]
                by_cases e1 : j = dn
                · rw [if_pos e1, if_pos e1, if_neg (by omega), e1, ← HZ.out]
                  omega
                · rw [if_neg e1, if_neg e1]
                  by_cases e2 : j = cn
                  · rw [if_pos e2, if_pos e2, e2, ← HY.out]
                    omega
                  · rw [if_neg e2, if_neg e2]
                    omega
              exact ⟨⟨i + 1, by omega, by go_num, (HNG8.out.other (i := dn) (show H ≠ G by omega) (.int .i64 (z + a))).drew.congr (fun j _ => hfin j), (HNH8.out.set dn e9 (z + a)).drew.congr (fun j _ => hfin j), (Below_set HB8.out (b := H) (i := dn) (Nat.le_of_lt hGH) (.int .i64 (z + a))).drew⟩, by simp [intOf]; omega⟩
            · have hin : i = n := by omega
              have nl3 : ¬ (i : Int) < (n : Int) := by omega
              have hNg2 := hNg.congr (f' := fun _ => 0) (fun j _ => by rw [hin]; omega)
              have hNh2 := hNh.congr (f' := fun _ => 0) (fun j _ => by rw [hin]; omega)
              have hmk := HMK.out
              have HNg := Lib.hid hNg2
              have HNh := Lib.hid hNh2
              clear hNg hNh hNg2 hNh2 hrdx hbkx hin hil
              go_wp2_with fail
              have hb9 : Below wr.heap.size wr (wr.alloc ob) := (Below.refl _ _).alloc (Nat.le_refl _) _
              refine (ints_yes (some ⟨G, 0, none⟩) _ tn tn tn tn (fun _ => 0) _ _ (by omega) rfl (HNg.out.reads.below hb9) (HNB.out wr).reads (fun i _ => rfl)).mono ?_
              rintro e w10 ⟨rfl, hb10⟩
              replace hb10 := hb9.trans (hb10.mono hb9.size)
              have hbk10 := (HRG.out w10 (hbx.trans (hb10.mono (Nat.le_of_lt HNg.out.lt)))).2
              clear a0 a1 a2 hb9
              obtain ⟨a0, a1, a2⟩ := hbk10.cells
              clear hbk10
              go_wp2_with fail
              have hb11 := hb10.trans ((Below.refl w10.heap.size w10).alloc (Nat.le_refl _) ob |>.mono hb10.size)
              refine (ints_yes (some ⟨H, 0, none⟩) _ tn tn tn tn (fun _ => 0) _ _ (by omega) rfl (HNh.out.reads.below hb11) (HNB.out w10).reads (fun i _ => rfl)).mono ?_
              rintro e w12 ⟨rfl, hb12⟩
              have hbz := (HB4.out.trans (hbx.mono hGw)).trans ((hb11.trans (hb12.mono hb11.size)).mono (by have := HNg.out.lt; omega))
              have HBZ := Lib.hid hbz
              clear hbz hb10 hb11 hb12
              go_wp2_with fail
              go_ret
              exact ⟨rfl, HBZ.out⟩
end Go.Proofs.Ytcfplkbbgjiocaa
