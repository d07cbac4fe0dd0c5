/- The law of chapter 2: DigestExtensionAccepted returns true. Conditions: the table holds its words; arguments that can be read. -/
import Derived.Test.YtolhjkbfinlfcaaDoorLaw02Aid
namespace Go.Proofs.YtolhjkbfinlfcaaDoor
open Go Go.RowKit
theorem extE_in {n : Nat} {m : Int} (h : 0 ≤ m ∧ m ≤ (n : Int)) : extE n m = 0 := by unfold extE; rw [if_pos h]
theorem extE_out {n : Nat} {m : Int} (h : ¬ (0 ≤ m ∧ m ≤ (n : Int))) : extE n m = 2 ∧ ∀ F, extR F n m = [] := ⟨by unfold extE; rw [if_neg h], fun F => by unfold extR; rw [if_neg (by omega)]⟩
theorem extR_short (F : Nat → ByteArray) (n : Nat) (m : Int) : (extR F n m).length ≤ 2 * binF n := by
  unfold extR
  split
  · rename_i h
    have h1 := ext_short F n 0 m.toNat (binF n) true (by omega) (by omega) (bin_pow n)
    have h2 := bin_pos (n := n) (by omega)
    omega
  · exact Nat.zero_le _
set_option maxRecDepth 100000 in
set_option maxHeartbeats 4000000 in
theorem extAcc_any (p : Option Addr) (n c : Nat) (F : Nat → ByteArray) (m : Int) (w : World) (hn : n ≤ 9223372036854775807) (hr : ReadsS w p n F) (hT : RoundOk w) :
    Calls Tryd.prog 6 #[.slice p n c, .int .i64 m] w fun e w' => e = .returned (.bool true) ∧ Below w.heap.size w w' := by
  have HT := Lib.hid hT
  have HL := Lib.hid hr
  clear hr hT
  go_enter Tryd.func6, Tryd.ntmps6
  go_wp2_with fail
  have HB0 := Lib.hid (Below.refl w.heap.size w)
  have HC := Lib.hid (sane_any w (HT.out.below HB0.out))
  refine HC.out.mono ?_
  rintro e w1 ⟨rfl, hb1⟩
  have HB1 := Lib.hid (HB0.out.trans (hb1.mono HB0.out.size))
  have HL_1 := Lib.hid (HL.out.below hb1)
  clear hb1 HC HB0 HL
  go_wp2_with fail
  have HC := Lib.hid (few_any p n c 25 F w1 (by decide) hn HL_1.out)
  refine HC.out.mono ?_
  rintro e w2 ⟨⟨q, l, cq, G, rfl, hl, hlc, hrd, hG⟩, hb2⟩
  have HB2 := Lib.hid (HB1.out.trans (hb2.mono HB1.out.size))
  have HL_2 := Lib.hid (HL_1.out.below hb2)
  have HG_2 := Lib.hid hrd
  clear hb2 HC HB1 HL_1 hrd
  go_wp2_with fail
  have HGS := Lib.hid hG
  clear hG
  have HC := Lib.hid (root_any q l cq G w2 (by omega) (fun i _ => Nat.le_trans (HGS.out i) (by decide)) HG_2.out (HT.out.below HB2.out))
  refine HC.out.mono ?_
  rintro e w3 ⟨rfl, hb3⟩
  have HB3 := Lib.hid (HB2.out.trans (hb3.mono HB2.out.size))
  have HL_3 := Lib.hid (HL_2.out.below hb3)
  have HG_3 := Lib.hid (HG_2.out.below hb3)
  clear hb3 HC HB2 HL_2 HG_2
  go_wp2_with fail
  obtain ⟨R, hR⟩ : ∃ R, rootF G 0 l = R := ⟨_, rfl⟩
  have HROOT := Lib.hid hR
  rw [hR]
  clear hR HL_3
  obtain ⟨bn, hbn⟩ : ∃ b, binF l = b := ⟨_, rfl⟩
  have HBN := Lib.hid hbn
  have HBL : Hid (bn ≤ l) := Lib.hid (by
    rw [← hbn]
    unfold binF
    split
    · omega
    · have := Nat.log2_self_le (n := l) (by omega)
      have h2 : Nat.log2 l < 2 ^ Nat.log2 l := Nat.lt_two_pow_self
      omega)
  have HBIN := Lib.hid (fun W => binary_any l W (by omega))
  rw [hbn] at HBIN
  clear hbn
  have HTA := Lib.hid (HT.out.below HB3.out)
  have HP := Lib.hid (fun (i : Int) W (h : Below w3.heap.size w3 W) => ext_any q l cq G i W (by omega) hlc (fun i _ => Nat.le_trans (HGS.out i) (by decide)) (HG_3.out.below h) (HTA.out.below h))
  have HRT := Lib.hid (fun (k : Nat) W (h : Below w3.heap.size w3 W) (hk : k ≤ l) => root_any q k cq G W (by omega) (fun i _ => Nat.le_trans (HGS.out i) (by decide)) ((HG_3.out.less hk).below h) (HTA.out.below h))
  have HV := Lib.hid (fun (s : ByteArray) (i : Int) (p1 : Option Addr) (m1 c1 : Nat) (P : Nat → ByteArray) W (h : Below w3.heap.size w3 W) (hr : ReadsS W p1 m1 P) (hm : m1 ≤ 100) (hc : m1 ≤ c1) => verext_any s R i l p1 m1 c1 P W (by omega) (by omega) hc hr (HTA.out.below h))
  go_loopw [7] (fun v7 wr => ∃ k : Nat, v7 = .int .i64 (k : Nat) ∧ k ≤ l + 1 ∧ Below w3.heap.size w3 wr) (fun v7 _ => l + 1 - (intOf v7).toNat)
  case atStart => exact ⟨0, rfl, by omega, Below.refl _ _⟩
  case round =>
    obtain ⟨k, rfl, hk, hB⟩ := hrel
    by_cases hlt : k ≤ l
    · have v0 : (0 : Int) ≤ (k : Int) := by omega
      have v1 : (k : Int) ≤ (l : Int) := by omega
      have v2 : (k : Int) ≤ (cq : Int) := by omega
      have HPV := Lib.hid (ext_verified G l (k : Nat) v0 v1)
      have HPE := Lib.hid (extE_in (n := l) (m := (k : Nat)) ⟨v0, v1⟩)
      have HLE : Hid ((extR G l (k : Nat)).length ≤ 2 * bn) := Lib.hid (by rw [← HBN.out]; exact extR_short G l _)
      obtain ⟨rk, hrk⟩ : ∃ x, rootF G 0 k = x := ⟨_, rfl⟩
      have HRK := Lib.hid (fun W (h : Below w3.heap.size w3 W) => HRT.out k W h hlt)
      have HTN : Hid (((k : Nat) : Int).toNat = k) := Lib.hid (Int.toNat_natCast k)
      rw [hrk] at HRK
      rw [HTN.out, hrk, HROOT.out] at HPV
      clear hrk
      go_wp2_with fail
      refine (HP.out (k : Nat) wr hB).mono ?_
      rintro e w4 ⟨⟨p1, m1, c1, rfl, hm1, hr1, hc1⟩, hb4⟩
      rw [HPE.out]
      have hm2 : m1 ≤ 2 * bn := by rw [hm1]; exact HLE.out
      have hbl := HBL.out
      have hm4 : m1 ≤ 40 := by rw [hm1]; have := extR_length G l (k : Nat); omega
      rw [← hm1] at HPV
      have hB4 := hB.trans (hb4.mono hB.size)
      have HVV := Lib.hid (fun W (h : Below w4.heap.size w4 W) => HV.out rk (k : Nat) p1 m1 c1 _ W (hB4.trans (h.mono hB4.size)) (hr1.below h) (by omega) hc1)
      rw [decide_eq_true HPV.out] at HVV
      have HB4 := Lib.hid hB4
      obtain ⟨b2, hb2⟩ : ∃ b, 2 * bn = b := ⟨_, rfl⟩
      have hm3 : ¬ (b2 : Int) < (m1 : Int) := by omega
      have hm5 : (2 : Int) * (bn : Int) = (b2 : Int) := by omega
      have hm6 : IntKind.i64.wrap ((2 : Int) * (bn : Int)) = (b2 : Int) := by rw [hm5]; exact IntWalk.i64_in _ (by omega)
      have hm7 : IntKind.i64.wrap (b2 : Int) = (b2 : Int) := IntWalk.i64_in _ (by omega)
      have hm8 : b2 ≤ 1000 := by omega
      clear hm1 hr1 hc1 hb4 hB hB4 hm2 hbl hb2
      go_wp2_with fail
      refine (HBIN.out _).mono ?_
      rintro e w' ⟨rfl, rfl⟩
      go_wp2_with fail
      refine (HRK.out w4 HB4.out).mono ?_
      rintro e w5 ⟨rfl, hb5⟩
      go_wp2_with fail
      refine (HVV.out w5 hb5).mono ?_
      rintro e w6 ⟨rfl, hb6⟩
      have HB6 := Lib.hid (HB4.out.trans ((hb5.trans (hb6.mono hb5.size)).mono HB4.out.size))
      clear hb5 hb6
      go_wp2_with fail
      exact ⟨⟨k + 1, by go_num, by omega, HB6.out⟩, by simp [intOf]; omega⟩
    · have hkl : k = l + 1 := by omega
      have hk2 : ¬ (k : Int) ≤ (l : Int) := by omega
      have HB := Lib.hid hB
      clear hB hkl
      by_cases hin : 0 ≤ m ∧ m ≤ (l : Int)
      · have HPE := Lib.hid (extE_in (n := l) (m := m) hin)
        obtain ⟨h1, h2⟩ := hin
        have d1 : decide (0 ≤ m) = true := decide_eq_true h1
        have d2 : decide (m ≤ (l : Int)) = true := decide_eq_true h2
        go_wp2_with fail
        refine (HP.out m wr HB.out).mono ?_
        rintro e w4 ⟨⟨p1, m1, c1, rfl, hm1, hr1, hc1⟩, hb4⟩
        rw [HPE.out]
        have HB4 := Lib.hid (HB.out.trans (hb4.mono HB.out.size))
        clear hm1 hr1 hc1 hb4
        go_wp2_with fail
        go_ret
        exact ⟨rfl, HB3.out.trans (HB4.out.mono HB3.out.size)⟩
      · have HPE := Lib.hid (extE_out (n := l) (m := m) hin)
        have HVN := Lib.hid (decide_eq_false (fun h : VerExtOk R m R l (getS []) 0 => hin ⟨h.1, h.2.1⟩))
        by_cases hi1 : 0 ≤ m
        · have d1 : decide (0 ≤ m) = true := decide_eq_true hi1
          have d3 : ¬ m ≤ (l : Int) := by omega
          have d2 : decide (m ≤ (l : Int)) = false := decide_eq_false d3
          clear hin
          go_wp2_with fail
          refine (HP.out m wr HB.out).mono ?_
          rintro e w4 ⟨⟨p1, m1, c1, rfl, hm1, hr1, hc1⟩, hb4⟩
          rw [HPE.out.1]
          rw [HPE.out.2 G] at hm1
          obtain rfl : m1 = 0 := hm1
          have HB4 := Lib.hid (HB.out.trans (hb4.mono HB.out.size))
          have HVV := Lib.hid (HV.out R m p1 0 c1 (getS []) w4 HB4.out (fun i hi => by omega) (by decide) hc1)
          rw [HVN.out] at HVV
          clear hr1 hc1 hb4
          go_wp2_with fail
          refine HVV.out.mono ?_
          rintro e w5 ⟨rfl, hb5⟩
          go_wp2_with fail
          go_ret
          exact ⟨rfl, HB3.out.trans ((HB4.out.trans (hb5.mono HB4.out.size)).mono HB3.out.size)⟩
        · have d1 : decide (0 ≤ m) = false := decide_eq_false hi1
          clear hin
          go_wp2_with fail
          refine (HP.out m wr HB.out).mono ?_
          rintro e w4 ⟨⟨p1, m1, c1, rfl, hm1, hr1, hc1⟩, hb4⟩
          rw [HPE.out.1]
          rw [HPE.out.2 G] at hm1
          obtain rfl : m1 = 0 := hm1
          have HB4 := Lib.hid (HB.out.trans (hb4.mono HB.out.size))
          have HVV := Lib.hid (HV.out R m p1 0 c1 (getS []) w4 HB4.out (fun i hi => by omega) (by decide) hc1)
          rw [HVN.out] at HVV
          clear hr1 hc1 hb4
          go_wp2_with fail
          refine HVV.out.mono ?_
          rintro e w5 ⟨rfl, hb5⟩
          go_wp2_with fail
          go_ret
          exact ⟨rfl, HB3.out.trans ((HB4.out.trans (hb5.mono HB4.out.size)).mono HB3.out.size)⟩
end Go.Proofs.YtolhjkbfinlfcaaDoor
