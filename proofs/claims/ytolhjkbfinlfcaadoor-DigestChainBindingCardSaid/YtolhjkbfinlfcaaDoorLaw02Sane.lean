/- The law of chapter 2: sane. -/
import Derived.Test.YtolhjkbfinlfcaaDoorLaw02Hex
namespace Go.Proofs.YtolhjkbfinlfcaaDoor
open Go Go.RowKit
theorem p3_size (i : Nat) : (p3 i).size ≤ 4000 := by
  unfold p3
  split
  · decide
  · split <;> decide
set_option maxRecDepth 100000 in
set_option maxHeartbeats 2000000 in
theorem sane_any (w : World) (hT : RoundOk w) :
    Calls Tryd.prog 12 #[] w fun e w' => e = .returned (.bool true) ∧ Below w.heap.size w w' := by
  have HT := Lib.hid hT
  clear hT
  go_enter Tryd.func12, Tryd.ntmps12
  go_wp2_with fail
  have hb1 : Below w.heap.size w (w.alloc (.cells #[.string ⟨#[97]⟩, .string ⟨#[98]⟩, .string ⟨#[99]⟩] 9)) := (Below.refl _ _).alloc (Nat.le_refl _) _
  have hr1 : ReadsS (w.alloc (.cells #[.string ⟨#[97]⟩, .string ⟨#[98]⟩, .string ⟨#[99]⟩] 9)) (some ⟨w.heap.size, 0, none⟩) 3 p3 := fun i _ => ⟨w.heap.size, 0, rfl, fun j hj => by
    rcases (show j = 0 ∨ j = 1 ∨ j = 2 by omega) with rfl | rfl | rfl <;> simp [p3]⟩
  obtain ⟨w1, hw1⟩ : ∃ W, w.alloc (.cells #[.string ⟨#[97]⟩, .string ⟨#[98]⟩, .string ⟨#[99]⟩] 9) = W := ⟨_, rfl⟩
  rw [hw1] at hb1 hr1 ⊢
  obtain ⟨S, hS⟩ : ∃ S, w.heap.size = S := ⟨_, rfl⟩
  have HB1 := Lib.hid hb1
  have HR1 := Lib.hid hr1
  rw [hS]
  clear hw1 hb1 hr1
  have HP := Lib.hid (proof_any (some ⟨S, 0, none⟩) 3 3 p3 2 w1 (by decide) (by decide) (fun i _ => p3_size i) (by rw [← hS]; exact HR1.out) (HT.out.below HB1.out))
  have HSS := Lib.hid hS
  clear hS
  refine HP.out.mono ?_
  rintro e w2 ⟨⟨p1, m1, c1, rfl, hm1, hr1, hc1⟩, hb2⟩
  rw [san_l1] at hm1
  subst hm1
  rw [show proofE 3 2 = 0 from by decide]
  have HB2 := Lib.hid (HB1.out.trans (hb2.mono HB1.out.size))
  have HRL2 : Hid (ReadsS w2 (some ⟨S, 0, none⟩) 3 p3) := Lib.hid (by rw [← HSS.out]; exact HR1.out.below hb2)
  have HRP2 := Lib.hid hr1
  clear hb2 hr1 HP HB1 HR1
  go_wp2_with fail
  have HX := Lib.hid (ext_any (some ⟨S, 0, none⟩) 3 3 p3 1 w2 (by decide) (by decide) (fun i _ => p3_size i) HRL2.out (HT.out.below HB2.out))
  refine HX.out.mono ?_
  rintro e w3 ⟨⟨p2, m2, c2, rfl, hm2, hr2, hc2⟩, hb3⟩
  rw [san_l2] at hm2
  subst hm2
  rw [show extE 3 1 = 0 from by decide]
  have HB3 := Lib.hid (HB2.out.trans (hb3.mono HB2.out.size))
  have HRL3 := Lib.hid (HRL2.out.below hb3)
  have HRP3 := Lib.hid (HRP2.out.below hb3)
  have HRX3 := Lib.hid hr2
  clear hb3 hr2 HX HB2 HRL2 HRP2
  go_wp2_with fail
  have HP := Lib.hid (proof_any (some ⟨S, 0, none⟩) 3 3 p3 3 w3 (by decide) (by decide) (fun i _ => p3_size i) HRL3.out (HT.out.below HB3.out))
  refine HP.out.mono ?_
  rintro e w4 ⟨⟨p3', m3, c3, rfl, _, _, _⟩, hb4⟩
  rw [show proofE 3 3 = 2 from by decide]
  have HB4 := Lib.hid (HB3.out.trans (hb4.mono HB3.out.size))
  have HRL4 := Lib.hid (HRL3.out.below hb4)
  have HRP4 := Lib.hid (HRP3.out.below hb4)
  have HRX4 := Lib.hid (HRX3.out.below hb4)
  clear hb4 HP HB3 HRL3 HRP3 HRX3
  go_wp2_with fail
  have HC := Lib.hid (root_any (some ⟨S, 0, none⟩) 3 3 p3 w4 (by decide) (fun i _ => p3_size i) HRL4.out (HT.out.below HB4.out))
  refine HC.out.mono ?_
  rintro e w5 ⟨rfl, hb5⟩
  have HB5 := Lib.hid (HB4.out.trans (hb5.mono HB4.out.size))
  have HRL5 := Lib.hid (HRL4.out.below hb5)
  have HRP5 := Lib.hid (HRP4.out.below hb5)
  have HRX5 := Lib.hid (HRX4.out.below hb5)
  clear hb5 HC HB4 HRL4 HRP4 HRX4
  obtain ⟨root, hroot⟩ : ∃ r, rootF p3 0 3 = r := ⟨_, rfl⟩
  have HROOT := Lib.hid hroot
  rw [hroot]
  clear hroot
  go_wp2_with fail
  have HC := Lib.hid (dsum_s ⟨#[]⟩ w5 (by decide) (HT.out.below HB5.out))
  refine HC.out.mono ?_
  rintro e w6 ⟨rfl, hb6⟩
  have HB6 := Lib.hid (HB5.out.trans (hb6.mono HB5.out.size))
  have HRL6 := Lib.hid (HRL5.out.below hb6)
  have HRP6 := Lib.hid (HRP5.out.below hb6)
  have HRX6 := Lib.hid (HRX5.out.below hb6)
  clear hb6 HC HB5 HRL5 HRP5 HRX5
  have HH := Lib.hid san_sum0
  have HZ : Hid ((dS ⟨#[]⟩).size = 32) := Lib.hid rfl
  obtain ⟨d0, hd0⟩ : ∃ r, dS ⟨#[]⟩ = r := ⟨_, rfl⟩
  rw [hd0] at HH HZ ⊢
  clear hd0
  go_wp2_with fail
  have HC := Lib.hid (hex_any d0 w6 (by rw [HZ.out]; decide))
  rw [HZ.out, HH.out] at HC
  obtain ⟨x0, hx0⟩ : ∃ x, "e3b0c44298fc1c149afbf4c8996fb92427ae41e4649b934ca495991b7852b855".toUTF8 = x := ⟨_, rfl⟩
  rw [hx0] at HC
  have q0 : (x0.toList == [101, 51, 98, 48, 99, 52, 52, 50, 57, 56, 102, 99, 49, 99, 49, 52, 57, 97, 102, 98, 102, 52, 99, 56, 57, 57, 54, 102, 98, 57, 50, 52, 50, 55, 97, 101, 52, 49, 101, 52, 54, 52, 57, 98, 57, 51, 52, 99, 97, 52, 57, 53, 57, 57, 49, 98, 55, 56, 53, 50, 98, 56, 53, 53]) = true := by rw [← hx0]; decide +kernel
  refine HC.out.mono ?_
  rintro e w7 ⟨rfl, hb7⟩
  have HB7 := Lib.hid (HB6.out.trans (hb7.mono HB6.out.size))
  have HRL7 := Lib.hid (HRL6.out.below hb7)
  have HRP7 := Lib.hid (HRP6.out.below hb7)
  have HRX7 := Lib.hid (HRX6.out.below hb7)
  clear hb7 HC HB6 HRL6 HRP6 HRX6
  clear HH HZ hx0
  go_wp2_with fail
  have HC := Lib.hid (dsum_s ⟨#[97, 98, 99]⟩ w7 (by decide) (HT.out.below HB7.out))
  refine HC.out.mono ?_
  rintro e w8 ⟨rfl, hb8⟩
  have HB8 := Lib.hid (HB7.out.trans (hb8.mono HB7.out.size))
  have HRL8 := Lib.hid (HRL7.out.below hb8)
  have HRP8 := Lib.hid (HRP7.out.below hb8)
  have HRX8 := Lib.hid (HRX7.out.below hb8)
  clear hb8 HC HB7 HRL7 HRP7 HRX7
  have HH := Lib.hid san_sum1
  have HZ : Hid ((dS ⟨#[97, 98, 99]⟩).size = 32) := Lib.hid rfl
  obtain ⟨d1, hd1⟩ : ∃ r, dS ⟨#[97, 98, 99]⟩ = r := ⟨_, rfl⟩
  rw [hd1] at HH HZ ⊢
  clear hd1
  go_wp2_with fail
  have HC := Lib.hid (hex_any d1 w8 (by rw [HZ.out]; decide))
  rw [HZ.out, HH.out] at HC
  obtain ⟨x1, hx1⟩ : ∃ x, "ba7816bf8f01cfea414140de5dae2223b00361a396177a9cb410ff61f20015ad".toUTF8 = x := ⟨_, rfl⟩
  rw [hx1] at HC
  have q1 : (x1.toList == [98, 97, 55, 56, 49, 54, 98, 102, 56, 102, 48, 49, 99, 102, 101, 97, 52, 49, 52, 49, 52, 48, 100, 101, 53, 100, 97, 101, 50, 50, 50, 51, 98, 48, 48, 51, 54, 49, 97, 51, 57, 54, 49, 55, 55, 97, 57, 99, 98, 52, 49, 48, 102, 102, 54, 49, 102, 50, 48, 48, 49, 53, 97, 100]) = true := by rw [← hx1]; decide +kernel
  refine HC.out.mono ?_
  rintro e w9 ⟨rfl, hb9⟩
  have HB9 := Lib.hid (HB8.out.trans (hb9.mono HB8.out.size))
  have HRL9 := Lib.hid (HRL8.out.below hb9)
  have HRP9 := Lib.hid (HRP8.out.below hb9)
  have HRX9 := Lib.hid (HRX8.out.below hb9)
  clear hb9 HC HB8 HRL8 HRP8 HRX8
  clear HH HZ hx1
  go_wp2_with fail
  have HC := Lib.hid (verify_any root ⟨#[99]⟩ 3 2 p1 1 c1 (getS (proofR p3 3 2)) w9 (by decide) (by decide) (by decide) (by decide) hc1 HRP9.out (HT.out.below HB9.out))
  rw [decide_eq_true (show VerifyOk root 3 2 ⟨#[99]⟩ (getS (proofR p3 3 2)) 1 from by rw [← HROOT.out]; exact san_v1)] at HC
  refine HC.out.mono ?_
  rintro e w10 ⟨rfl, hb10⟩
  have HB10 := Lib.hid (HB9.out.trans (hb10.mono HB9.out.size))
  have HRL10 := Lib.hid (HRL9.out.below hb10)
  have HRP10 := Lib.hid (HRP9.out.below hb10)
  have HRX10 := Lib.hid (HRX9.out.below hb10)
  clear hb10 HC HB9 HRL9 HRP9 HRX9
  go_wp2_with fail
  have HC := Lib.hid (verify_any root ⟨#[100]⟩ 3 2 p1 1 c1 (getS (proofR p3 3 2)) w10 (by decide) (by decide) (by decide) (by decide) hc1 HRP10.out (HT.out.below HB10.out))
  rw [decide_eq_false (show ¬ VerifyOk root 3 2 ⟨#[100]⟩ (getS (proofR p3 3 2)) 1 from by rw [← HROOT.out]; exact san_v2)] at HC
  refine HC.out.mono ?_
  rintro e w11 ⟨rfl, hb11⟩
  have HB11 := Lib.hid (HB10.out.trans (hb11.mono HB10.out.size))
  have HRL11 := Lib.hid (HRL10.out.below hb11)
  have HRP11 := Lib.hid (HRP10.out.below hb11)
  have HRX11 := Lib.hid (HRX10.out.below hb11)
  clear hb11 HC HB10 HRL10 HRP10 HRX10
  go_wp2_with fail
  have HC := Lib.hid (root_any (some ⟨S, 0, none⟩) 1 3 p3 w11 (by decide) (fun i _ => p3_size i) (HRL11.out.less (by decide)) (HT.out.below HB11.out))
  refine HC.out.mono ?_
  rintro e w12 ⟨rfl, hb12⟩
  have HB12 := Lib.hid (HB11.out.trans (hb12.mono HB11.out.size))
  have HRL12 := Lib.hid (HRL11.out.below hb12)
  have HRP12 := Lib.hid (HRP11.out.below hb12)
  have HRX12 := Lib.hid (HRX11.out.below hb12)
  clear hb12 HC HB11 HRL11 HRP11 HRX11
  go_wp2_with fail
  have HC := Lib.hid (verext_any (rootF p3 0 1) root 1 3 p2 2 c2 (getS (extR p3 3 1)) w12 (by decide) (by decide) hc2 HRX12.out (HT.out.below HB12.out))
  rw [decide_eq_true (show VerExtOk (rootF p3 0 1) 1 root 3 (getS (extR p3 3 1)) 2 from by rw [← HROOT.out]; exact san_x1)] at HC
  refine HC.out.mono ?_
  rintro e w13 ⟨rfl, hb13⟩
  have HB13 := Lib.hid (HB12.out.trans (hb13.mono HB12.out.size))
  have HRL13 := Lib.hid (HRL12.out.below hb13)
  have HRP13 := Lib.hid (HRP12.out.below hb13)
  have HRX13 := Lib.hid (HRX12.out.below hb13)
  clear hb13 HC HB12 HRL12 HRP12 HRX12
  go_wp2_with fail
  have HC := Lib.hid (root_any (some ⟨S, 0, none⟩) 2 3 p3 w13 (by decide) (fun i _ => p3_size i) (HRL13.out.less (by decide)) (HT.out.below HB13.out))
  refine HC.out.mono ?_
  rintro e w14 ⟨rfl, hb14⟩
  have HB14 := Lib.hid (HB13.out.trans (hb14.mono HB13.out.size))
  have HRL14 := Lib.hid (HRL13.out.below hb14)
  have HRP14 := Lib.hid (HRP13.out.below hb14)
  have HRX14 := Lib.hid (HRX13.out.below hb14)
  clear hb14 HC HB13 HRL13 HRP13 HRX13
  go_wp2_with fail
  have HC := Lib.hid (verext_any (rootF p3 0 2) root 1 3 p2 2 c2 (getS (extR p3 3 1)) w14 (by decide) (by decide) hc2 HRX14.out (HT.out.below HB14.out))
  rw [decide_eq_false (show ¬ VerExtOk (rootF p3 0 2) 1 root 3 (getS (extR p3 3 1)) 2 from by rw [← HROOT.out]; exact san_x2)] at HC
  refine HC.out.mono ?_
  rintro e w15 ⟨rfl, hb15⟩
  have HB15 := Lib.hid (HB14.out.trans (hb15.mono HB14.out.size))
  have HRL15 := Lib.hid (HRL14.out.below hb15)
  have HRP15 := Lib.hid (HRP14.out.below hb15)
  have HRX15 := Lib.hid (HRX14.out.below hb15)
  clear hb15 HC HB14 HRL14 HRP14 HRX14
  go_wp2_with fail
  go_ret
  exact ⟨rfl, HB15.out⟩
end Go.Proofs.YtolhjkbfinlfcaaDoor
