/- The laws of chapter 2: DigestTreeMatchesReference, DigestVerifyMatchesReference return true. Conditions: the table holds its words; arguments that can be read. -/
import Derived.Test.YtolhjkbfinlfcaaDoorLaw02Few
import Derived.Test.YtolhjkbfinlfcaaDoorRefVerify
namespace Go.Proofs.YtolhjkbfinlfcaaDoor
open Go Go.RowKit
theorem proofR_length (F : Nat → ByteArray) (n : Nat) (i : Int) : (proofR F n i).length ≤ n := by
  unfold proofR
  split
  · exact proof_length F n 0 _
  · exact Nat.zero_le _
theorem extR_length (F : Nat → ByteArray) (n : Nat) (m : Int) : (extR F n m).length ≤ n := by
  unfold extR
  split
  · exact ext_length F n 0 _ true (by omega) (by omega)
  · exact Nat.zero_le _
set_option maxRecDepth 100000 in
set_option maxHeartbeats 4000000 in
theorem treeMatch_any (p : Option Addr) (n c : Nat) (F : Nat → ByteArray) (i m : Int) (w : World) (hn : n ≤ 9223372036854775807) (hr : ReadsS w p n F) (hT : RoundOk w) :
    Calls Tryd.prog 3 #[.slice p n c, .int .i64 i, .int .i64 m] w fun e w' => e = .returned (.bool true) ∧ Below w.heap.size w w' := by
  have HT := Lib.hid hT
  have HL := Lib.hid hr
  clear hr hT
  go_enter Tryd.func3, Tryd.ntmps3
  go_wp2_with fail
  have HB0 := Lib.hid (Below.refl w.heap.size w)
  have HC := Lib.hid (sane_any w (HT.out.below HB0.out))
  refine HC.out.mono ?_
  rintro e w1 ⟨rfl, hb1⟩
  have HB1 := Lib.hid (HB0.out.trans (hb1.mono HB0.out.size))
  have HL_1 := Lib.hid (HL.out.below hb1)
  clear hb1 HC HB0 HL
  go_wp2_with fail
  have HC := Lib.hid (few_any p n c 40 F w1 (by decide) hn HL_1.out)
  refine HC.out.mono ?_
  rintro e w2 ⟨⟨q, l, cq, G, rfl, hl, hlc, hrd, hG⟩, hb2⟩
  have HB2 := Lib.hid (HB1.out.trans (hb2.mono HB1.out.size))
  have HL_2 := Lib.hid (HL_1.out.below hb2)
  have HG_2 := Lib.hid hrd
  clear hb2 HC HB1 HL_1 hrd
  go_wp2_with fail
  have HGS := Lib.hid hG
  clear hG
  have HC := Lib.hid (proof_any q l cq G i w2 (by omega) hlc (fun i _ => Nat.le_trans (HGS.out i) (by decide)) HG_2.out (HT.out.below HB2.out))
  refine HC.out.mono ?_
  rintro e w3 ⟨⟨p1, m1, c1, rfl, hm1, hr1, hc1⟩, hb3⟩
  have HB3 := Lib.hid (HB2.out.trans (hb3.mono HB2.out.size))
  have HL_3 := Lib.hid (HL_2.out.below hb3)
  have HG_3 := Lib.hid (HG_2.out.below hb3)
  have HP1_3 := Lib.hid hr1
  have HM1 := Lib.hid hm1
  clear hb3 HC HB2 HL_2 HG_2 hr1 hm1
  go_wp2_with fail
  have HC := Lib.hid (ref_proof_any q l cq G i w3 (by omega) hlc (fun i _ => Nat.le_trans (HGS.out i) (by decide)) HG_3.out)
  refine HC.out.mono ?_
  rintro e w4 ⟨⟨p2, m2, c2, rfl, hm2, hr2, hc2⟩, hb4⟩
  have HB4 := Lib.hid (HB3.out.trans (hb4.mono HB3.out.size))
  have HL_4 := Lib.hid (HL_3.out.below hb4)
  have HG_4 := Lib.hid (HG_3.out.below hb4)
  have HP1_4 := Lib.hid (HP1_3.out.below hb4)
  have HP2_4 := Lib.hid hr2
  have HM2 := Lib.hid hm2
  clear hb4 HC HB3 HL_3 HG_3 HP1_3 hr2 hm2
  go_wp2_with fail
  have HC := Lib.hid (ext_any q l cq G m w4 (by omega) hlc (fun i _ => Nat.le_trans (HGS.out i) (by decide)) HG_4.out (HT.out.below HB4.out))
  refine HC.out.mono ?_
  rintro e w5 ⟨⟨p3, m3, c3, rfl, hm3, hr3, hc3⟩, hb5⟩
  have HB5 := Lib.hid (HB4.out.trans (hb5.mono HB4.out.size))
  have HL_5 := Lib.hid (HL_4.out.below hb5)
  have HG_5 := Lib.hid (HG_4.out.below hb5)
  have HP1_5 := Lib.hid (HP1_4.out.below hb5)
  have HP2_5 := Lib.hid (HP2_4.out.below hb5)
  have HP3_5 := Lib.hid hr3
  have HM3 := Lib.hid hm3
  clear hb5 HC HB4 HL_4 HG_4 HP1_4 HP2_4 hr3 hm3
  go_wp2_with fail
  have HC := Lib.hid (ref_ext_any q l cq G m w5 (by omega) hlc (fun i _ => Nat.le_trans (HGS.out i) (by decide)) HG_5.out)
  refine HC.out.mono ?_
  rintro e w6 ⟨⟨p4, m4, c4, rfl, hm4, hr4, hc4⟩, hb6⟩
  have HB6 := Lib.hid (HB5.out.trans (hb6.mono HB5.out.size))
  have HL_6 := Lib.hid (HL_5.out.below hb6)
  have HG_6 := Lib.hid (HG_5.out.below hb6)
  have HP1_6 := Lib.hid (HP1_5.out.below hb6)
  have HP2_6 := Lib.hid (HP2_5.out.below hb6)
  have HP3_6 := Lib.hid (HP3_5.out.below hb6)
  have HP4_6 := Lib.hid hr4
  have HM4 := Lib.hid hm4
  clear hb6 HC HB5 HL_5 HG_5 HP1_5 HP2_5 HP3_5 hr4 hm4
  go_wp2_with fail
  have HC := Lib.hid (sameS_any p1 p2 m1 m2 c1 c2 _ _ w6 (by rw [HM1.out]; have := proofR_length G l i; omega) (by rw [HM2.out]; have := proofR_length G l i; omega) HP1_6.out HP2_6.out)
  rw [decide_eq_true (show SameL m1 m2 (getS (proofR G l i)) (getS (proofR G l i)) from ⟨by rw [HM1.out, HM2.out], fun _ _ => rfl⟩)] at HC
  refine HC.out.mono ?_
  rintro e w7 ⟨rfl, hb7⟩
  have HB7 := Lib.hid (HB6.out.trans (hb7.mono HB6.out.size))
  have HL_7 := Lib.hid (HL_6.out.below hb7)
  have HG_7 := Lib.hid (HG_6.out.below hb7)
  have HP1_7 := Lib.hid (HP1_6.out.below hb7)
  have HP2_7 := Lib.hid (HP2_6.out.below hb7)
  have HP3_7 := Lib.hid (HP3_6.out.below hb7)
  have HP4_7 := Lib.hid (HP4_6.out.below hb7)
  clear hb7 HC HB6 HL_6 HG_6 HP1_6 HP2_6 HP3_6 HP4_6
  go_wp2_with fail
  have HC := Lib.hid (sameS_any p3 p4 m3 m4 c3 c4 _ _ w7 (by rw [HM3.out]; have := extR_length G l m; omega) (by rw [HM4.out]; have := extR_length G l m; omega) HP3_7.out HP4_7.out)
  rw [decide_eq_true (show SameL m3 m4 (getS (extR G l m)) (getS (extR G l m)) from ⟨by rw [HM3.out, HM4.out], fun _ _ => rfl⟩)] at HC
  refine HC.out.mono ?_
  rintro e w8 ⟨rfl, hb8⟩
  have HB8 := Lib.hid (HB7.out.trans (hb8.mono HB7.out.size))
  have HL_8 := Lib.hid (HL_7.out.below hb8)
  have HG_8 := Lib.hid (HG_7.out.below hb8)
  have HP1_8 := Lib.hid (HP1_7.out.below hb8)
  have HP2_8 := Lib.hid (HP2_7.out.below hb8)
  have HP3_8 := Lib.hid (HP3_7.out.below hb8)
  have HP4_8 := Lib.hid (HP4_7.out.below hb8)
  clear hb8 HC HB7 HL_7 HG_7 HP1_7 HP2_7 HP3_7 HP4_7
  go_wp2_with fail
  have HC := Lib.hid (root_any q l cq G w8 (by omega) (fun i _ => Nat.le_trans (HGS.out i) (by decide)) HG_8.out (HT.out.below HB8.out))
  refine HC.out.mono ?_
  rintro e w9 ⟨rfl, hb9⟩
  have HB9 := Lib.hid (HB8.out.trans (hb9.mono HB8.out.size))
  have HL_9 := Lib.hid (HL_8.out.below hb9)
  have HG_9 := Lib.hid (HG_8.out.below hb9)
  have HP1_9 := Lib.hid (HP1_8.out.below hb9)
  have HP2_9 := Lib.hid (HP2_8.out.below hb9)
  have HP3_9 := Lib.hid (HP3_8.out.below hb9)
  have HP4_9 := Lib.hid (HP4_8.out.below hb9)
  clear hb9 HC HB8 HL_8 HG_8 HP1_8 HP2_8 HP3_8 HP4_8
  go_wp2_with fail
  have HC := Lib.hid (ref_root_any l q cq G w9 (by omega) hlc (fun i _ => Nat.le_trans (HGS.out i) (by decide)) HG_9.out)
  refine HC.out.mono ?_
  rintro e w10 ⟨rfl, hb10⟩
  have HB10 := Lib.hid (HB9.out.trans (hb10.mono HB9.out.size))
  have HL_10 := Lib.hid (HL_9.out.below hb10)
  have HG_10 := Lib.hid (HG_9.out.below hb10)
  have HP1_10 := Lib.hid (HP1_9.out.below hb10)
  have HP2_10 := Lib.hid (HP2_9.out.below hb10)
  have HP3_10 := Lib.hid (HP3_9.out.below hb10)
  have HP4_10 := Lib.hid (HP4_9.out.below hb10)
  clear hb10 HC HB9 HL_9 HG_9 HP1_9 HP2_9 HP3_9 HP4_9
  go_wp2_with fail
  go_ret
  exact ⟨rfl, HB10.out⟩
set_option maxRecDepth 100000 in
set_option maxHeartbeats 4000000 in
theorem verifyMatch_any (old root : ByteArray) (n i : Int) (s : ByteArray) (p : Option Addr) (k c : Nat) (P : Nat → ByteArray) (w : World) (hk : k ≤ 9223372036854775807) (hn : n ≤ 9223372036854775807) (hi0 : -9223372036854775808 ≤ i) (hr : ReadsS w p k P) (hT : RoundOk w) :
    Calls Tryd.prog 4 #[.string old, .string root, .int .i64 n, .int .i64 i, .string s, .slice p k c] w fun e w' => e = .returned (.bool true) ∧ Below w.heap.size w w' := by
  have HT := Lib.hid hT
  have HL := Lib.hid hr
  obtain ⟨ms, S, hs1, hs2, hs3, hs4, hs5, hs6, _⟩ := cut60_facts s
  have HSS := Lib.hid hs2
  clear hr hT hs2
  go_enter Tryd.func4, Tryd.ntmps4
  go_wp2_with fail
  have HB0 := Lib.hid (Below.refl w.heap.size w)
  have HC := Lib.hid (sane_any w (HT.out.below HB0.out))
  refine HC.out.mono ?_
  rintro e w1 ⟨rfl, hb1⟩
  have HB1 := Lib.hid (HB0.out.trans (hb1.mono HB0.out.size))
  have HL_1 := Lib.hid (HL.out.below hb1)
  clear hb1 HC HB0 HL
  go_wp2_with fail
  have HC := Lib.hid (few_any p k c 70 P w1 (by decide) hk HL_1.out)
  refine HC.out.mono ?_
  rintro e w2 ⟨⟨q, l, cq, G, rfl, hl, hlc, hrd, hG⟩, hb2⟩
  have HB2 := Lib.hid (HB1.out.trans (hb2.mono HB1.out.size))
  have HL_2 := Lib.hid (HL_1.out.below hb2)
  have HG_2 := Lib.hid hrd
  clear hb2 HC HB1 HL_1 hrd
  go_wp2_with fail
  have HGS := Lib.hid hG
  clear hG
  have HC := Lib.hid (verify_any root S n i q l cq G w2 hn hi0 (Nat.le_trans HSS.out (by decide)) (by omega) hlc HG_2.out (HT.out.below HB2.out))
  refine HC.out.mono ?_
  rintro e w3 ⟨rfl, hb3⟩
  have HB3 := Lib.hid (HB2.out.trans (hb3.mono HB2.out.size))
  have HL_3 := Lib.hid (HL_2.out.below hb3)
  have HG_3 := Lib.hid (HG_2.out.below hb3)
  clear hb3 HC HB2 HL_2 HG_2
  go_wp2_with fail
  have HC := Lib.hid (ref_verify_any root S n i q l cq G w3 hn hi0 (Nat.le_trans HSS.out (by decide)) (fun i => Nat.le_trans (HGS.out i) (by decide)) (by omega) hlc HG_3.out)
  refine HC.out.mono ?_
  rintro e w4 ⟨rfl, hb4⟩
  have HB4 := Lib.hid (HB3.out.trans (hb4.mono HB3.out.size))
  have HL_4 := Lib.hid (HL_3.out.below hb4)
  have HG_4 := Lib.hid (HG_3.out.below hb4)
  clear hb4 HC HB3 HL_3 HG_3
  go_wp2_with fail
  have HC := Lib.hid (verext_any old root i n q l cq G w4 hn (by omega) hlc HG_4.out (HT.out.below HB4.out))
  refine HC.out.mono ?_
  rintro e w5 ⟨rfl, hb5⟩
  have HB5 := Lib.hid (HB4.out.trans (hb5.mono HB4.out.size))
  have HL_5 := Lib.hid (HL_4.out.below hb5)
  have HG_5 := Lib.hid (HG_4.out.below hb5)
  clear hb5 HC HB4 HL_4 HG_4
  go_wp2_with fail
  have HC := Lib.hid (ref_verext_any old root i n q l cq G w5 hn hi0 (by omega) hlc HG_5.out)
  refine HC.out.mono ?_
  rintro e w6 ⟨rfl, hb6⟩
  have HB6 := Lib.hid (HB5.out.trans (hb6.mono HB5.out.size))
  have HL_6 := Lib.hid (HL_5.out.below hb6)
  have HG_6 := Lib.hid (HG_5.out.below hb6)
  clear hb6 HC HB5 HL_5 HG_5
  go_wp2_with fail
  go_ret
  exact ⟨rfl, HB6.out⟩
end Go.Proofs.YtolhjkbfinlfcaaDoor
