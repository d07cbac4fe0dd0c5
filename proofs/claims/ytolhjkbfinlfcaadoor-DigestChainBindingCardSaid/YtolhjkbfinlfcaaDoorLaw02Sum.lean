/- The law of chapter 2: DigestSumMatchesReference returns true. Conditions: the table holds its words. -/
import Derived.Test.YtolhjkbfinlfcaaDoorLaw02Sane
namespace Go.Proofs.YtolhjkbfinlfcaaDoor
open Go Go.RowKit
theorem cut_str (s : ByteArray) (n : Int) (k : Nat) (hk : (k : Int) = n) : ∃ (m : Nat) (F : ByteArray), m ≤ s.size ∧ F.size = m ∧ m ≤ k ∧ (if n < (s.size : Int) then n else (s.size : Int)) = (m : Int) ∧ (if k < s.size then n else (s.size : Int)) = (m : Int) ∧ s.extract 0 m = F := by
  subst hk
  by_cases h : k < s.size
  · exact ⟨k, s.extract 0 k, by omega, by simp; omega, by omega, by rw [if_pos (by omega)], by rw [if_pos h], rfl⟩
  · exact ⟨s.size, s.extract 0 s.size, by omega, by simp, by omega, by rw [if_neg (by omega)], by rw [if_neg h], rfl⟩
set_option maxRecDepth 100000 in
set_option maxHeartbeats 1000000 in
theorem sumMatch_any (s t : ByteArray) (w : World) (hT : RoundOk w) :
    Calls Tryd.prog 10 #[.string s, .string t] w fun e w' => e = .returned (.bool true) ∧ Below w.heap.size w w' := by
  obtain ⟨ms, S, hs1, hs2, hs3, hs4, hs5, hs6⟩ := cut_str s 500 500 rfl
  obtain ⟨mt, T, ht1, ht2, ht3, ht4, ht5, ht6⟩ := cut_str t 500 500 rfl
  have hs7 : min (s.size : Int) 500 = (ms : Int) := by split at hs4 <;> omega
  have ht7 : min (t.size : Int) 500 = (mt : Int) := by split at ht4 <;> omega
  have HSS : Hid (S.size ≤ 500) := Lib.hid (by omega)
  have HTS : Hid (T.size ≤ 500) := Lib.hid (by omega)
  have HT := Lib.hid hT
  have H1 := Lib.hid (fun W (h : Below w.heap.size w W) => dsum_s S W (by have := HSS.out; omega) (HT.out.below h))
  have R1 := Lib.hid (fun W => ref_sum_s S W (by have := HSS.out; omega))
  have H2 := Lib.hid (fun W (h : Below w.heap.size w W) => leaf_any T W (by have := HTS.out; omega) (HT.out.below h))
  have R2 := Lib.hid (fun W => ref_leaf_any T W (by have := HTS.out; omega))
  have H3 := Lib.hid (fun W (h : Below w.heap.size w W) => node_any S T W (by have := HSS.out; omega) (by have := HTS.out; omega) (HT.out.below h))
  have R3 := Lib.hid (fun W => ref_node_any S T W (by have := HSS.out; omega) (by have := HTS.out; omega))
  have H4 := Lib.hid (fun W (h : Below w.heap.size w W) => chain_any T S W (by have := HTS.out; omega) (by have := HSS.out; omega) (HT.out.below h))
  have R4 := Lib.hid (fun W => ref_chain_any T S W (by have := HTS.out; omega) (by have := HSS.out; omega))
  obtain ⟨x1, hx1⟩ : ∃ x, dS S = x := ⟨_, rfl⟩
  obtain ⟨x2, hx2⟩ : ∃ x, leafS T = x := ⟨_, rfl⟩
  obtain ⟨x3, hx3⟩ : ∃ x, nodeS S T = x := ⟨_, rfl⟩
  obtain ⟨x4, hx4⟩ : ∃ x, chainS T S = x := ⟨_, rfl⟩
  simp only [hx1] at H1 R1
  simp only [hx2] at H2 R2
  simp only [hx3] at H3 R3
  simp only [hx4] at H4 R4
  clear hT hs2 hs3 ht2 ht3 hx1 hx2 hx3 hx4
  go_enter Tryd.func10, Tryd.ntmps10
  go_wp2_with fail
  refine (sane_any w HT.out).mono ?_
  rintro e w1 ⟨rfl, hb1⟩
  have HB1 := Lib.hid hb1
  clear hb1
  go_wp2_with fail
  refine (H1.out w1 HB1.out).mono ?_
  rintro e w2 ⟨rfl, hb2⟩
  have HB2 := Lib.hid (HB1.out.trans (hb2.mono HB1.out.size))
  clear hb2 HB1
  go_wp2_with fail
  refine (R1.out w2).mono ?_
  rintro e w3 ⟨rfl, hb3⟩
  have HB3 := Lib.hid (HB2.out.trans (hb3.mono HB2.out.size))
  clear hb3 HB2
  go_wp2_with fail
  refine (H2.out w3 HB3.out).mono ?_
  rintro e w4 ⟨rfl, hb4⟩
  have HB4 := Lib.hid (HB3.out.trans (hb4.mono HB3.out.size))
  clear hb4 HB3
  go_wp2_with fail
  refine (R2.out w4).mono ?_
  rintro e w5 ⟨rfl, hb5⟩
  have HB5 := Lib.hid (HB4.out.trans (hb5.mono HB4.out.size))
  clear hb5 HB4
  go_wp2_with fail
  refine (H3.out w5 HB5.out).mono ?_
  rintro e w6 ⟨rfl, hb6⟩
  have HB6 := Lib.hid (HB5.out.trans (hb6.mono HB5.out.size))
  clear hb6 HB5
  go_wp2_with fail
  refine (R3.out w6).mono ?_
  rintro e w7 ⟨rfl, hb7⟩
  have HB7 := Lib.hid (HB6.out.trans (hb7.mono HB6.out.size))
  clear hb7 HB6
  go_wp2_with fail
  refine (H4.out w7 HB7.out).mono ?_
  rintro e w8 ⟨rfl, hb8⟩
  have HB8 := Lib.hid (HB7.out.trans (hb8.mono HB7.out.size))
  clear hb8 HB7
  go_wp2_with fail
  refine (R4.out w8).mono ?_
  rintro e w9 ⟨rfl, hb9⟩
  have HB9 := Lib.hid (HB8.out.trans (hb9.mono HB8.out.size))
  clear hb9 HB8
  go_wp2_with fail
  go_ret
  exact ⟨rfl, HB9.out⟩
end Go.Proofs.YtolhjkbfinlfcaaDoor
