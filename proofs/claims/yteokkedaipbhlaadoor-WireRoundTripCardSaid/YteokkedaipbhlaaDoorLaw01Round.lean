/- WireRoundTrip returns true. Conditions: the checksum's table holds its words; numbers of 64 bits. -/
import Derived.Test.YteokkedaipbhlaaDoorLaw01Sane
import Derived.Test.YteokkedaipbhlaaDoorLaw01Num
import Derived.Test.YteokkedaipbhlaaDoorWireCalls
namespace Go.Proofs.YteokkedaipbhlaaDoor
open Go Go.RowKit
/-- A string cut to n bytes, as the walk reads it. -/
theorem cut_str (s : ByteArray) (n : Int) (k : Nat) (hk : (k : Int) = n) : ∃ (m : Nat) (F : ByteArray), m ≤ s.size ∧ F.size = m ∧ m ≤ k ∧ (if n < (s.size : Int) then n else (s.size : Int)) = (m : Int) ∧ (if k < s.size then n else (s.size : Int)) = (m : Int) ∧ s.extract 0 m = F := by
  subst hk
  by_cases h : k < s.size
  · exact ⟨k, s.extract 0 k, by omega, by simp; omega, by omega, by rw [if_pos (by omega)], by rw [if_pos h], rfl⟩
  · exact ⟨s.size, s.extract 0 s.size, by omega, by simp, by omega, by rw [if_neg (by omega)], by rw [if_neg h], rfl⟩
set_option maxRecDepth 100000 in
set_option maxHeartbeats 1000000 in
theorem wireRound_any (c : Int) (s a b : ByteArray) (w : World) (n1 : -9223372036854775808 ≤ c) (n2 : c ≤ 9223372036854775807) 
    (hT : TabOk w) (hn : 0 < w.heap.size) :
    Calls Tryd.prog 4 #[.int .i64 c, .string s, .agg #[.string a, .string b]] w fun e w' => e = .returned (.bool true) ∧ Below w.heap.size w w' := by
  obtain ⟨ms, S, hs1, hs2, hs3, hs4, hs5, hs6⟩ := cut_str s 200 200 rfl
  obtain ⟨ma, A, ha1, ha2, ha3, ha4, ha5, ha6⟩ := cut_str a 200 200 rfl
  obtain ⟨mb, B, hb1, hb2, hb3, hb4, hb5, hb6⟩ := cut_str b 200 200 rfl
  have hnb := numF_bd c
  have hAs : A.size ≤ 200 := by omega
  have hBs : B.size ≤ 200 := by omega
  have hSs : S.size ≤ 200 := by omega
  have HT := Lib.hid hT
  have HS2 := Lib.hid hs2
  have HA2 := Lib.hid ha2
  have HB2 := Lib.hid hb2
  clear hT hs2 ha2 hb2
  go_enter Tryd.func4, Tryd.ntmps4
  go_wp2_with fail
  refine (sane_any _ (HT.out.below ((Below.refl _ _).alloc (Nat.le_refl _) _) hn) (by simp)).mono ?_
  rintro e w1 ⟨rfl, hB1⟩
  go_wp2_with fail
  refine (numberFrom_any _ _ n1 n2).mono ?_
  rintro e w2 ⟨rfl, hB2⟩
  have hB12 := hB1.trans (hB2.mono hB1.size)
  have hB012 : Below w.heap.size w w2 := ((Below.refl _ w).alloc (Nat.le_refl _) _).trans (hB12.mono (by simp))
  have hx0 : w2.cell? ⟨w.heap.size, 0, none⟩ = some (.string a) := (hB12.cell (p := ⟨w.heap.size, 0, none⟩) (by simp)).trans (by simp)
  have hx1 : w2.cell? ⟨w.heap.size, 1, none⟩ = some (.string b) := (hB12.cell (p := ⟨w.heap.size, 1, none⟩) (by simp)).trans (by simp)
  clear hB1 hB2 hB12
  go_wp2_with fail
  obtain ⟨E, hE⟩ : ∃ E : ByteArray, (⟨(vbytes (zig (numF c))).toArray⟩ : ByteArray) = E := ⟨_, rfl⟩
  have hEl : E.data.toList = vbytes (zig (numF c)) := by rw [← hE]
  have hp := putInt_ok (numF c) (by omega) (by omega) w2
  rw [hE] at hp
  refine hp.mono ?_
  clear hp hE
  rintro e w3 ⟨rfl, hB3⟩
  go_wp2_with fail
  have hp := putString_any S w3 (by unfold maxLen; omega)
  obtain ⟨G, hG⟩ : ∃ G : ByteArray, (⟨(vbytes (zig S.size)).toArray⟩ : ByteArray) ++ S = G := ⟨_, rfl⟩
  have hGl : G.data.toList = vbytes (zig S.size) ++ S.data.toList := by rw [← hG, append_list]
  rw [show putS S = .tuple #[.string G, .int .i64 0] by unfold putS; rw [if_neg (by have := HS2.out; omega), hG]] at hp
  refine hp.mono ?_
  clear hp hG
  rintro e w4 ⟨rfl, hB4⟩
  have hv1 := vbytes_le (zig (numF c))
  have hv2 := vbytes_le (zig S.size)
  have hEs : E.size ≤ 10 := by have := congrArg List.length hEl; simp at this; omega
  have hGs : G.size ≤ 210 := by have := congrArg List.length hGl; have := HS2.out; simp at *; omega
  have HEl := Lib.hid hEl
  have HGl := Lib.hid hGl
  clear hEl hGl hv1 hv2
  go_wp2_with fail
  refine (int_round A E B (numF c) _ (by omega) (by omega) HEl.out (by simp [maxLen]; omega)).mono ?_
  rintro e w' ⟨rfl, rfl⟩
  go_wp2_with fail
  refine (string_round A G B S _ (by omega) HGl.out (by simp [maxLen]; omega)).mono ?_
  rintro e w' ⟨rfl, rfl⟩
  go_wp2
  go_ret
  exact ⟨rfl, hB012.trans ((hB3.trans (hB4.mono hB3.size)).mono hB012.size)⟩
end Go.Proofs.YteokkedaipbhlaaDoor
