/- WireTruncated returns true. Conditions: the checksum's table holds its words; numbers of 64 bits. -/
import Derived.Test.YteokkedaipbhlaaDoorLaw01Sane
import Derived.Test.YteokkedaipbhlaaDoorLaw01Num
import Derived.Test.YteokkedaipbhlaaDoorWireCalls
namespace Go.Proofs.YteokkedaipbhlaaDoor
open Go Go.RowKit
/-- A string cut to n bytes, as the walk reads it. -/
theorem cut_strT (s : ByteArray) (n : Int) (k : Nat) (hk : (k : Int) = n) : ∃ (m : Nat) (F : ByteArray), m ≤ s.size ∧ F.size = m ∧ m ≤ k ∧ (if n < (s.size : Int) then n else (s.size : Int)) = (m : Int) ∧ (if k < s.size then n else (s.size : Int)) = (m : Int) ∧ s.extract 0 m = F := by
  subst hk
  by_cases h : k < s.size
  · exact ⟨k, s.extract 0 k, by omega, by simp; omega, by omega, by rw [if_pos (by omega)], by rw [if_pos h], rfl⟩
  · exact ⟨s.size, s.extract 0 s.size, by omega, by simp, by omega, by rw [if_neg (by omega)], by rw [if_neg h], rfl⟩
/-- The bytes of an encoding, under a name. -/
theorem putInt_named (n : Int) (n1 : -4611686018427387903 ≤ n) (n2 : n ≤ 4611686018427387903) : ∃ E : ByteArray, E.data.toList = vbytes (zig n) ∧ 1 ≤ E.size ∧ E.size ≤ 10 ∧
    ∀ w, Calls Tryd.prog 12 #[.int .i64 n] w fun e w' => e = .returned (.tuple #[.string E, .int .i64 0]) ∧ Below w.heap.size w w' := by
  refine ⟨⟨(vbytes (zig n)).toArray⟩, rfl, ?_, ?_, putInt_ok n n1 n2⟩
  · exact vbytes_pos _
  · exact vbytes_le _
set_option maxRecDepth 100000 in
set_option maxHeartbeats 2000000 in
theorem wireTruncated_any (c d : Int) (s : ByteArray) (a : Int) (w : World) (c1 : -9223372036854775808 ≤ c) (c2 : c ≤ 9223372036854775807) (d1 : -9223372036854775808 ≤ d) (d2 : d ≤ 9223372036854775807)
    (a1 : -9223372036854775808 ≤ a) (a2 : a ≤ 9223372036854775807) (hT : TabOk w) (hn : 0 < w.heap.size) :
    Calls Tryd.prog 7 #[.int .i64 c, .int .i64 d, .string s, .int .i64 a] w fun e w' => e = .returned (.bool true) ∧ Below w.heap.size w w' := by
  obtain ⟨ms, S, hs1, hs2, hs3, hs4, hs5, hs6⟩ := cut_strT s 200 200 rfl
  have hSs : S.size ≤ 200 := by omega
  have hcb := numF_bd c
  have hdb := numF_bd d
  have hnc := fun W => numberFrom_any c W c1 c2
  have hnd := fun W => numberFrom_any d W d1 d2
  obtain ⟨N, hN⟩ : ∃ N, numF c = N := ⟨_, rfl⟩
  obtain ⟨M, hM⟩ : ∃ M, numF d = M := ⟨_, rfl⟩
  rw [hN] at hcb hnc
  rw [hM] at hdb hnd
  obtain ⟨E, hE, he1, he2, hPE⟩ := putInt_named N (by omega) (by omega)
  obtain ⟨F, hF, hf1, hf2, hPF⟩ := putInt_named M (by omega) (by omega)
  have hPS := fun W => putString_any S W (by unfold maxLen; omega)
  obtain ⟨G, hG⟩ : ∃ G : ByteArray, (⟨(vbytes (zig S.size)).toArray⟩ : ByteArray) ++ S = G := ⟨_, rfl⟩
  have hGl : G.data.toList = vbytes (zig S.size) ++ S.data.toList := by rw [← hG, append_list]
  rw [show putS S = .tuple #[.string G, .int .i64 0] by unfold putS; rw [if_neg (by omega), hG]] at hPS
  have hvp := vbytes_pos (zig S.size)
  have hvl := vbytes_le (zig S.size)
  have hGs : 1 ≤ G.size ∧ G.size ≤ 210 := by have := congrArg List.length hGl; simp at this; omega
  have hpa := pickI_bd a (E.size : Int) (by omega)
  have hpb := pickI_bd a (G.size : Int) (by omega)
  have hqa := fun W => pick_any a (E.size : Int) W a1 a2 (by omega) (by omega)
  have hqb := fun W => pick_any a (G.size : Int) W a1 a2 (by omega) (by omega)
  obtain ⟨p, hp⟩ : ∃ p : Nat, pickI a (E.size : Int) = p := ⟨(pickI a (E.size : Int)).toNat, by omega⟩
  obtain ⟨q, hq⟩ : ∃ q : Nat, pickI a (G.size : Int) = q := ⟨(pickI a (G.size : Int)).toNat, by omega⟩
  rw [hp] at hpa hqa
  rw [hq] at hpb hqb
  have hip := fun W => int_prefix E N p W (by omega) (by omega) hE (by omega) (by unfold maxLen; omega)
  have hsp := fun W => string_prefix G S q W (by omega) hGl (by omega) (by unfold maxLen; omega)
  obtain ⟨X, hX⟩ : ∃ X, E.extract 0 p = X := ⟨_, rfl⟩
  obtain ⟨Y, hY⟩ : ∃ Y, G.extract 0 q = Y := ⟨_, rfl⟩
  rw [hX] at hip
  rw [hY] at hsp
  have hpre : (∃ Z, F.extract 0 E.size = Z ∧ ((E.size ≤ F.size ∧ Z = E) ↔ N = M)) := by
    refine ⟨_, rfl, fun h => ?_, fun h => ?_⟩
    · refine vbytes_prefix_free (by omega) (by omega) (by omega) (by omega) ?_
      rw [← hE, ← hF]
      have := congrArg (fun z : ByteArray => z.data.toList) h.2
      simp only [extract_list, List.drop_zero, Nat.sub_zero] at this
      simpa using this
    · have : F = E := bytes_ext (by rw [hE, hF, h])
      subst this
      exact ⟨Nat.le_refl _, by simp⟩
  obtain ⟨Z, hZ, hpre⟩ := hpre
  have HT := Lib.hid hT
  have HNC := Lib.hid hnc
  have HND := Lib.hid hnd
  have HPE := Lib.hid hPE
  have HPF := Lib.hid hPF
  have HPS := Lib.hid hPS
  have HQA := Lib.hid hqa
  have HQB := Lib.hid hqb
  have HIP := Lib.hid hip
  have HSP := Lib.hid hsp
  have HPRE := Lib.hid hpre
  clear hT hs2 hN hM hnc hnd hPE hPF hPS hG hGl hE hF hp hq hqa hqb hip hsp hvp hvl hpre
  go_enter Tryd.func7, Tryd.ntmps7
  go_wp2_with fail
  refine (sane_any _ HT.out hn).mono ?_
  rintro e w1 ⟨rfl, hB1⟩
  go_wp2_with fail
  refine (HNC.out _).mono ?_
  rintro e w2 ⟨rfl, hB2⟩
  go_wp2_with fail
  refine (HPE.out _).mono ?_
  rintro e w3 ⟨rfl, hB3⟩
  go_wp2_with fail
  refine (HND.out _).mono ?_
  rintro e w4 ⟨rfl, hB4⟩
  go_wp2_with fail
  refine (HPF.out _).mono ?_
  rintro e w5 ⟨rfl, hB5⟩
  go_wp2_with fail
  refine (HPS.out _).mono ?_
  rintro e w6 ⟨rfl, hB6⟩
  have hBB : Below w.heap.size w w6 := by
    have b2 := hB1.trans (hB2.mono hB1.size)
    have b3 := b2.trans (hB3.mono b2.size)
    have b4 := b3.trans (hB4.mono b3.size)
    have b5 := b4.trans (hB5.mono b4.size)
    exact b5.trans (hB6.mono b5.size)
  clear hB1 hB2 hB3 hB4 hB5 hB6
  have he0 : ((E.size : Int) == 0) = false := beq_eq_false_iff_ne.2 (by omega)
  have hg0 : ((G.size : Int) == 0) = false := beq_eq_false_iff_ne.2 (by omega)
  go_wp2_with fail
  refine (HQA.out _).mono ?_
  rintro e w' ⟨rfl, rfl⟩
  go_wp2_with fail
  refine (HIP.out _).mono ?_
  rintro e w' ⟨rfl, rfl⟩
  go_wp2_with fail
  refine (HQB.out _).mono ?_
  rintro e w' ⟨rfl, rfl⟩
  go_wp2_with fail
  refine (HSP.out _).mono ?_
  rintro e w' ⟨rfl, rfl⟩
  by_cases hle : E.size ≤ F.size
  · by_cases hz : (Z.toList == E.toList) = true
    · have hNM : N = M := HPRE.out.1 ⟨hle, bytes_ext (by have := beq_iff_eq.1 hz; rwa [ByteArray.toList_eq, ByteArray.toList_eq] at this)⟩
      subst hNM
      go_wp2_with fail
      refine (HNC.out _).mono ?_
      rintro e w7 ⟨rfl, hB7⟩
      go_wp2_with fail
      refine (HND.out _).mono ?_
      rintro e w8 ⟨rfl, hB8⟩
      go_wp2
      go_ret
      exact ⟨rfl, (hBB.trans (hB7.mono hBB.size)).trans (hB8.mono (Nat.le_trans hBB.size hB7.size))⟩
    · have hNM : ¬ N = M := fun h => hz (by rw [(HPRE.out.2 h).2]; exact beq_iff_eq.2 rfl)
      have hnm : (N == M) = false := beq_eq_false_iff_ne.2 hNM
      have hz' : (Z.toList == E.toList) = false := by simpa using hz
      clear hNM hz
      go_wp2_with fail
      refine (HNC.out _).mono ?_
      rintro e w7 ⟨rfl, hB7⟩
      go_wp2_with fail
      refine (HND.out _).mono ?_
      rintro e w8 ⟨rfl, hB8⟩
      go_wp2
      go_ret
      exact ⟨rfl, (hBB.trans (hB7.mono hBB.size)).trans (hB8.mono (Nat.le_trans hBB.size hB7.size))⟩
  · have hNM : ¬ N = M := fun h => hle (HPRE.out.2 h).1
    have hnm : (N == M) = false := beq_eq_false_iff_ne.2 hNM
    have hle' : F.size < E.size := by omega
    clear hNM hle
    go_wp2_with fail
    refine (HNC.out _).mono ?_
    rintro e w7 ⟨rfl, hB7⟩
    go_wp2_with fail
    refine (HND.out _).mono ?_
    rintro e w8 ⟨rfl, hB8⟩
    go_wp2
    go_ret
    exact ⟨rfl, (hBB.trans (hB7.mono hBB.size)).trans (hB8.mono (Nat.le_trans hBB.size hB7.size))⟩
end Go.Proofs.YteokkedaipbhlaaDoor
