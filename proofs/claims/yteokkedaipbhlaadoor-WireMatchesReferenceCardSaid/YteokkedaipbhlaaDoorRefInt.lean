/- The reference's Int: the same as package wire's. Condition: the string is no longer than a string may be. -/
import Derived.Test.YteokkedaipbhlaaDoorRefPutInt
import Derived.Test.YteokkedaipbhlaaDoorRefIntSpec
import Derived.WalkSpells
namespace Go.Proofs.YteokkedaipbhlaaDoor
open Go Go.RowKit
set_option maxRecDepth 100000 in
set_option maxHeartbeats 1000000 in
theorem refInt_in (s : ByteArray) (a : Nat) (w : World) (hs : s.size ≤ maxLen) (ha : a ≤ s.size) :
    Calls Tryd.prog 16 #[.string s, .int .i64 a] w fun e w' => e = .returned (intVal a (intDec (s.data.toList.drop a))) ∧ Below w.heap.size w w' := by
  unfold maxLen at hs
  have hd0 : decide (s.size < a) = false := by simp; omega
  obtain ⟨RES, hRES⟩ : ∃ RES, intVal a (intDec (s.data.toList.drop a)) = RES := ⟨_, rfl⟩
  rw [hRES]
  have HRES := Lib.hid hRES
  clear hRES
  go_enter Tryd.func16, Tryd.ntmps16
  go_wp2
  go_loopw [7, 8] (fun z i wr => ∃ (k y : Nat), k ≤ 9 ∧ a + k ≤ s.size ∧ RefInv s a k y ∧ i = .int .i64 k ∧ z = .int .u64 y ∧ Below w.heap.size w wr) (fun _ i _ => 9 - (intOf i).toNat)
  case atStart => exact ⟨0, 0, by omega, by omega, RefInv.start s a, rfl, rfl, Below.refl _ _⟩
  case round =>
    obtain ⟨k, y, hk, hks, hinv, rfl, rfl, hB⟩ := hrel
    have HI := Lib.hid hinv
    clear hinv
    by_cases h9 : k < 9
    · by_cases hlt : a + k < s.size
      · obtain ⟨c, hc⟩ : ∃ c, s[a + k].toNat = c := ⟨_, rfl⟩
        have hc2 : c < 256 := by have := s[a + k].toNat_lt; omega
        have hst := HI.out.1.step h9 hlt hc
        have hstb := HI.out.step h9 hlt hc
        have hstf := HI.out.fin h9 hlt hc
        have hor := or_shift y c k h9 HI.out.1.1
        have e2 := wrap_shift y c k h9 HI.out.1.1
        obtain ⟨Y, hY⟩ : ∃ Y : Nat, y + c % 128 * 128 ^ k = Y := ⟨_, rfl⟩
        rw [hY] at hst hor e2 hstb hstf
        have hY2 := hor.2.2
        have hzu := zig_unzig Y hY2
        have HST := Lib.hid hst
        have HSB := Lib.hid hstb
        have HSF := Lib.hid hstf
        clear hY hst hor hstb hstf
        by_cases hb : 128 ≤ c
        · have hcb : 128 ≤ (c : Int) := by omega
          clear hzu
          go_wp2
          go_roundw
          case rel => exact ⟨k + 1, Y, by omega, by omega, HSB.out hb, by go_num, rfl, hB⟩
          case measure => simp [intOf]; omega
        · have hcb : (c : Int) < 128 := by omega
          obtain ⟨T, hT⟩ : ∃ T, s.extract a (a + k + 1) = T := ⟨_, rfl⟩
          have hsl : ∀ W, (Instr.slice 9 (.string s) (some (.int .i64 (a : Int))) (some (.int .i64 ((a : Int) + (k : Int) + 1))) none).run Tryd.prog W = .ok (.string T) W := fun W => by
            rw [run_slice_string (P := Tryd.prog) W 9 s .i64 .i64 a ((a : Int) + (k : Int) + 1) Tryd.underlying9 (by omega) (by omega) (by omega), ← hT]
            congr 3
          have hTl : T.data.toList = (s.data.toList.drop a).take (k + 1) := by rw [← hT, extract_list]; congr 1; omega
          have hcmp : (vbytes Y = T.toList) ↔ ¬ (c = 0 ∧ 0 < k) := by
            rw [ByteArray.toList_eq, hTl]
            exact ⟨fun h hx => (HSF.out hb).1 hx h, fun hx => (HSF.out hb).2 hx⟩
          have HCMP := Lib.hid hcmp
          clear hT hTl hcmp
          by_cases hv : unzig Y < -4611686018427387903
          · have hYv : Y = 9223372036854775807 := by unfold unzig at hv; split at hv <;> omega
            have HF := Lib.hid (HST.out.2.1 hb (.inr hv))
            have hlow : -((Y : Int) / 2) - 1 < -4611686018427387903 := by omega
            have hn2 : ((Y : Int) % 2 == 1) = true := by simp; omega
            clear hYv hzu hv
            go_wp2_with (go_at_call 13; refine (refPutInt_bad _ (.inl (by omega)) _).mono ?_; rintro e w' ⟨rfl, rfl⟩)
            go_ret3
            exact ⟨by rw [← HRES.out, HF.out]; rfl, hB⟩
          · by_cases hz : c = 0 ∧ 0 < k
            · have HF := Lib.hid (HST.out.2.1 hb (.inl hz))
              have hne : (vbytes Y == T.toList) = false := by rw [beq_eq_false_iff_ne]; exact fun h => HCMP.out.1 h hz
              clear hz
              by_cases hn : Y % 2 = 0
              · have hn2 : ((Y : Int) % 2 == 1) = false := by simp; omega
                have e4 : zig ((Y : Int) / 2) = Y := by rw [show ((Y : Int) / 2) = unzig Y by unfold unzig; rw [if_pos hn]; omega]; exact hzu
                clear hzu
                go_wp2_with (go_at_call 13; refine (refPutInt_ok _ (by omega) (by omega) _).mono ?_; rintro e w' ⟨rfl, hB1⟩)
                all_goals
                  go_ret3
                  exact ⟨by rw [← HRES.out, HF.out]; rfl, hB.trans (hB1.mono hB.size)⟩
              · have hn2 : ((Y : Int) % 2 == 1) = true := by simp; omega
                have hvv : -(Y : Int) / 2 = unzig Y := by unfold unzig; rw [if_neg hn]; omega
                have e4 : zig (-((Y : Int) / 2) - 1) = Y := by rw [show (-((Y : Int) / 2) - 1) = unzig Y by unfold unzig; rw [if_neg hn]; omega]; exact hzu
                have hlow : -4611686018427387903 ≤ -((Y : Int) / 2) - 1 := by unfold unzig at hv; rw [if_neg hn] at hv; omega
                clear hzu hvv
                go_wp2_with (go_at_call 13; refine (refPutInt_ok _ (by omega) (by omega) _).mono ?_; rintro e w' ⟨rfl, hB1⟩)
                all_goals
                  go_ret3
                  exact ⟨by rw [← HRES.out, HF.out]; rfl, hB.trans (hB1.mono hB.size)⟩
            · have HF := Lib.hid (HST.out.2.2 hb (by omega))
              have hne : (vbytes Y == T.toList) = true := by rw [beq_iff_eq]; exact HCMP.out.2 hz
              by_cases hn : Y % 2 = 0
              · have hn2 : ((Y : Int) % 2 == 1) = false := by simp; omega
                have e4 : zig ((Y : Int) / 2) = Y := by rw [show ((Y : Int) / 2) = unzig Y by unfold unzig; rw [if_pos hn]; omega]; exact hzu
                clear hzu
                go_wp2_with (go_at_call 13; refine (refPutInt_ok _ (by omega) (by omega) _).mono ?_; rintro e w' ⟨rfl, hB1⟩)
                all_goals
                  go_ret3
                  exact ⟨by rw [← HRES.out, HF.out]; simp [intVal, unzig, hn, Int.add_assoc], hB.trans (hB1.mono hB.size)⟩
              · have hn2 : ((Y : Int) % 2 == 1) = true := by simp; omega
                have hvv : -(Y : Int) / 2 = unzig Y := by unfold unzig; rw [if_neg hn]; omega
                have e4 : zig (-((Y : Int) / 2) - 1) = Y := by rw [show (-((Y : Int) / 2) - 1) = unzig Y by unfold unzig; rw [if_neg hn]; omega]; exact hzu
                have hlow : -4611686018427387903 ≤ -((Y : Int) / 2) - 1 := by unfold unzig at hv; rw [if_neg hn] at hv; omega
                clear hzu hvv
                go_wp2_with (go_at_call 13; refine (refPutInt_ok _ (by omega) (by omega) _).mono ?_; rintro e w' ⟨rfl, hB1⟩)
                all_goals
                  go_ret3
                  exact ⟨by rw [← HRES.out, HF.out]; simp [intVal, unzig, hn, Int.add_assoc], hB.trans (hB1.mono hB.size)⟩
      · have HF := Lib.hid (HI.out.1.endS h9 hlt)
        go_wp2
        go_ret3
        exact ⟨by rw [← HRES.out, HF.out]; rfl, hB⟩
    · have HF := Lib.hid (HI.out.1.end9 h9)
      go_wp2
      go_ret3
      exact ⟨by rw [← HRES.out, HF.out]; rfl, hB⟩
set_option maxRecDepth 100000 in
set_option maxHeartbeats 400000 in
theorem refInt_any (s : ByteArray) (at_ : Int) (w : World) (hs : s.size ≤ maxLen) :
    Calls Tryd.prog 16 #[.string s, .int .i64 at_] w fun e w' => e = .returned (wInt s at_) ∧ Below w.heap.size w w' := by
  by_cases h : at_ < 0 ∨ (s.size : Int) < at_
  · have hr : wInt s at_ = .tuple #[.int .i64 0, .int .i64 0, .int .i64 2] := by unfold wInt; rw [if_pos h]
    rw [hr]
    clear hr
    unfold maxLen at hs
    by_cases h1 : at_ < 0
    · go_enter Tryd.func16, Tryd.ntmps16
      go_wp2
      go_ret3
      exact ⟨rfl, Below.refl _ _⟩
    · have h2 : (s.size : Int) < at_ := by omega
      clear h
      go_enter Tryd.func16, Tryd.ntmps16
      go_wp2
      go_ret3
      exact ⟨rfl, Below.refl _ _⟩
  · obtain ⟨a, rfl⟩ : ∃ a : Nat, at_ = (a : Int) := ⟨at_.toNat, by omega⟩
    have hr : wInt s a = intVal a (intDec (s.data.toList.drop a)) := by unfold wInt; rw [if_neg h]; simp
    rw [hr]
    exact refInt_in s a w hs (by omega)
end Go.Proofs.YteokkedaipbhlaaDoor
