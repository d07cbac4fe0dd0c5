/- The reference's String: the same as package wire's. Condition: the string is no longer than a string may be. -/
import Derived.Test.YteokkedaipbhlaaDoorString
import Derived.Test.YteokkedaipbhlaaDoorRefInt
namespace Go.Proofs.YteokkedaipbhlaaDoor
open Go Go.RowKit
set_option maxRecDepth 100000 in
set_option maxHeartbeats 1000000 in
theorem refString_any (s : ByteArray) (at_ : Int) (w : World) (hs : s.size ≤ maxLen) :
    Calls Tryd.prog 18 #[.string s, .int .i64 at_] w fun e w' => e = .returned (wString s at_) ∧ Below w.heap.size w w' := by
  by_cases h : at_ < 0 ∨ (s.size : Int) < at_
  · have hr : wString s at_ = .tuple #[.string ⟨#[]⟩, .int .i64 0, .int .i64 2] := by unfold wString; rw [if_pos h]
    have hi : wInt s at_ = .tuple #[.int .i64 0, .int .i64 0, .int .i64 2] := by unfold wInt; rw [if_pos h]
    rw [hr]
    have hc := refInt_any s at_ w hs
    rw [hi] at hc
    have HC := Lib.hid hc
    clear hr hi h hc
    go_enter Tryd.func18, Tryd.ntmps18
    go_wp2_with (go_at_call 16; refine HC.out.mono ?_; rintro e w' ⟨rfl, hB⟩)
    go_ret3
    exact ⟨rfl, hB⟩
  · obtain ⟨a, rfl⟩ : ∃ a : Nat, at_ = (a : Int) := ⟨at_.toNat, by omega⟩
    have hr : wString s a = strVal s a (intDec (s.data.toList.drop a)) := by unfold wString; rw [if_neg h]; simp
    have hc := refInt_in s a w hs (by omega)
    rw [hr]
    clear hr
    unfold maxLen at hs
    cases hd : intDec (s.data.toList.drop a) with
    | none =>
      rw [hd] at hc
      have HC := Lib.hid hc
      clear hc hd h
      go_enter Tryd.func18, Tryd.ntmps18
      go_wp2_with (go_at_call 16; refine HC.out.mono ?_; unfold intVal; rintro e w' ⟨rfl, hB⟩)
      go_ret3
      exact ⟨rfl, hB⟩
    | some p =>
      obtain ⟨n, k⟩ := p
      have hb := intDec_bd hd
      rw [hd] at hc
      have HC := Lib.hid hc
      simp at hb
      clear hc hd h
      have hcast : ((a + k : Nat) : Int) = (a : Int) + (k : Int) := by simp
      by_cases hx : n < 0 ∨ 65536 < n ∨ (s.size : Int) - ((a + k : Nat) : Int) < n
      · have hv : strVal s a (some (n, k)) = .tuple #[.string ⟨#[]⟩, .int .i64 0, .int .i64 10] := by unfold strVal; simp only; rw [if_pos hx]
        rw [hv]
        clear hv
        by_cases h1 : n < 0
        · clear hx
          go_enter Tryd.func18, Tryd.ntmps18
          go_wp2_with (go_at_call 16; refine HC.out.mono ?_; unfold intVal; rintro e w' ⟨rfl, hB⟩)
          go_ret3
          exact ⟨rfl, hB⟩
        · by_cases h2 : 65536 < n
          · clear hx
            go_enter Tryd.func18, Tryd.ntmps18
            go_wp2_with (go_at_call 16; refine HC.out.mono ?_; unfold intVal; rintro e w' ⟨rfl, hB⟩)
            go_ret3
            exact ⟨rfl, hB⟩
          · have h3 : (s.size : Int) - ((a : Int) + (k : Int)) < n := by omega
            clear hx
            go_enter Tryd.func18, Tryd.ntmps18
            go_wp2_with (go_at_call 16; refine HC.out.mono ?_; unfold intVal; rintro e w' ⟨rfl, hB⟩)
            go_ret3
            exact ⟨rfl, hB⟩
      · have hv : strVal s a (some (n, k)) = .tuple #[.string (s.extract (a + k) (a + k + n.toNat)), .int .i64 (((a + k : Nat) : Int) + n), .int .i64 0] := by unfold strVal; simp only; rw [if_neg hx]
        rw [hv]
        clear hv
        have h1 : ¬ n < 0 := by omega
        have h2 : ¬ 65536 < n := by omega
        have h3 : ¬ (s.size : Int) - ((a : Int) + (k : Int)) < n := by omega
        obtain ⟨T, hT⟩ : ∃ T, s.extract (a + k) (a + k + n.toNat) = T := ⟨_, rfl⟩
        rw [hT]
        have hsl : ∀ W, (Instr.slice 9 (.string s) (some (.int .i64 ((a : Int) + (k : Int)))) (some (.int .i64 ((a : Int) + (k : Int) + n))) none).run Tryd.prog W = .ok (.string T) W := fun W => by
          rw [run_slice_string (P := Tryd.prog) W 9 s .i64 .i64 ((a : Int) + (k : Int)) ((a : Int) + (k : Int) + n) Tryd.underlying9 (by omega) (by omega) (by omega), ← hT]
          congr 3
          omega
        clear hx hT
        go_enter Tryd.func18, Tryd.ntmps18
        go_wp2_with (go_at_call 16; refine HC.out.mono ?_; unfold intVal; rintro e w' ⟨rfl, hB⟩)
        go_ret3
        exact ⟨rfl, hB⟩
end Go.Proofs.YteokkedaipbhlaaDoor
