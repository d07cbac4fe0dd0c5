/- Package wire: String returns the string at an offset and the end of its encoding, or an error. Condition: the string is no longer than a string may be. -/
import Derived.Test.YteokkedaipbhlaaDoorInt
import Derived.Test.YteokkedaipbhlaaDoorPutInt
import Derived.WalkSpells
namespace Go.Proofs.YteokkedaipbhlaaDoor
open Go Go.RowKit
/-- What String finds. -/
def strVal (s : ByteArray) (a : Nat) : Option (Int × Nat) → Value
  | none => .tuple #[.string ⟨#[]⟩, .int .i64 0, .int .i64 10]
  | some (n, k) => if n < 0 ∨ 65536 < n ∨ (s.size : Int) - ((a + k : Nat) : Int) < n then .tuple #[.string ⟨#[]⟩, .int .i64 0, .int .i64 10]
      else .tuple #[.string (s.extract (a + k) (a + k + n.toNat)), .int .i64 (((a + k : Nat) : Int) + n), .int .i64 0]
def wString (s : ByteArray) (at_ : Int) : Value :=
  if at_ < 0 ∨ (s.size : Int) < at_ then .tuple #[.string ⟨#[]⟩, .int .i64 0, .int .i64 2] else strVal s at_.toNat (intDec (s.data.toList.drop at_.toNat))
theorem idec_bd (f : Nat) : ∀ (k y : Nat) (l : List UInt8) (n : Int) (j : Nat), idec f k y l = some (n, j) → f + k ≤ 9 → y < 128 ^ k → -4611686018427387904 ≤ n ∧ n ≤ 4611686018427387903 ∧ k < j ∧ j - k ≤ l.length ∧ j ≤ 9 := by
  induction f with
  | zero => intro k y l n j h; simp [idec] at h
  | succ f ih =>
    intro k y l n j h hf hy
    cases l with
    | nil => simp [idec] at h
    | cons b l =>
      have hor := or_shift y b.toNat k (by omega) hy
      rw [idec] at h
      by_cases hb : 128 ≤ b.toNat
      · rw [if_pos hb] at h
        have := ih (k + 1) _ l n j h (by omega) hor.2.1
        simp; omega
      · rw [if_neg hb] at h
        by_cases hx : (b.toNat = 0 ∧ 0 < k) ∨ unzig (y + b.toNat % 128 * 128 ^ k) < -4611686018427387903
        · rw [if_pos hx] at h; cases h
        · rw [if_neg hx] at h
          simp only [Option.some.injEq, Prod.mk.injEq] at h
          obtain ⟨rfl, rfl⟩ := h
          have := unzig_bd _ hor.2.2
          simp; omega
theorem intDec_bd {l : List UInt8} {n : Int} {j : Nat} (h : intDec l = some (n, j)) : -4611686018427387904 ≤ n ∧ n ≤ 4611686018427387903 ∧ 0 < j ∧ j ≤ l.length ∧ j ≤ 9 := by
  have := idec_bd 9 0 0 l n j h (by omega) (by decide)
  omega
set_option maxRecDepth 100000 in
set_option maxHeartbeats 1000000 in
theorem string_any (s : ByteArray) (at_ : Int) (w : World) (hs : s.size ≤ maxLen) :
    Calls Tryd.prog 17 #[.string s, .int .i64 at_] w fun e w' => e = .returned (wString s at_) ∧ w = w' := by
  by_cases h : at_ < 0 ∨ (s.size : Int) < at_
  · have hr : wString s at_ = .tuple #[.string ⟨#[]⟩, .int .i64 0, .int .i64 2] := by unfold wString; rw [if_pos h]
    have hi : wInt s at_ = .tuple #[.int .i64 0, .int .i64 0, .int .i64 2] := by unfold wInt; rw [if_pos h]
    rw [hr]
    have hc := int_any s at_ w hs
    rw [hi] at hc
    have HC := Lib.hid hc
    clear hr hi h hc
    go_enter Tryd.func17, Tryd.ntmps17
    go_wp2_with (go_at_call 15; refine HC.out.mono ?_; rintro e w' ⟨rfl, rfl⟩)
    go_ret3
    exact ⟨rfl, rfl⟩
  · obtain ⟨a, rfl⟩ : ∃ a : Nat, at_ = (a : Int) := ⟨at_.toNat, by omega⟩
    have hr : wString s a = strVal s a (intDec (s.data.toList.drop a)) := by unfold wString; rw [if_neg h]; simp
    have hc := int_in s a w hs (by omega)
    rw [hr]
    clear hr
    unfold maxLen at hs
    cases hd : intDec (s.data.toList.drop a) with
    | none =>
      rw [hd] at hc
      have HC := Lib.hid hc
      clear hc hd h
      go_enter Tryd.func17, Tryd.ntmps17
      go_wp2_with (go_at_call 15; refine HC.out.mono ?_; unfold intVal; rintro e w' ⟨rfl, rfl⟩)
      go_ret3
      exact ⟨rfl, rfl⟩
    | some p =>
      obtain ⟨n, k⟩ := p
      have hb := intDec_bd hd
      rw [hd] at hc
      have HC := Lib.hid hc
      simp at hb
      clear hc hd h
      have hcast : ((a + k : Nat) : Int) = (a : Int) + (k : Int) := by simp
      by_cases hx : n < 0 ∨ 65536 < n ∨ (s.size : Int) - ((a + k : Nat) : Int) < n
      · have hv : strVal s a (some (n, k)) = .tuple #[.string ⟨#[]⟩, .int .i64 0, .int .i64 10] := by unfold strVal; simp only; rw [if_pos hx]
        rw [hv]
        clear hv
        by_cases h1 : n < 0
        · clear hx
          go_enter Tryd.func17, Tryd.ntmps17
          go_wp2_with (go_at_call 15; refine HC.out.mono ?_; unfold intVal; rintro e w' ⟨rfl, rfl⟩)
          go_ret3
          exact ⟨rfl, rfl⟩
        · by_cases h2 : 65536 < n
          · clear hx
            go_enter Tryd.func17, Tryd.ntmps17
            go_wp2_with (go_at_call 15; refine HC.out.mono ?_; unfold intVal; rintro e w' ⟨rfl, rfl⟩)
            go_ret3
            exact ⟨rfl, rfl⟩
          · have h3 : (s.size : Int) - ((a : Int) + (k : Int)) < n := by omega
            clear hx
            go_enter Tryd.func17, Tryd.ntmps17
            go_wp2_with (go_at_call 15; refine HC.out.mono ?_; unfold intVal; rintro e w' ⟨rfl, rfl⟩)
            go_ret3
            exact ⟨rfl, rfl⟩
      · have hv : strVal s a (some (n, k)) = .tuple #[.string (s.extract (a + k) (a + k + n.toNat)), .int .i64 (((a + k : Nat) : Int) + n), .int .i64 0] := by unfold strVal; simp only; rw [if_neg hx]
        rw [hv]
        clear hv
        have h1 : ¬ n < 0 := by omega
        have h2 : ¬ 65536 < n := by omega
        have h3 : ¬ (s.size : Int) - ((a : Int) + (k : Int)) < n := by omega
        obtain ⟨T, hT⟩ : ∃ T, s.extract (a + k) (a + k + n.toNat) = T := ⟨_, rfl⟩
        rw [hT]
        have hsl : ∀ W, (Instr.slice 9 (.string s) (some (.int .i64 ((a : Int) + (k : Int)))) (some (.int .i64 ((a : Int) + (k : Int) + n))) none).run Tryd.prog W = .ok (.string T) W := fun W => by
          rw [run_slice_string (P := Tryd.prog) W 9 s .i64 .i64 ((a : Int) + (k : Int)) ((a : Int) + (k : Int) + n) Tryd.underlying9 (by omega) (by omega) (by omega), ← hT]
          congr 3
          omega
        clear hx hT
        go_enter Tryd.func17, Tryd.ntmps17
        go_wp2_with (go_at_call 15; refine HC.out.mono ?_; unfold intVal; rintro e w' ⟨rfl, rfl⟩)
        go_ret3
        exact ⟨rfl, rfl⟩
end Go.Proofs.YteokkedaipbhlaaDoor
