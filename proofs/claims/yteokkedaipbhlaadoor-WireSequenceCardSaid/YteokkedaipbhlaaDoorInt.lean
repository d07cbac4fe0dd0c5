/- Package wire: Int returns the number at an offset and the end of its encoding, or an error. Condition: the string is no longer than a string may be. -/
import Derived.Test.YteokkedaipbhlaaDoorProg
import Derived.Test.YteokkedaipbhlaaDoorIntSpec
import Derived.WalkKit
import Derived.IntWalk
import Derived.Lib.Hide
namespace Go.Proofs.YteokkedaipbhlaaDoor
open Go Go.RowKit
/-- What Int returns. -/
def intVal (a : Nat) : Option (Int × Nat) → Value
  | none => .tuple #[.int .i64 0, .int .i64 0, .int .i64 10]
  | some (n, k) => .tuple #[.int .i64 n, .int .i64 ((a + k : Nat) : Int), .int .i64 0]
def wInt (s : ByteArray) (at_ : Int) : Value :=
  if at_ < 0 ∨ (s.size : Int) < at_ then .tuple #[.int .i64 0, .int .i64 0, .int .i64 2] else intVal at_.toNat (intDec (s.data.toList.drop at_.toNat))
/-- After k bytes. -/
def IntInv (s : ByteArray) (a k y : Nat) : Prop := y < 128 ^ k ∧ idec (9 - k) k y (s.data.toList.drop (a + k)) = intDec (s.data.toList.drop a)
theorem IntInv.start (s : ByteArray) (a : Nat) : IntInv s a 0 0 := ⟨by decide, rfl⟩
theorem drop_byte (s : ByteArray) (i : Nat) (h : i < s.size) : s.data.toList.drop i = s[i] :: s.data.toList.drop (i + 1) := by
  rw [List.drop_eq_getElem_cons (by simpa using h)]
  rfl
theorem IntInv.end9 {s : ByteArray} {a k y : Nat} (h : IntInv s a k y) (hk : ¬ k < 9) : intDec (s.data.toList.drop a) = none := by
  rw [← h.2, show 9 - k = 0 by omega]; rfl
theorem IntInv.endS {s : ByteArray} {a k y : Nat} (h : IntInv s a k y) (hk : k < 9) (hs : ¬ a + k < s.size) : intDec (s.data.toList.drop a) = none := by
  rw [← h.2, show 9 - k = (8 - k) + 1 by omega, List.drop_eq_nil_of_le (by simp; omega)]; rfl
theorem IntInv.step {s : ByteArray} {a k y c : Nat} (h : IntInv s a k y) (hk : k < 9) (hs : a + k < s.size) (hc : s[a + k].toNat = c) :
    (128 ≤ c → IntInv s a (k + 1) (y + c % 128 * 128 ^ k)) ∧
    (¬ 128 ≤ c → (c = 0 ∧ 0 < k) ∨ unzig (y + c % 128 * 128 ^ k) < -4611686018427387903 → intDec (s.data.toList.drop a) = none) ∧
    (¬ 128 ≤ c → ¬ ((c = 0 ∧ 0 < k) ∨ unzig (y + c % 128 * 128 ^ k) < -4611686018427387903) → intDec (s.data.toList.drop a) = some (unzig (y + c % 128 * 128 ^ k), k + 1)) := by
  have e := h.2
  rw [show 9 - k = (8 - k) + 1 by omega, drop_byte s (a + k) hs, idec, hc] at e
  refine ⟨fun hb => ⟨(or_shift y c k hk h.1).2.1, ?_⟩, fun hb hx => ?_, fun hb hx => ?_⟩
  · rw [if_pos hb] at e
    rw [← e, show 9 - (k + 1) = 8 - k by omega, Nat.add_assoc]
  · rw [if_neg hb, if_pos hx] at e; exact e.symm
  · rw [if_neg hb, if_neg hx] at e; exact e.symm
set_option maxRecDepth 100000 in
set_option maxHeartbeats 1000000 in
theorem int_in (s : ByteArray) (a : Nat) (w : World) (hs : s.size ≤ maxLen) (ha : a ≤ s.size) :
    Calls Tryd.prog 15 #[.string s, .int .i64 a] w fun e w' => e = .returned (intVal a (intDec (s.data.toList.drop a))) ∧ w = w' := by
  unfold maxLen at hs
  have hd0 : decide (s.size < a) = false := by simp; omega
  obtain ⟨RES, hRES⟩ : ∃ RES, intVal a (intDec (s.data.toList.drop a)) = RES := ⟨_, rfl⟩
  rw [hRES]
  have HRES := Lib.hid hRES
  clear hRES
  go_enter Tryd.func15, Tryd.ntmps15
  go_wp2
  go_loop [7, 19] (fun z i => ∃ (k y : Nat), k ≤ 9 ∧ a + k ≤ s.size ∧ IntInv s a k y ∧ i = .int .i64 k ∧ z = .int .u64 y) (fun _ i => 9 - (intOf i).toNat)
  case atStart => exact ⟨0, 0, by omega, by omega, IntInv.start s a, rfl, rfl⟩
  case round =>
    obtain ⟨k, y, hk, hks, hinv, rfl, rfl⟩ := hrel
    have HI := Lib.hid hinv
    clear hinv
    by_cases h9 : k < 9
    · by_cases hlt : a + k < s.size
      · obtain ⟨c, hc⟩ : ∃ c, s[a + k].toNat = c := ⟨_, rfl⟩
        have hc2 : c < 256 := by have := s[a + k].toNat_lt; omega
        have e1 := and127_u8 c hc2
        have hst := HI.out.step h9 hlt hc
        have hor := or_shift y c k h9 HI.out.1
        obtain ⟨Y, hY⟩ : ∃ Y : Nat, y + c % 128 * 128 ^ k = Y := ⟨_, rfl⟩
        rw [hY] at hst hor
        have hY2 := hor.2.2
        have e2 := hor.1
        have e3 := unzig_bits Y hY2
        obtain ⟨v, hv⟩ : ∃ v, unzig Y = v := ⟨_, rfl⟩
        rw [hv] at e3 hst
        have HY := Lib.hid hY
        have HST := Lib.hid hst
        have HV := Lib.hid hv
        clear hY hst hor hv
        by_cases hb : 128 ≤ c
        · go_wp2
          go_round
          case rel => exact ⟨k + 1, Y, by omega, by omega, HST.out.1 hb, by go_num, rfl⟩
          case measure => simp [intOf]; omega
        · have hcb : (c : Int) < 128 := by omega
          by_cases hz : c = 0 ∧ 0 < k
          · have hfin := HST.out.2.1 hb (.inl hz)
            have HF := Lib.hid hfin
            clear hfin HST
            have hz1 : ((c : Int) == 0) = true := by simp; omega
            have hz2 : (0 : Int) < k := by omega
            go_wp2
            all_goals
              go_ret3
              exact ⟨by rw [← HRES.out, HF.out]; rfl, rfl⟩
          · by_cases hn : v < -4611686018427387903
            · have hfin := HST.out.2.1 hb (.inr hn)
              have HF := Lib.hid hfin
              clear hfin HST
              go_wp2
              all_goals
                go_ret3
                exact ⟨by rw [← HRES.out, HF.out]; rfl, rfl⟩
            · have hfin := HST.out.2.2 hb (by omega)
              have HF := Lib.hid hfin
              clear hfin HST
              go_wp2
              all_goals
                go_ret3
                exact ⟨by rw [← HRES.out, HF.out]; simp [intVal, Int.add_assoc]; try omega, rfl⟩
      · have HF := Lib.hid (HI.out.endS h9 hlt)
        go_wp2
        go_ret3
        exact ⟨by rw [← HRES.out, HF.out]; rfl, rfl⟩
    · have HF := Lib.hid (HI.out.end9 h9)
      go_wp2
      go_ret3
      exact ⟨by rw [← HRES.out, HF.out]; rfl, rfl⟩
set_option maxRecDepth 100000 in
set_option maxHeartbeats 400000 in
theorem int_any (s : ByteArray) (at_ : Int) (w : World) (hs : s.size ≤ maxLen) :
    Calls Tryd.prog 15 #[.string s, .int .i64 at_] w fun e w' => e = .returned (wInt s at_) ∧ w = w' := by
  by_cases h : at_ < 0 ∨ (s.size : Int) < at_
  · have hr : wInt s at_ = .tuple #[.int .i64 0, .int .i64 0, .int .i64 2] := by unfold wInt; rw [if_pos h]
    rw [hr]
    clear hr
    unfold maxLen at hs
    by_cases h1 : at_ < 0
    · go_enter Tryd.func15, Tryd.ntmps15
      go_wp2
      go_ret3
      exact ⟨rfl, rfl⟩
    · have h2 : (s.size : Int) < at_ := by omega
      clear h
      go_enter Tryd.func15, Tryd.ntmps15
      go_wp2
      go_ret3
      exact ⟨rfl, rfl⟩
  · obtain ⟨a, rfl⟩ : ∃ a : Nat, at_ = (a : Int) := ⟨at_.toNat, by omega⟩
    have hr : wInt s a = intVal a (intDec (s.data.toList.drop a)) := by unfold wInt; rw [if_neg h]; simp
    rw [hr]
    exact int_in s a w hs (by omega)
end Go.Proofs.YteokkedaipbhlaaDoor
