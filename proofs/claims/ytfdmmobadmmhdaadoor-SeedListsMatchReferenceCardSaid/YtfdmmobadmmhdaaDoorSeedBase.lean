/- Package seed: isNamed, Reduce. No condition. -/
import Derived.Test.YtfdmmobadmmhdaaDoorShaSum
import Derived.Test.YtfdmmobadmmhdaaDoorPutString
namespace Go.Proofs.YtfdmmobadmmhdaaDoor
open Go Go.RowKit
def Named (s : ByteArray) (i : Int) : Prop := 1 ≤ s.size ∧ s.size ≤ 40 ∧ 0 ≤ i ∧ i ≤ 4611686018427387903
instance (s : ByteArray) (i : Int) : Decidable (Named s i) := by unfold Named; infer_instance
theorem isNamed_any (s : ByteArray) (i : Int) (w : World) :
    Calls Tryd.prog 30 #[.string s, .int .i64 i] w fun e w' => e = .returned (.bool (decide (Named s i))) ∧ w = w' := by
  by_cases h0 : s = ⟨#[]⟩
  · have hn : Hid (decide (Named s i) = false) := Lib.hid (decide_eq_false (fun h => by have := h.1; rw [h0] at this; simp [ByteArray.size] at this))
    subst h0
    go_enter Tryd.func30, Tryd.ntmps30
    go_wp2
    go_ret
    exact ⟨by rw [hn.out]; rfl, rfl⟩
  · have he : s.toList.isEmpty = false := by rw [← decide_eq_emptyBytes]; exact decide_eq_false (fun h => h0 h)
    have h1 : 1 ≤ s.size := by
      rcases Nat.eq_zero_or_pos s.size with h | h
      · exact absurd (by cases s with | mk d => simp [ByteArray.size] at h; simp [h]) h0
      · exact h
    by_cases h2 : (s.size : Int) ≤ 40
    · by_cases h3 : 0 ≤ i
      · by_cases h4 : i ≤ 4611686018427387903
        · have hn : Hid (decide (Named s i) = true) := Lib.hid (decide_eq_true ⟨h1, by omega, h3, h4⟩)
          go_enter Tryd.func30, Tryd.ntmps30
          go_wp2
          go_ret
          exact ⟨by rw [hn.out]; rfl, rfl⟩
        · have hn : Hid (decide (Named s i) = false) := Lib.hid (decide_eq_false (fun h => h4 h.2.2.2))
          go_enter Tryd.func30, Tryd.ntmps30
          go_wp2
          go_ret
          exact ⟨by rw [hn.out]; rfl, rfl⟩
      · have hn : Hid (decide (Named s i) = false) := Lib.hid (decide_eq_false (fun h => h3 h.2.2.1))
        go_enter Tryd.func30, Tryd.ntmps30
        go_wp2
        go_ret
        exact ⟨by rw [hn.out]; rfl, rfl⟩
    · have hn : Hid (decide (Named s i) = false) := Lib.hid (decide_eq_false (fun h => h2 (by have := h.2.1; omega)))
      go_enter Tryd.func30, Tryd.ntmps30
      go_wp2
      go_ret
      exact ⟨by rw [hn.out]; rfl, rfl⟩
/-- What Reduce accepts. -/
def Takes (raw below : Int) : Prop := (1 ≤ below ∧ below ≤ 4611686018427387903) ∧ 0 ≤ raw ∧ raw < 4611686018427387904 - 4611686018427387904 % below
instance (raw below : Int) : Decidable (Takes raw below) := by unfold Takes; infer_instance
def reduceF (raw below : Int) : Int := if Takes raw below then raw % below else 0
def reduceB (raw below : Int) : Bool := decide (Takes raw below)
theorem reduce_any (raw below : Int) (w : World) :
    Calls Tryd.prog 15 #[.int .i64 raw, .int .i64 below] w fun e w' => e = .returned (.tuple #[.int .i64 (reduceF raw below), .bool (reduceB raw below)]) ∧ w = w' := by
  by_cases h1 : 1 ≤ below ∧ below ≤ 4611686018427387903
  · obtain ⟨h1, h2⟩ := h1
    by_cases h3 : 0 ≤ raw
    · have hb0 : ¬ below = 0 := by omega
      have hm0 := Int.emod_nonneg 4611686018427387904 hb0
      have hm1 := Int.emod_lt_of_pos 4611686018427387904 (show 0 < below by omega)
      have t1 : (4611686018427387904 : Int).tmod below = 4611686018427387904 % below := Int.tmod_eq_emod_of_nonneg (by decide)
      have t2 : raw.tmod below = raw % below := Int.tmod_eq_emod_of_nonneg h3
      obtain ⟨m, hm⟩ : ∃ m, 4611686018427387904 % below = m := ⟨_, rfl⟩
      rw [hm] at t1 hm0 hm1
      obtain ⟨q, hq⟩ : ∃ q, raw % below = q := ⟨_, rfl⟩
      rw [hq] at t2
      have g1 : IntKind.i64.wrap (4611686018427387904 - m) = 4611686018427387904 - m := IntWalk.i64_in _ (by omega)
      have n1 : ¬ below < 1 := by omega
      have n2 : ¬ (4611686018427387903 : Int) < below := by omega
      have n3 : ¬ raw < 0 := by omega
      by_cases h4 : raw < 4611686018427387904 - m
      · have n4 : ¬ (4611686018427387904 - m ≤ raw) := by omega
        have HT : Hid (Takes raw below) := Lib.hid ⟨⟨h1, h2⟩, h3, by rw [hm]; exact h4⟩
        have HQ := Lib.hid hq
        clear hm hq
        go_enter Tryd.func15, Tryd.ntmps15
        go_wp2
        go_ret2
        exact ⟨by rw [show reduceF raw below = q from (if_pos HT.out).trans HQ.out, show reduceB raw below = true from decide_eq_true HT.out]; rfl, rfl⟩
      · have n4 : 4611686018427387904 - m ≤ raw := by omega
        have HT : Hid (¬ Takes raw below) := Lib.hid (fun h => by have := h.2.2; rw [hm] at this; exact h4 this)
        clear hm hq
        go_enter Tryd.func15, Tryd.ntmps15
        go_wp2
        go_ret2
        exact ⟨by rw [show reduceF raw below = 0 from if_neg HT.out, show reduceB raw below = false from decide_eq_false HT.out]; rfl, rfl⟩
    · have HT : Hid (¬ Takes raw below) := Lib.hid (fun h => h3 h.2.1)
      have n1 : ¬ below < 1 := by omega
      have n2 : ¬ (4611686018427387903 : Int) < below := by omega
      have n3 : raw < 0 := by omega
      go_enter Tryd.func15, Tryd.ntmps15
      go_wp2
      go_ret2
      exact ⟨by rw [show reduceF raw below = 0 from if_neg HT.out, show reduceB raw below = false from decide_eq_false HT.out]; rfl, rfl⟩
  · have HT : Hid (¬ Takes raw below) := Lib.hid (fun h => h1 h.1)
    by_cases n1 : below < 1
    · clear h1
      go_enter Tryd.func15, Tryd.ntmps15
      go_wp2
      go_ret2
      exact ⟨by rw [show reduceF raw below = 0 from if_neg HT.out, show reduceB raw below = false from decide_eq_false HT.out]; rfl, rfl⟩
    · have n2 : (4611686018427387903 : Int) < below := by omega
      clear h1
      go_enter Tryd.func15, Tryd.ntmps15
      go_wp2
      go_ret2
      exact ⟨by rw [show reduceF raw below = 0 from if_neg HT.out, show reduceB raw below = false from decide_eq_false HT.out]; rfl, rfl⟩
end Go.Proofs.YtfdmmobadmmhdaaDoor
