/- pick and NumberFrom return their numbers. Condition: the arguments are numbers of 64 bits. -/
import Derived.Test.YteokkedaipbhlaaDoorProg
import Derived.WalkKit
import Derived.IntWalk
import Derived.Lib.Hide
namespace Go.Proofs.YteokkedaipbhlaaDoor
open Go Go.RowKit
def pickI (c n : Int) : Int := (if c < 0 then -(c + 1) else c) % n
theorem pickI_bd (c n : Int) (hn : 0 < n) : 0 ≤ pickI c n ∧ pickI c n < n := by
  unfold pickI; exact ⟨Int.emod_nonneg _ (by omega), Int.emod_lt_of_pos _ hn⟩
set_option maxHeartbeats 400000 in
theorem pick_any (c n : Int) (w : World) (hc : -9223372036854775808 ≤ c) (hc2 : c ≤ 9223372036854775807) (hn : 0 < n) (hn2 : n ≤ 9223372036854775807) :
    Calls Tryd.prog 14 #[.int .i64 c, .int .i64 n] w fun e w' => e = .returned (.int .i64 (pickI c n)) ∧ w = w' := by
  by_cases h : c < 0
  · have hp : -((c + 1).tmod n) = pickI c n := by
      unfold pickI; rw [if_pos h, ← Int.neg_tmod, Int.tmod_eq_emod_of_nonneg (by omega)]
    have HP := Lib.hid hp
    clear hp
    go_enter Tryd.func14, Tryd.ntmps14
    go_wp2
    go_ret
    exact ⟨by rw [← HP.out]; rfl, rfl⟩
  · have hp : c % n = pickI c n := by unfold pickI; rw [if_neg h]
    have HP := Lib.hid hp
    clear hp
    go_enter Tryd.func14, Tryd.ntmps14
    go_wp2
    go_ret
    exact ⟨by rw [← HP.out]; rfl, rfl⟩
def numTab (i : Int) : Int := [64, 128, 8192, 16384, 1073741824, 36028797018963968, 576460752303423488, 2].getD i.toNat 2
def numF (c : Int) : Int := if 8 ≤ pickI c 16 then -(pickI (pickI c 4611686018427387904 / 8) (numTab (pickI c 8))) else pickI (pickI c 4611686018427387904 / 8) (numTab (pickI c 8))
theorem numTab_bd (i : Int) : 0 < numTab i ∧ numTab i ≤ 576460752303423488 := by
  unfold numTab
  by_cases h : i.toNat < 8
  · exact (by decide : ∀ j : Fin 8, 0 < [64, 128, 8192, 16384, 1073741824, 36028797018963968, 576460752303423488, (2 : Int)].getD j.val 2 ∧ [64, 128, 8192, 16384, 1073741824, 36028797018963968, 576460752303423488, (2 : Int)].getD j.val 2 ≤ 576460752303423488) ⟨_, h⟩
  · rw [List.getD_eq_getElem?_getD, List.getElem?_eq_none (by simp; omega)]; decide
theorem numF_bd (c : Int) : -576460752303423488 < numF c ∧ numF c < 576460752303423488 := by
  have h1 := pickI_bd (pickI c 4611686018427387904 / 8) (numTab (pickI c 8)) (numTab_bd _).1
  have h2 := numTab_bd (pickI c 8)
  unfold numF; split <;> omega
set_option maxRecDepth 100000 in
set_option maxHeartbeats 1000000 in
theorem numberFrom_any (c : Int) (w : World) (hc : -9223372036854775808 ≤ c) (hc2 : c ≤ 9223372036854775807) :
    Calls Tryd.prog 11 #[.int .i64 c] w fun e w' => e = .returned (.int .i64 (numF c)) ∧ Below w.heap.size w w' := by
  have h1 := pickI_bd c 4611686018427387904 (by decide)
  have h2 := pickI_bd c 8 (by decide)
  have h3 := pickI_bd c 16 (by decide)
  have h4 := numTab_bd (pickI c 8)
  have h5 := pickI_bd (pickI c 4611686018427387904 / 8) (numTab (pickI c 8)) h4.1
  obtain ⟨N, hN⟩ : ∃ N, numF c = N := ⟨_, rfl⟩
  rw [hN]
  unfold numF at hN
  have p1 := fun W => pick_any c 4611686018427387904 W hc hc2 (by decide) (by decide)
  have p2 := fun W => pick_any c 8 W hc hc2 (by decide) (by decide)
  have p3 := fun W => pick_any c 16 W hc hc2 (by decide) (by decide)
  obtain ⟨i, hi⟩ : ∃ i, pickI c 8 = i := ⟨_, rfl⟩
  obtain ⟨q, hq⟩ : ∃ q, pickI c 4611686018427387904 = q := ⟨_, rfl⟩
  obtain ⟨s, hs⟩ : ∃ s, pickI c 16 = s := ⟨_, rfl⟩
  rw [hi] at h2 h4 h5 hN p2
  rw [hq] at h1 h5 hN p1
  rw [hs] at h3 hN p3
  have p4 := fun W => pick_any (q / 8) (numTab i) W (by omega) (by omega) (by omega) (by omega)
  obtain ⟨m, hm⟩ : ∃ m, pickI (q / 8) (numTab i) = m := ⟨_, rfl⟩
  rw [hm] at h5 hN p4
  have P1 := Lib.hid p1
  have P2 := Lib.hid p2
  have P3 := Lib.hid p3
  clear hi hq hs hm p1 p2 p3
  have hcases : i = 0 ∨ i = 1 ∨ i = 2 ∨ i = 3 ∨ i = 4 ∨ i = 5 ∨ i = 6 ∨ i = 7 := by omega
  rcases hcases with rfl | rfl | rfl | rfl | rfl | rfl | rfl | rfl
  case' inl => have e : numTab 0 = 64 := by decide
  case' inr.inl => have e : numTab 1 = 128 := by decide
  case' inr.inr.inl => have e : numTab 2 = 8192 := by decide
  case' inr.inr.inr.inl => have e : numTab 3 = 16384 := by decide
  case' inr.inr.inr.inr.inl => have e : numTab 4 = 1073741824 := by decide
  case' inr.inr.inr.inr.inr.inl => have e : numTab 5 = 36028797018963968 := by decide
  case' inr.inr.inr.inr.inr.inr.inl => have e : numTab 6 = 576460752303423488 := by decide
  case' inr.inr.inr.inr.inr.inr.inr => have e : numTab 7 = 2 := by decide
  all_goals
    rw [e] at p4 h4 h5
    have P4 := Lib.hid p4
    clear e p4 h4
    have HN := Lib.hid hN
    clear hN
    go_enter Tryd.func11, Tryd.ntmps11
    go_wp2_with fail
    refine (P1.out _).mono ?_
    rintro e w' ⟨rfl, rfl⟩
    go_wp2_with fail
    refine (P2.out _).mono ?_
    rintro e w' ⟨rfl, rfl⟩
    go_wp2_with fail
    refine (P4.out _).mono ?_
    rintro e w' ⟨rfl, rfl⟩
    go_wp2_with fail
    refine (P3.out _).mono ?_
    rintro e w' ⟨rfl, rfl⟩
    by_cases h8 : 8 ≤ s
    · have hn := HN.out
      rw [if_pos h8] at hn
      have HNN := Lib.hid hn
      clear hn
      go_wp2
      go_ret
      exact ⟨by rw [← HNN.out]; rfl, (Below.refl _ _).alloc (Nat.le_refl _) _⟩
    · have hn := HN.out
      rw [if_neg h8] at hn
      have HNN := Lib.hid hn
      clear hn
      go_wp2
      go_ret
      exact ⟨by rw [← HNN.out]; rfl, (Below.refl _ _).alloc (Nat.le_refl _) _⟩
end Go.Proofs.YteokkedaipbhlaaDoor
