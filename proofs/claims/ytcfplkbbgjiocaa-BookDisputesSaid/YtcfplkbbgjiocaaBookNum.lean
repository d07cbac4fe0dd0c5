/- Chapter 27: pick of the laws and of the reference; Ints says yes of what is the same. Conditions: numbers of 64 bits. -/
import Derived.Test.YtcfplkbbgjiocaaBookAdd
namespace Go.Proofs.Ytcfplkbbgjiocaa
open Go Go.RowKit Go.Shelf
def pickN (c : Int) (n : Nat) : Nat := ((if c < 0 then -(c + 1) else c) % (n : Int)).toNat
theorem pickN_lt (c : Int) {n : Nat} (hn : 0 < n) : pickN c n < n := by
  unfold pickN
  have h1 := Int.emod_nonneg (if c < 0 then -(c + 1) else c) (show (n : Int) ≠ 0 by omega)
  have h2 := Int.emod_lt_of_pos (if c < 0 then -(c + 1) else c) (show 0 < (n : Int) by omega)
  omega
theorem pickN_int (c : Int) {n : Nat} (hn : 0 < n) : ((pickN c n : Nat) : Int) = (if c < 0 then -(c + 1) else c) % (n : Int) := by
  unfold pickN
  have h1 := Int.emod_nonneg (if c < 0 then -(c + 1) else c) (show (n : Int) ≠ 0 by omega)
  omega
set_option maxHeartbeats 400000 in
theorem pick_any (c m : Int) (n : Nat) (w : World) (hm : (n : Int) = m) (hc : -9223372036854775808 ≤ c) (hc2 : c ≤ 9223372036854775807) (hn : 0 < n) (hn2 : n ≤ 9223372036854775807) :
    Calls Try.prog 14 #[.int .i64 c, .int .i64 m] w fun e w' => e = .returned (.int .i64 (pickN c n : Nat)) ∧ w = w' := by
  subst hm
  by_cases h : c < 0
  · have hp : -((c + 1).tmod n) = ((pickN c n : Nat) : Int) := by
      rw [pickN_int c hn, if_pos h, ← Int.neg_tmod, Int.tmod_eq_emod_of_nonneg (by omega)]
    have HP := Lib.hid hp
    clear hp
    go_enter Try.func14, Try.ntmps14
    go_wp2
    go_ret
    exact ⟨by rw [← HP.out]; rfl, rfl⟩
  · have hp : c % n = ((pickN c n : Nat) : Int) := by rw [pickN_int c hn, if_neg h]
    have HP := Lib.hid hp
    clear hp
    go_enter Try.func14, Try.ntmps14
    go_wp2
    go_ret
    exact ⟨by rw [← HP.out]; rfl, rfl⟩
set_option maxHeartbeats 400000 in
theorem ref_pick_any (c m : Int) (n : Nat) (w : World) (hm : (n : Int) = m) (hc : -9223372036854775808 ≤ c) (hc2 : c ≤ 9223372036854775807) (hn : 0 < n) (hn2 : n ≤ 9223372036854775807) :
    Calls Try.prog 27 #[.int .i64 c, .int .i64 m] w fun e w' => e = .returned (.int .i64 (pickN c n : Nat)) ∧ w = w' := by
  subst hm
  by_cases h : c < 0
  · have hp : -((c + 1).tmod n) = ((pickN c n : Nat) : Int) := by
      rw [pickN_int c hn, if_pos h, ← Int.neg_tmod, Int.tmod_eq_emod_of_nonneg (by omega)]
    have HP := Lib.hid hp
    clear hp
    go_enter Try.func27, Try.ntmps27
    go_wp2
    go_ret
    exact ⟨by rw [← HP.out]; rfl, rfl⟩
  · have hp : c % n = ((pickN c n : Nat) : Int) := by rw [pickN_int c hn, if_neg h]
    have HP := Lib.hid hp
    clear hp
    go_enter Try.func27, Try.ntmps27
    go_wp2
    go_ret
    exact ⟨by rw [← HP.out]; rfl, rfl⟩
theorem ints_yes (p q : Option Addr) (n m c d : Nat) (f g : Nat → Int) (w : World) (hn : n ≤ 1000) (hmn : n = m) (hp : ReadsI w p n f) (hq : ReadsI w q n g) (h : ∀ i, i < n → f i = g i) :
    Calls Try.prog 23 #[.slice p n c, .slice q m d] w fun e w' => e = .returned (.bool true) ∧ Below w.heap.size w w' := by
  subst hmn
  have HP := Lib.hid hp
  have HQ := Lib.hid hq
  have HH := Lib.hid h
  clear hp hq h
  go_enter Try.func23, Try.ntmps23
  go_wp2_with fail
  go_loopw [5] (fun i wr => ∃ k : Nat, k ≤ n ∧ i = .int .i64 k ∧ Below w.heap.size w wr) (fun i _ => n - (intOf i).toNat)
  case atStart => exact ⟨0, by omega, rfl, Below.refl _ _⟩
  case round =>
    obtain ⟨k, hk, rfl, hB⟩ := hrel
    by_cases hlt : k < n
    · obtain ⟨b, off, rfl, hc⟩ := HP.out.below hB k hlt
      obtain ⟨b', off', rfl, hc'⟩ := HQ.out.below hB k hlt
      have c1 := hc k hlt
      have c2 := hc' k hlt
      rw [← HH.out k hlt] at c2
      have k0 : (0 : Int) ≤ (k : Int) := by omega
      have k1 : (k : Int) < (n : Int) := by omega
      clear hc hc'
      go_wp2_with fail
      go_quiet (fail)
      go_wp2
      exact ⟨⟨k + 1, by omega, by go_num, Below_drewN' hB _⟩, by simp [intOf]; omega⟩
    · obtain rfl : k = n := by omega
      go_wp2
      go_ret
      exact ⟨rfl, hB⟩
end Go.Proofs.Ytcfplkbbgjiocaa
