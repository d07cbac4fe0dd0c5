/- The reference of chapter 27: SamePostings, Same say yes of what is the same. Conditions: slices of at most 1000 postings that can be read. -/
import Derived.Test.YtcfplkbbgjiocaaRefClose
namespace Go.Proofs.Ytcfplkbbgjiocaa
open Go Go.RowKit Go.Shelf
set_option maxHeartbeats 2000000 in
theorem sameP_yes (p q : Option Addr) (n c d : Nat) (f g : Nat → Pst) (w : World) (hn : n ≤ 1000) (hp : ReadsP w p n f) (hq : ReadsP w q n g) (h : ∀ i, i < n → f i = g i) :
    Calls Try.prog 26 #[.slice p n c, .slice q n d] w fun e w' => e = .returned (.bool true) ∧ Below w.heap.size w w' := by
  have HP := Lib.hid hp
  have HQ := Lib.hid hq
  have HE := Lib.hid h
  clear hp hq h
  go_enter Try.func26, Try.ntmps26
  go_wp2_with fail
  go_loopw [5] (fun i wr => ∃ k : Nat, k ≤ n ∧ i = .int .i64 k ∧ Below w.heap.size w wr) (fun i _ => n - (intOf i).toNat)
  case atStart => exact ⟨0, by omega, rfl, Below.refl _ _⟩
  case round =>
    obtain ⟨k, hk, rfl, hB⟩ := hrel
    by_cases hlt : k < n
    · obtain ⟨b, o, rfl, hc⟩ := HP.out.below hB k hlt
      obtain ⟨b', o', rfl, hc'⟩ := HQ.out.below hB k hlt
      obtain ⟨p0, p1, p2, p3, p4, p5, p6⟩ := pcells_of (hc k hlt)
      have hc2 := hc' k hlt
      rw [← HE.out k hlt] at hc2
      obtain ⟨q0, q1, q2, q3, q4, q5, q6⟩ := pcells_of hc2
      have v0 : (0 : Int) ≤ (k : Int) := by omega
      have v1 : (k : Int) < (n : Int) := by omega
      clear hc hc' hc2
      go_wp2_with fail
      go_quiet (fail)
      go_wp2_with fail
      exact ⟨⟨k + 1, by omega, by go_num, Below_drewN' hB _⟩, by simp [intOf]; omega⟩
    · obtain rfl : n = k := by omega
      go_wp2_with fail
      go_ret
      exact ⟨rfl, hB⟩
set_option maxHeartbeats 2000000 in
theorem same_yes (teams closed : Int) (p q : Option Addr) (n c d : Nat) (f g : Nat → Pst) (w : World) (hn : n ≤ 1000) (hp : ReadsP w p n f) (hq : ReadsP w q n g) (h : ∀ i, i < n → f i = g i) :
    Calls Try.prog 13 #[.agg #[.int .i64 teams, .slice p n c, .int .i64 closed], .agg #[.int .i64 teams, .slice q n d, .int .i64 closed]] w fun e w' => e = .returned (.bool true) ∧ Below w.heap.size w w' := by
  have hB := ((Below.refl w.heap.size w).alloc (Nat.le_refl _) (.cells #[.int .i64 teams, .slice p n c, .int .i64 closed] 24)).alloc (by simp) (.cells #[.int .i64 teams, .slice q n d, .int .i64 closed] 24)
  have HC := Lib.hid (sameP_yes p q n c d f g _ hn (hp.below hB) (hq.below hB) h)
  clear hp hq h
  go_enter Try.func13, Try.ntmps13
  go_wp2_with fail
  refine HC.out.mono ?_
  rintro e w1 ⟨rfl, hb⟩
  go_wp2_with fail
  go_ret
  exact ⟨rfl, hB.trans (hb.mono hB.size)⟩
end Go.Proofs.Ytcfplkbbgjiocaa
