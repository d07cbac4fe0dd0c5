/- The reference of chapter 27: SamePostings, Same say yes of what is the same. Conditions: slices of at most 1000 postings that can be read. -/
import Derived.Test.YtcfplkbbgjiocaaDoorRefClose
namespace Go.Proofs.YtcfplkbbgjiocaaDoor
open Go Go.RowKit Go.Shelf
set_option maxHeartbeats 2000000 in
theorem sameP_yes (p q : Option Addr) (n c d : Nat) (f g : Nat → Pst) (w : World) (hn : n ≤ 1000) (hp : ReadsP w p n f) (hq : ReadsP w q n g) (h : ∀ i, i < n → f i = g i) :
    Calls Tryd.prog 14 #[.slice p n c, .slice q n d] w fun e w' => e = .returned (.bool true) ∧ Below w.heap.size w w' := by
  have HP := Lib.hid hp
  have HQ := Lib.hid hq
  have HE := Lib.hid h
  clear hp hq h
  go_enter Tryd.func14, Tryd.ntmps14
  go_wp2_with fail
  go_loopw [5] (fun i wr => ∃ k : Nat, k ≤ n ∧ i = .int .i64 k ∧ Below w.heap.size w wr) (fun i _ => n - (intOf i).toNat)
  case atStart => exact ⟨0, by omega, rfl, Below.refl _ _⟩
  case round =>
    obtain ⟨k, hk, rfl, hB⟩ := hrel
    by_cases hlt : k < n
    · obtain ⟨b, o, rfl, hc⟩ := HP.out.below hB k hlt
      obtain ⟨b', o', rfl, hc'⟩ := HQ.out.below hB k hlt
      obtain ⟨p0, p1, p2, p3, p4, p5, p6⟩ := pcells_of (hc k hlt)
      have hc2 := hc' k hlt
      rw [← HE.out k hlt] at hc2
      obtain ⟨q0, q1, q2, q3, q4, q5, q6⟩ := pcells_of hc2
      have v0 : (0 : Int) ≤ (k : Int) := by omega
      have v1 : (k : Int) < (n : Int) := by omega
      clear hc hc' hc2
      go_wp2_with fail
      go_quiet (fail)
      go_wp2_with fail
      exact ⟨⟨k + 1, by omega, by go_num, Below_drewN' hB _⟩, by simp [intOf]; omega⟩
    · obtain rfl : n = k := by omega
      go_wp2_with fail
      go_ret
      exact ⟨rfl, hB⟩
end Go.Proofs.YtcfplkbbgjiocaaDoor
