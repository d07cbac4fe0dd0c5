/- The reference of chapter 36: Divide on what it refuses. Conditions: slices that can be read; numbers of 64 bits. -/
import Derived.Test.YtdodhfodojjfeaaRefQuota
namespace Go.Proofs.Ytdodhfodojjfeaa
open Go Go.RowKit Go.Shelf
theorem ref_divide_bad (c turn : Int) (p : Option Addr) (n cp : Nat) (f : Nat → Int) (w : World) (hn : n ≤ maxLen) (hr : ReadsI w p n f) (h : ¬ ((0 ≤ c ∧ c ≤ 1000000) ∧ demandsB n f ∧ 0 ≤ turn ∧ turn < n)) :
    Calls Try.prog 19 #[.int .i64 c, .slice p n cp, .int .i64 turn] w fun e w' => e = .returned (.tuple #[.slice none 0 0, .int .i64 360]) ∧ w = w' := by
  have HA := Lib.hid (ref_units_any p n cp f w hn hr)
  have HH := Lib.hid h
  clear hr h
  unfold maxLen at hn
  by_cases h1 : 0 ≤ c
  · by_cases h2 : c ≤ 1000000
    · go_enter Try.func19, Try.ntmps19
      go_wp2_with fail
      refine HA.out.mono ?_
      rintro e w1 ⟨⟨r, rfl, hr3⟩, rfl⟩
      have HR3 := Lib.hid hr3
      clear hr3
      cases r with
      | false =>
        go_wp2_with fail
        refine bodyPost_ret (v := .tuple #[.slice none 0 0, .int .i64 360]) (by simp [results, Try.results19, go_sem]) rfl ?_
        exact ⟨rfl, rfl⟩
      | true =>
        by_cases h3 : 0 ≤ turn
        · have h4 : ¬ (turn < n) := fun h => HH.out ⟨⟨h1, h2⟩, HR3.out.1 rfl, h3, h⟩
          go_wp2_with fail
          refine bodyPost_ret (v := .tuple #[.slice none 0 0, .int .i64 360]) (by simp [results, Try.results19, go_sem]) rfl ?_
          exact ⟨rfl, rfl⟩
        · go_wp2_with fail
          refine bodyPost_ret (v := .tuple #[.slice none 0 0, .int .i64 360]) (by simp [results, Try.results19, go_sem]) rfl ?_
          exact ⟨rfl, rfl⟩
    · go_enter Try.func19, Try.ntmps19
      go_wp2_with fail
      refine bodyPost_ret (v := .tuple #[.slice none 0 0, .int .i64 360]) (by simp [results, Try.results19, go_sem]) rfl ?_
      exact ⟨rfl, rfl⟩
  · go_enter Try.func19, Try.ntmps19
    go_wp2_with fail
    refine bodyPost_ret (v := .tuple #[.slice none 0 0, .int .i64 360]) (by simp [results, Try.results19, go_sem]) rfl ?_
    exact ⟨rfl, rfl⟩
end Go.Proofs.Ytdodhfodojjfeaa
