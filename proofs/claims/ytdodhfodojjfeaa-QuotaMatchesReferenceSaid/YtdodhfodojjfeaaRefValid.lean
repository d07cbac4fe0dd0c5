/- The reference of chapter 36: Valid. Conditions: slices that can be read; numbers of 64 bits. -/
import Derived.Test.YtdodhfodojjfeaaRefQuota
import Derived.Test.YtdodhfodojjfeaaQuotaRound
namespace Go.Proofs.Ytdodhfodojjfeaa
open Go Go.RowKit Go.Shelf
set_option maxHeartbeats 2000000 in
theorem ref_valid_any (cap turn lim : Int) (p : Option Addr) (n c : Nat) (f : Nat → Int) (w : World) (hn : n ≤ maxLen) (hr : ReadsI w p n f) :
    Calls Try.prog 18 #[.agg #[.int .i64 cap, .int .i64 turn, .int .i64 lim, .slice p n c]] w fun e w' => Says e (QuotaOk cap turn lim n f) ∧ Below w.heap.size w w' := by
  have hB : Below w.heap.size w (w.alloc (.cells #[.int .i64 cap, .int .i64 turn, .int .i64 lim, .slice p n c] 35)) := (Below.refl w.heap.size w).alloc (Nat.le_refl _) _
  have HA := Lib.hid (ref_units_any p n c f (w.alloc (.cells #[.int .i64 cap, .int .i64 turn, .int .i64 lim, .slice p n c] 35)) hn (hr.below hB))
  have HR := Lib.hid hr
  clear hr
  unfold maxLen at hn
  by_cases h1 : 0 ≤ cap
  · by_cases h2 : cap ≤ 1000000
    · by_cases h3 : 0 ≤ lim
      · by_cases h4 : lim ≤ 1000000
        · go_enter Try.func18, Try.ntmps18
          go_wp2_with fail
          refine HA.out.mono ?_
          rintro e w1 ⟨⟨r, rfl, hr3⟩, rfl⟩
          have HR3 := Lib.hid hr3
          clear hr3
          cases r with
          | false =>
            go_wp2_with fail
            go_ret
            exact ⟨⟨_, rfl, by simp, fun h => absurd (HR3.out.2 h.2.2.1) (by simp)⟩, hB⟩
          | true =>
            have h5 := HR3.out.1 rfl
            have hn1 := h5.1
            have hn8 := h5.2.1
            have H5 := Lib.hid h5
            clear h5
            by_cases h6 : 0 ≤ turn
            · by_cases h7 : turn < n
              · have d1 : decide (cap < 0) = false := decide_eq_false (by omega)
                have d2 : decide (1000000 < cap) = false := decide_eq_false (by omega)
                have d3 : decide (lim < 0) = false := decide_eq_false (by omega)
                have d4 : decide (1000000 < lim) = false := decide_eq_false (by omega)
                have d5 : decide (turn < 0) = false := decide_eq_false (by omega)
                have d6 : decide ((n : Int) ≤ turn) = false := decide_eq_false (by omega)
                go_wp2_with fail
                obtain ⟨w1, hw1⟩ : ∃ w1, w.alloc (.cells #[.int .i64 cap, .int .i64 turn, .int .i64 lim, .slice p n c] 35) = w1 := ⟨_, rfl⟩
                have x2 : w1.cell? ⟨w.heap.size, 2, none⟩ = some (.int .i64 lim) := by rw [← hw1]; simp
                have x3 : w1.cell? ⟨w.heap.size, 3, none⟩ = some (.slice p n c) := by rw [← hw1]; simp
                rw [hw1] at hB ⊢
                have hsz : w.heap.size < w1.heap.size := by rw [← hw1]; simp
                clear hw1
                go_loopw [3] (fun z wv => ∃ k : Nat, k ≤ n ∧ z = .int .i64 k ∧ Hid (∀ j, j < k → f j ≤ lim) ∧ Below w1.heap.size w1 wv) (fun z _ => n - (intOf z).toNat)
                case atStart => exact ⟨0, by omega, rfl, Lib.hid (fun j hj => by omega), Below.refl _ _⟩
                case round =>
                  obtain ⟨k, hk, rfl, HF, hb⟩ := hrel
                  have hB2 := hB.trans (hb.mono hB.size)
                  have y2 := (hb.cell (p := ⟨w.heap.size, 2, none⟩) hsz).trans x2
                  have y3 := (hb.cell (p := ⟨w.heap.size, 3, none⟩) hsz).trans x3
                  by_cases hlt : k < n
                  · obtain ⟨b, off, rfl, hc⟩ := HR.out.below hB2 k hlt
                    have c1 := hc k hlt
                    have v0 : (0 : Int) ≤ (k : Int) := by omega
                    have v1 : (k : Int) < (n : Int) := by omega
                    clear hc
                    by_cases h8 : f k ≤ lim
                    · have e1 : decide (lim < f k) = false := decide_eq_false (by omega)
                      have H8 := Lib.hid h8
                      go_wp2_with fail
                      go_quiet (fail)
                      go_wp2_with fail
                      exact ⟨⟨k + 1, by omega, by go_num, Lib.hid (fun j hj => by
                        by_cases e : j = k
                        · subst e; exact H8.out
                        · exact HF.out j (by omega)), Below_drewN hb _⟩, by simp [intOf]; omega⟩
                    · have e1 : decide (lim < f k) = true := decide_eq_true (by omega)
                      go_wp2_with fail
                      go_quiet (fail)
                      go_wp2_with fail
                      go_ret
                      exact ⟨⟨_, rfl, by simp, fun h => by have := h.2.2.2.2.2 k hlt; omega⟩, Below_drewN hB2 _⟩
                  · obtain rfl : n = k := by omega
                    go_wp2_with fail
                    go_ret
                    exact ⟨⟨_, rfl, fun _ => ⟨⟨h1, h2⟩, ⟨h3, h4⟩, H5.out, h6, h7, HF.out⟩, fun _ => rfl⟩, hB2⟩
              · go_wp2_with fail
                go_ret
                exact ⟨⟨_, rfl, by simp, fun h => by have := h.2.2.2.2.1; omega⟩, hB⟩
            · go_wp2_with fail
              go_ret
              exact ⟨⟨_, rfl, by simp, fun h => by have := h.2.2.2.1; omega⟩, hB⟩
        · go_enter Try.func18, Try.ntmps18
          go_wp2_with fail
          go_ret
          exact ⟨⟨_, rfl, by simp, fun h => by have := h.2.1; omega⟩, hB⟩
      · go_enter Try.func18, Try.ntmps18
        go_wp2_with fail
        go_ret
        exact ⟨⟨_, rfl, by simp, fun h => by have := h.2.1; omega⟩, hB⟩
    · go_enter Try.func18, Try.ntmps18
      go_wp2_with fail
      go_ret
      exact ⟨⟨_, rfl, by simp, fun h => by have := h.1; omega⟩, hB⟩
  · go_enter Try.func18, Try.ntmps18
    go_wp2_with fail
    go_ret
    exact ⟨⟨_, rfl, by simp, fun h => by have := h.1; omega⟩, hB⟩
end Go.Proofs.Ytdodhfodojjfeaa
