/- The law of chapter 6: SeedFair returns true. Conditions: integers in range; the table holds its words. -/
import Derived.Test.YtfdmmobadmmhdaaDoorLaw06Sane
namespace Go.Proofs.YtfdmmobadmmhdaaDoor
open Go Go.RowKit
def lim (b : Int) : Int := 4611686018427387904 / b * b
theorem lim_facts (b : Int) (h1 : 1 ≤ b) (h2 : b ≤ 4611686018427387903) : lim b = 4611686018427387904 - 4611686018427387904 % b ∧ lim b % b = 0 ∧ 2305843009213693952 < lim b ∧ lim b ≤ 4611686018427387904 ∧ 4611686018427387904 - lim b < b := by
  have hb : 0 < b := by omega
  have hd : b * (4611686018427387904 / b) + 4611686018427387904 % b = 4611686018427387904 := Int.mul_ediv_add_emod 4611686018427387904 b
  have hm0 := Int.emod_nonneg 4611686018427387904 (show b ≠ 0 by omega)
  have hm1 := Int.emod_lt_of_pos 4611686018427387904 hb
  have hl : lim b = 4611686018427387904 - 4611686018427387904 % b := by
    unfold lim
    rw [Int.mul_comm]
    omega
  refine ⟨hl, ?_, ?_, by omega, by omega⟩
  · unfold lim
    exact Int.mul_emod_left _ _
  · rw [hl]
    by_cases h3 : b ≤ 2305843009213693952
    · omega
    · have hq : 4611686018427387904 / b = 1 := by
        have q1 : 1 ≤ 4611686018427387904 / b := (Int.le_ediv_iff_mul_le hb).2 (by omega)
        have q2 : 4611686018427387904 / b < 2 := (Int.ediv_lt_iff_lt_mul hb).2 (by omega)
        omega
      rw [hq] at hd
      omega
theorem red_fair (r b : Int) (h1 : 1 ≤ b) (h2 : b ≤ 4611686018427387903) (hr : 0 ≤ r) : reduceB r b = decide (r < lim b) ∧ (r < lim b → reduceF r b = r % b) ∧ (¬ r < lim b → reduceF r b = 0) := by
  obtain ⟨hl, _⟩ := lim_facts b h1 h2
  have ht : Takes r b ↔ r < lim b := by
    rw [hl]
    exact ⟨fun h => h.2.2, fun h => ⟨⟨h1, h2⟩, hr, h⟩⟩
  refine ⟨?_, fun h => if_pos (ht.2 h), fun h => if_neg (fun x => h (ht.1 x))⟩
  unfold reduceB
  exact decide_eq_decide.2 ht
theorem red_zero (r b : Int) : (r - r % b) % b = 0 := by
  rw [Int.sub_emod, Int.emod_emod_of_dvd r (Int.dvd_refl b), Int.sub_self]
  rfl
theorem red_tmod (r b : Int) (h0 : 0 ≤ r) (hb : 0 < b) : Int.tmod (r - r % b) b = 0 := by
  have h1 := Int.mul_ediv_add_emod r b
  have h2 : 0 ≤ b * (r / b) := Int.mul_nonneg (by omega) (Int.ediv_nonneg h0 (by omega))
  rw [Int.tmod_eq_emod_of_nonneg (by omega)]
  exact red_zero r b
set_option maxHeartbeats 4000000 in
set_option maxRecDepth 100000 in
theorem fair_any (bound a b : Int) (w : World) (r0 : -9223372036854775808 ≤ bound ∧ bound ≤ 9223372036854775807) (r1 : -9223372036854775808 ≤ a ∧ a ≤ 9223372036854775807) (r2 : -9223372036854775808 ≤ b ∧ b ≤ 9223372036854775807) (hT : RoundOk w) :
    Calls Tryd.prog 5 #[.int .i64 bound, .int .i64 a, .int .i64 b] w fun e w' => e = .returned (.bool true) ∧ Below w.heap.size w w' := by
  have hp0 := pickF_range bound 4611686018427387903 (by decide)
  have P0 := Lib.hid (fun W => pick_any bound 4611686018427387903 W r0 (by decide) (by decide))
  obtain ⟨p0, hp0e⟩ : ∃ p, pickF bound 4611686018427387903 = p := ⟨_, rfl⟩
  rw [hp0e] at hp0 P0
  obtain ⟨B, hB⟩ : ∃ B, 1 + p0 = B := ⟨_, rfl⟩
  have hB1 : 1 ≤ B := by omega
  have hB2 : B ≤ 4611686018427387903 := by omega
  have hlf := lim_facts B hB1 hB2
  have P1 := Lib.hid (fun W => pick_any a 4611686018427387904 W r1 (by decide) (by decide))
  have P2 := Lib.hid (fun W => pick_any b 3 W r2 (by decide) (by decide))
  have P3 := Lib.hid (fun W => pick_any b B W r2 (by omega) (by omega))
  have q1 := pickF_range a 4611686018427387904 (by decide)
  have q2 := pickF_range b 3 (by decide)
  have q3 := pickF_range b B (by omega)
  have HF : Hid (∀ r, 0 ≤ r → ∀ W, Calls Tryd.prog 15 #[.int .i64 r, .int .i64 B] W fun e w' => (∃ n ok, e = .returned (.tuple #[.int .i64 n, .bool ok]) ∧ ok = decide (r < lim B) ∧ (r < lim B → n = r % B) ∧ (¬ r < lim B → n = 0)) ∧ W = w') := Lib.hid (fun r hr W => (reduce_any r B W).mono fun e w' h => by
    obtain ⟨h1, h2, h3⟩ := red_fair r B hB1 hB2 hr
    exact ⟨⟨_, _, h.1, h1, h2, h3⟩, h.2⟩)
  obtain ⟨p1, hp1⟩ : ∃ p, pickF a 4611686018427387904 = p := ⟨_, rfl⟩
  obtain ⟨p2, hp2⟩ : ∃ p, pickF b 3 = p := ⟨_, rfl⟩
  obtain ⟨p3, hp3⟩ : ∃ p, pickF b B = p := ⟨_, rfl⟩
  rw [hp1] at P1 q1
  rw [hp2] at P2 q2
  rw [hp3] at P3 q3
  have t1 : Int.tdiv 4611686018427387904 B = 4611686018427387904 / B := Int.tdiv_eq_ediv_of_nonneg (by decide)
  have hq0 : 0 ≤ 4611686018427387904 / B := Int.ediv_nonneg (by decide) (by omega)
  have hq1 : 4611686018427387904 / B ≤ 4611686018427387904 := Int.ediv_le_self _ (by decide)
  have hlm : 4611686018427387904 / B * B = lim B := rfl
  obtain ⟨Q, hQ⟩ : ∃ Q, 4611686018427387904 / B = Q := ⟨_, rfl⟩
  rw [hQ] at t1 hq0 hq1 hlm
  obtain ⟨L, hL⟩ : ∃ L, lim B = L := ⟨_, rfl⟩
  rw [hL] at hlm hlf HF
  obtain ⟨hl0, hl1, hl2, hl3, hl4⟩ := hlf
  clear hl0
  have g0 : IntKind.i64.wrap (1 + p0) = B := by rw [hB]; exact IntWalk.i64_in _ (by omega)
  have g1 : IntKind.i64.wrap Q = Q := IntWalk.i64_in _ (by omega)
  have g2 : IntKind.i64.wrap (Q * B) = L := by rw [hlm]; exact IntWalk.i64_in _ (by omega)
  have hB0 : B ≠ 0 := by omega
  have HT := Lib.hid hT
  have HQ2 := Lib.hid q2
  have HQ3 := Lib.hid q3
  have HQ1 := Lib.hid q1
  clear hT hp0e hp1 hp2 hp3 r0 r1 r2 hQ hL hlm q1 q2 q3
  go_enter Tryd.func5, Tryd.ntmps5
  go_wp2_with fail
  refine (sane_any _ HT.out).mono ?_
  rintro e w1 ⟨rfl, hb1⟩
  go_wp2_with fail
  refine (P0.out _).mono ?_
  rintro e w' ⟨rfl, rfl⟩
  go_wp2_with fail
  refine (P1.out _).mono ?_
  rintro e w' ⟨rfl, rfl⟩
  go_wp2_with fail
  refine (P2.out _).mono ?_
  rintro e w' ⟨rfl, rfl⟩
  have q1 := HQ1.out
  have q2 := HQ2.out
  have q3 := HQ3.out
  by_cases hmn : L + p3 ≤ 4611686018427387903
  · go_wp2_with fail
    refine (P3.out _).mono ?_
    rintro e w' ⟨rfl, rfl⟩
    go_wp2_with fail
    have HBA := Lib.hid (hb1.alloc hb1.size (.cells #[.int .i64 p1, .int .i64 (L - 1 - p2), .int .i64 L, .int .i64 (L + p3)] 3))
    have HCL : Hid (∀ k : Nat, k < 4 → ∃ r : Int, 0 ≤ r ∧ r < 4611686018427387905 ∧ (w1.alloc (.cells #[.int .i64 p1, .int .i64 (L - 1 - p2), .int .i64 L, .int .i64 (L + p3)] 3)).cell? ⟨w1.heap.size, k, none⟩ = some (.int .i64 r)) := Lib.hid (fun k hk => by
      rcases (show k = 0 ∨ k = 1 ∨ k = 2 ∨ k = 3 by omega) with rfl | rfl | rfl | rfl
      · exact ⟨p1, by omega, by omega, by simp⟩
      · exact ⟨L - 1 - p2, by omega, by omega, by simp⟩
      · exact ⟨L, by omega, by omega, by simp⟩
      · exact ⟨(L + p3), by omega, by omega, by simp⟩)
    obtain ⟨w2, hw2⟩ : ∃ w2, w1.alloc (.cells #[.int .i64 p1, .int .i64 (L - 1 - p2), .int .i64 L, .int .i64 (L + p3)] 3) = w2 := ⟨_, rfl⟩
    rw [hw2] at HBA HCL ⊢
    obtain ⟨G, hG⟩ : ∃ G, w1.heap.size = G := ⟨_, rfl⟩
    rw [hG] at HCL ⊢
    clear hw2 hG hb1 q1 q2 q3
    go_loopw [38] (fun v wr => ∃ k : Nat, k ≤ 4 ∧ v = .int .i64 (k : Nat) ∧ wr = w2) (fun v _ => 4 - (intZ v).toNat)
    case atStart => exact ⟨0, by omega, rfl, rfl⟩
    case round =>
      obtain ⟨k, hk, rfl, rfl⟩ := hrel
      by_cases hlt : k < 4
      · obtain ⟨r, hr0, hr1, hc⟩ := HCL.out k hlt
        have v1 : (0 : Int) ≤ (k : Int) := by omega
        have v2 : (k : Int) < 4 := by omega
        have hr2 : ¬ r < 0 := by omega
        go_wp2_with fail
        refine (HF.out r hr0 _).mono ?_
        rintro e w' ⟨⟨m, ok, rfl, hok, hy, hn⟩, rfl⟩
        by_cases hrl : r < L
        · obtain rfl : ok = true := by rw [hok]; exact decide_eq_true hrl
          have hm := hy hrl
          clear hy hn hok
          have e1 : 0 ≤ m := by rw [hm]; exact Int.emod_nonneg _ hB0
          have e2 : m < B := by rw [hm]; exact Int.emod_lt_of_pos _ (by omega)
          have e3 : Int.tmod (r - m) B = 0 := by rw [hm]; exact red_tmod r B hr0 (by omega)
          have e4 : IntKind.i64.wrap (r - m) = r - m := IntWalk.i64_in _ (by omega)
          have e5 : r < 4611686018427387904 := by omega
          clear hm
          go_wp2
          all_goals exact ⟨⟨k + 1, by omega, by go_num, trivial⟩, by simp [intZ]; omega⟩
        · obtain rfl : ok = false := by rw [hok]; exact decide_eq_false hrl
          obtain rfl := hn (by omega)
          clear hy hn hok
          go_wp2
          all_goals exact ⟨⟨k + 1, by omega, by go_num, trivial⟩, by simp [intZ]; omega⟩
      · obtain rfl : k = 4 := by omega
        have e1 : Int.tmod L B = 0 := by rw [Int.tmod_eq_emod_of_nonneg (by omega)]; exact hl1
        go_wp2
        go_ret
        exact ⟨rfl, HBA.out⟩
  · go_wp2_with fail
    refine (P3.out _).mono ?_
    rintro e w' ⟨rfl, rfl⟩
    go_wp2_with fail
    have HBA := Lib.hid (hb1.alloc hb1.size (.cells #[.int .i64 p1, .int .i64 (L - 1 - p2), .int .i64 L, .int .i64 4611686018427387903] 3))
    have HCL : Hid (∀ k : Nat, k < 4 → ∃ r : Int, 0 ≤ r ∧ r < 4611686018427387905 ∧ (w1.alloc (.cells #[.int .i64 p1, .int .i64 (L - 1 - p2), .int .i64 L, .int .i64 4611686018427387903] 3)).cell? ⟨w1.heap.size, k, none⟩ = some (.int .i64 r)) := Lib.hid (fun k hk => by
      rcases (show k = 0 ∨ k = 1 ∨ k = 2 ∨ k = 3 by omega) with rfl | rfl | rfl | rfl
      · exact ⟨p1, by omega, by omega, by simp⟩
      · exact ⟨L - 1 - p2, by omega, by omega, by simp⟩
      · exact ⟨L, by omega, by omega, by simp⟩
      · exact ⟨4611686018427387903, by omega, by omega, by simp⟩)
    obtain ⟨w2, hw2⟩ : ∃ w2, w1.alloc (.cells #[.int .i64 p1, .int .i64 (L - 1 - p2), .int .i64 L, .int .i64 4611686018427387903] 3) = w2 := ⟨_, rfl⟩
    rw [hw2] at HBA HCL ⊢
    obtain ⟨G, hG⟩ : ∃ G, w1.heap.size = G := ⟨_, rfl⟩
    rw [hG] at HCL ⊢
    clear hw2 hG hb1 q1 q2 q3
    go_loopw [38] (fun v wr => ∃ k : Nat, k ≤ 4 ∧ v = .int .i64 (k : Nat) ∧ wr = w2) (fun v _ => 4 - (intZ v).toNat)
    case atStart => exact ⟨0, by omega, rfl, rfl⟩
    case round =>
      obtain ⟨k, hk, rfl, rfl⟩ := hrel
      by_cases hlt : k < 4
      · obtain ⟨r, hr0, hr1, hc⟩ := HCL.out k hlt
        have v1 : (0 : Int) ≤ (k : Int) := by omega
        have v2 : (k : Int) < 4 := by omega
        have hr2 : ¬ r < 0 := by omega
        go_wp2_with fail
        refine (HF.out r hr0 _).mono ?_
        rintro e w' ⟨⟨m, ok, rfl, hok, hy, hn⟩, rfl⟩
        by_cases hrl : r < L
        · obtain rfl : ok = true := by rw [hok]; exact decide_eq_true hrl
          have hm := hy hrl
          clear hy hn hok
          have e1 : 0 ≤ m := by rw [hm]; exact Int.emod_nonneg _ hB0
          have e2 : m < B := by rw [hm]; exact Int.emod_lt_of_pos _ (by omega)
          have e3 : Int.tmod (r - m) B = 0 := by rw [hm]; exact red_tmod r B hr0 (by omega)
          have e4 : IntKind.i64.wrap (r - m) = r - m := IntWalk.i64_in _ (by omega)
          have e5 : r < 4611686018427387904 := by omega
          clear hm
          go_wp2
          all_goals exact ⟨⟨k + 1, by omega, by go_num, trivial⟩, by simp [intZ]; omega⟩
        · obtain rfl : ok = false := by rw [hok]; exact decide_eq_false hrl
          obtain rfl := hn (by omega)
          clear hy hn hok
          go_wp2
          all_goals exact ⟨⟨k + 1, by omega, by go_num, trivial⟩, by simp [intZ]; omega⟩
      · obtain rfl : k = 4 := by omega
        have e1 : Int.tmod L B = 0 := by rw [Int.tmod_eq_emod_of_nonneg (by omega)]; exact hl1
        go_wp2
        go_ret
        exact ⟨rfl, HBA.out⟩
end Go.Proofs.YtfdmmobadmmhdaaDoor
