/- QuotaFair returns true. Condition: a slice of numbers that came in. -/
import Derived.Test.YtdodhfodojjfeaaLaw36Sane
namespace Go.Proofs.Ytdodhfodojjfeaa
open Go Go.RowKit Go.Shelf
theorem IntsIn.below {w W : World} {p : Option Addr} {n : Nat} {f : Nat → Int} (h : IntsIn w p n f) (hb : Below w.heap.size w W) : IntsIn W p n f :=
  ⟨h.small, fun i hi => by
    obtain ⟨b, off, hp, hlt, hc⟩ := h.cell i hi
    exact ⟨b, off, hp, Nat.lt_of_lt_of_le hlt hb.size, fun j hj => (hb.cell (p := ⟨b, off + j, none⟩) hlt).trans (hc j hj)⟩, h.bd⟩
theorem IntsAt.drewN {W : World} {G n : Nat} {a : Nat → Nat} (h : IntsAt W G n a) (k : Nat) : IntsAt (W.drewN k) G n a := ⟨h.lt, h.cell, h.free, h.row⟩
theorem decide_ff {p : Prop} [Decidable p] (h : ¬ p) : decide p = false := decide_eq_false h
set_option maxRecDepth 100000 in
set_option maxHeartbeats 4000000 in
theorem quotaFair_any (a0 a2 : Int) (p : Option Addr) (n0 c0 : Nat) (f : Nat → Int) (w : World) (hin : IntsIn w p n0 f) (b0 : -9223372036854775808 ≤ a0 ∧ a0 ≤ 9223372036854775807) (b2 : -9223372036854775808 ≤ a2 ∧ a2 ≤ 9223372036854775807) :
    Calls Try.prog 3 #[.int .i64 a0, .slice p n0 c0, .int .i64 a2] w fun e w' => e = .returned (.bool true) ∧ Below w.heap.size w w' := by
  have HIN := Lib.hid hin
  clear hin
  go_enter Try.func3, Try.ntmps3
  go_wp2_with fail
  refine (sane_any w).mono ?_
  rintro e w1 ⟨rfl, hB1⟩
  go_wp2_with fail
  refine (demands_any p n0 c0 f w1 (HIN.out.below hB1)).mono ?_
  rintro e w2 ⟨G, n, cp, d, rfl, hn1, hn8, hd, hG, hat, hb2⟩
  have hB2 := hB1.trans (hb2.mono hB1.size)
  clear hb2 hB1
  go_wp2_with fail
  refine (pick_any a0 1000001 1000001 _ rfl b0.1 b0.2 (by omega) (by omega)).mono ?_
  rintro e w3 ⟨rfl, rfl⟩
  have hc := pickN_lt a0 (show 0 < 1000001 by omega)
  obtain ⟨c, hce⟩ : ∃ c, pickN a0 1000001 = c := ⟨_, rfl⟩
  rw [hce] at hc ⊢
  clear hce
  go_wp2_with fail
  refine (pick_any a2 n n _ rfl b2.1 b2.2 (by omega) (by omega)).mono ?_
  rintro e w3 ⟨rfl, rfl⟩
  have ht := pickN_lt a2 (show 0 < n by omega)
  obtain ⟨t, hte⟩ : ∃ t, pickN a2 n = t := ⟨_, rfl⟩
  rw [hte] at ht ⊢
  clear hte
  go_wp2_with fail
  refine (divide_any c n t d _ cp _ (by omega) hn1 hn8 ht hd hat.reads).mono ?_
  rintro e w4 ⟨H, a, rfl, hH, hsv, hdiv, hb4⟩
  have hf := hdiv.fair ht
  have hB4 := hB2.trans (hb4.mono hB2.size)
  have hat4 := hat.below hb4
  have ha : ∀ i, i < n → a i ≤ 1000000 := fun i hi => Nat.le_trans (hf.2.1 i hi) (hd i hi)
  have hsd := sumTo_bd d n hd
  have hsum : (if (sumTo d n : Int) < (c : Int) then ((sumTo d n : Nat) : Int) else (c : Int)) = ((sumTo a n : Nat) : Int) := by
    rw [hf.1]; split <;> omega
  have HF := Lib.hid hf
  have HSUM := Lib.hid hsum
  clear hdiv hb4 hat hB2 hf hsum
  have hsum2 : (if sumTo d n < c then ((sumTo d n : Nat) : Int) else (c : Int)) = ((sumTo a n : Nat) : Int) := by
    rw [← HSUM.out]; split <;> split <;> omega
  have q1 := fun W hW => sum_any (some ⟨H, 0, none⟩) n n a W hn8 hW ha
  have q2 := fun W hW => sum_any (some ⟨G, 0, none⟩) n cp d W hn8 hW hd
  have hsum1 := HSUM.out
  obtain ⟨sa, hsa⟩ : ∃ sa, sumTo a n = sa := ⟨_, rfl⟩
  obtain ⟨sd, hsd2⟩ : ∃ sd, sumTo d n = sd := ⟨_, rfl⟩
  rw [hsa, hsd2] at hsum1 hsum2
  rw [hsa] at q1
  rw [hsd2] at q2 hsd
  have Q1 := Lib.hid q1
  have Q2 := Lib.hid q2
  clear q1 q2 hsa hsd2
  go_wp2_with fail
  refine (Q1.out _ hsv.reads).mono ?_
  rintro e w5 ⟨rfl, rfl⟩
  go_wp2_with fail
  refine (Q2.out _ hat4.reads).mono ?_
  rintro e w5 ⟨rfl, rfl⟩
  go_wp2_with fail
  clear hsum1 hsum2
  go_loopw [12] (fun i wr => ∃ k : Nat, k ≤ n ∧ i = .int .i64 k ∧ IntsAt wr H n a ∧ IntsAt wr G n d ∧ Below w.heap.size w wr) (fun i _ => n - (intOf i).toNat)
  case atStart => exact ⟨0, by omega, rfl, hsv, hat4, hB4⟩
  case round =>
    obtain ⟨k, hk, rfl, hsk, hdk, hBk⟩ := hrel
    by_cases hlt : k < n
    · have x1 := hsk.cell k hlt
      have x2 := hdk.cell k hlt
      have x3 : (a k : Int) ≤ (d k : Int) := by have := HF.out.2.1 k hlt; omega
      have x4 : decide (d k < a k) = false := decide_ff (by omega)
      have x5 : decide ((a k : Int) < 0) = false := decide_ff (by omega)
      have k0 : (0 : Int) ≤ (k : Int) := by omega
      have k1 : (k : Int) < (n : Int) := by omega
      go_wp2_with fail
      go_quiet (fail)
      have hs1 := hsk.drewN nq
      have hd1 := hdk.drewN nq
      have hb1 := Below_drewN hBk nq
      clear hsk hdk hBk x1 x2 x5
      obtain ⟨wo, hwo⟩ : ∃ wo, wr.drewN nq = wo := ⟨_, rfl⟩
      rw [hwo] at hs1 hd1 hb1
      go_wp2_with fail
      rw [hwo]
      clear hwo
      go_loopw [13] (fun i wv => ∃ j : Nat, j ≤ n ∧ i = .int .i64 j ∧ IntsAt wv H n a ∧ IntsAt wv G n d ∧ Below w.heap.size w wv) (fun i _ => n - (intOf i).toNat)
      case atStart => exact ⟨0, by omega, rfl, hs1, hd1, hb1⟩
      case round =>
        obtain ⟨j, hj, rfl, hsk, hdk, hBk⟩ := hrel
        clear hs1 hd1 hb1
        have x1 := hsk.cell k hlt
        have x2 := hdk.cell k hlt
        by_cases hjn : j < n
        · have j0 : (0 : Int) ≤ (j : Int) := by omega
          have j1 : (j : Int) < (n : Int) := by omega
          by_cases hlt2 : a k < d k
          · have x6 := hsk.cell j hjn
            have hfair := HF.out.2.2 k j hlt hjn hlt2
            have x7 : ¬ ((a k : Int) + 1 < (a j : Int)) := by omega
            have x8 : (a k : Int) < (d k : Int) := by omega
            have x9 := ha k hlt
            clear hfair
            go_wp2_with fail
            go_quiet (fail)
            go_wp2_with fail
            go_quiet (fail)
            go_wp2_with fail
            exact ⟨⟨j + 1, by omega, by go_num, (hsk.drewN _), (hdk.drewN _), (Below_drewN hBk _)⟩, by simp [intOf]; omega⟩
          · have x8 : decide ((a k : Int) < (d k : Int)) = false := decide_ff (by omega)
            go_wp2_with fail
            go_quiet (fail)
            go_wp2_with fail
            exact ⟨⟨k + 1, by omega, by go_num, (hsk.drewN _), (hdk.drewN _), (Below_drewN hBk _)⟩, by simp [intOf]; omega⟩
        · have hjn2 : decide ((j : Int) < (n : Int)) = false := decide_ff (by omega)
          have hjn3 : decide (j < n) = false := decide_ff hjn
          go_wp2_with fail
          go_quiet (fail)
          go_wp2_with fail
          exact ⟨⟨k + 1, by omega, by go_num, (hsk.drewN _), (hdk.drewN _), (Below_drewN hBk _)⟩, by simp [intOf]; omega⟩
    · obtain rfl : n = k := by omega
      go_wp2
      go_ret
      exact ⟨rfl, hBk⟩
end Go.Proofs.Ytdodhfodojjfeaa
