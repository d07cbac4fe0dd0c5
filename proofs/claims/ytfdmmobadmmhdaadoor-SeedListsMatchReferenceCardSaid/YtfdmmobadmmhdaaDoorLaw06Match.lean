/- The law of chapter 6: SeedMatchesReference returns true. Conditions: the table holds its words. -/
import Derived.Test.YtfdmmobadmmhdaaDoorRefSeed
namespace Go.Proofs.YtfdmmobadmmhdaaDoor
open Go Go.RowKit
def shortS (s : ByteArray) : ByteArray := if s.size ≤ 50 then s else s.extract 0 50
set_option maxHeartbeats 1000000 in
theorem short_any (s : ByteArray) (w : World) :
    Calls Tryd.prog 11 #[.string s] w fun e w' => e = .returned (.string (shortS s)) ∧ w = w' := by
  by_cases h2 : (s.size : Int) ≤ 50
  · have hn : Hid (shortS s = s) := Lib.hid (by unfold shortS; rw [if_pos (by omega)])
    go_enter Tryd.func11, Tryd.ntmps11
    go_wp2
    go_ret
    exact ⟨by rw [hn.out]; rfl, rfl⟩
  · have hn : Hid (shortS s = s.extract 0 50) := Lib.hid (by unfold shortS; rw [if_neg (by omega)])
    have h3 : (50 : Int) < (s.size : Int) := by omega
    go_enter Tryd.func11, Tryd.ntmps11
    go_wp2
    go_ret
    exact ⟨by rw [hn.out]; rfl, rfl⟩
def twoF (s : ByteArray) (k : Nat) : ByteArray := if k = 0 then shortS s else nameS s
set_option maxHeartbeats 4000000 in
set_option maxRecDepth 100000 in
theorem match_any (s : ByteArray) (i j raw below : Int) (w : World) (hT : RoundOk w) :
    Calls Tryd.prog 3 #[.string s, .int .i64 i, .int .i64 j, .int .i64 raw, .int .i64 below] w fun e w' => e = .returned (.bool true) ∧ Below w.heap.size w w' := by
  have HT := Lib.hid hT
  have SH := Lib.hid (short_any s)
  have NM := Lib.hid (name_any s)
  have HF0 : Hid (twoF s 0 = shortS s) := Lib.hid rfl
  have HF1 : Hid (twoF s 1 = nameS s) := Lib.hid rfl
  obtain ⟨x0, hx0⟩ : ∃ x, shortS s = x := ⟨_, rfl⟩
  obtain ⟨x1, hx1⟩ : ∃ x, nameS s = x := ⟨_, rfl⟩
  rw [hx0] at SH HF0
  rw [hx1] at NM HF1
  clear hT hx0 hx1
  go_enter Tryd.func3, Tryd.ntmps3
  go_wp2_with fail
  refine (sane_any _ HT.out).mono ?_
  rintro e w1 ⟨rfl, hb1⟩
  have HB1 := Lib.hid hb1
  clear hb1
  go_wp2_with fail
  refine (SH.out _).mono ?_
  rintro e w' ⟨rfl, rfl⟩
  go_wp2_with fail
  refine (NM.out _).mono ?_
  rintro e w' ⟨rfl, rfl⟩
  have hal : Below w1.heap.size w1 (w1.alloc (.cells #[.string x0, .string x1] 9)) := (Below.refl w1.heap.size w1).alloc (Nat.le_refl _) _
  have hc0 : (w1.alloc (.cells #[.string x0, .string x1] 9)).cell? ⟨w1.heap.size, 0, none⟩ = some (.string x0) := by simp
  have hc1 : (w1.alloc (.cells #[.string x0, .string x1] 9)).cell? ⟨w1.heap.size, 1, none⟩ = some (.string x1) := by simp
  go_wp2_with fail
  obtain ⟨w3, hw3⟩ : ∃ w3, w1.alloc (.cells #[.string x0, .string x1] 9) = w3 := ⟨_, rfl⟩
  rw [hw3] at hal hc0 hc1 ⊢
  obtain ⟨G, hG⟩ : ∃ G, w1.heap.size = G := ⟨_, rfl⟩
  rw [hG] at hc0 hc1 ⊢
  have HC : Hid (∀ W, Below w3.heap.size w3 W → ∀ k, k < 2 → W.cell? ⟨G, k, none⟩ = some (.string (twoF s k))) := Lib.hid (fun W h k hk => by
    rcases (show k = 0 ∨ k = 1 by omega) with rfl | rfl
    · rw [HF0.out]; exact (h.cell (p := ⟨G, 0, none⟩) (cell_lt' hc0)).trans hc0
    · rw [HF1.out]; exact (h.cell (p := ⟨G, 1, none⟩) (cell_lt' hc1)).trans hc1)
  have HB3 := Lib.hid (HB1.out.trans (hal.mono HB1.out.size))
  clear hw3 hG hal hc0 hc1 HB1 HF0 HF1 SH NM
  go_loopw [33] (fun v wr => ∃ k : Nat, k ≤ 2 ∧ v = .int .i64 (k : Nat) ∧ Below w3.heap.size w3 wr) (fun v _ => 2 - (intZ v).toNat)
  case atStart => exact ⟨0, by omega, rfl, Below.refl _ _⟩
  case round =>
    obtain ⟨k, hk, rfl, hb⟩ := hrel
    by_cases hlt : k < 2
    · have l0 : (0 : Int) ≤ (k : Int) := by omega
      have l1 : (k : Int) < 2 := by omega
      have c0 := HC.out wr hb k hlt
      have HBW := Lib.hid hb
      have HTW := Lib.hid (HT.out.below (HB3.out.trans (hb.mono HB3.out.size)))
      obtain ⟨x, hx⟩ : ∃ x, twoF s k = x := ⟨_, rfl⟩
      rw [hx] at c0
      have HA := Lib.hid (fun W => raw_any x i j W)
      have HB := Lib.hid (fun W => ref_raw_any x i j W)
      have HC1 := Lib.hid (fun W => reduce_any raw below W)
      have HD1 := Lib.hid (fun W => ref_reduce_any raw below W)
      have HE := Lib.hid (fun W => draw_any x i below W)
      have HF := Lib.hid (fun W => ref_draw_any x i below W)
      generalize rawV x i j = a at HA HB
      generalize rawE x i j = b at HA HB
      generalize reduceF raw below = c at HC1 HD1
      generalize reduceB raw below = d at HC1 HD1
      generalize drawV x i below = e1 at HE HF
      generalize drawE x i below = f1 at HE HF
      clear hb hx
      go_wp2_with fail
      refine (HA.out _ HTW.out).mono ?_
      rintro e w4 ⟨rfl, hb4⟩
      have HB4 := Lib.hid (HBW.out.trans (hb4.mono HBW.out.size))
      clear hb4
      go_wp2_with fail
      refine (HB.out _).mono ?_
      rintro e w5 ⟨rfl, hb5⟩
      have HB5 := Lib.hid (HB4.out.trans (hb5.mono HB4.out.size))
      clear hb5
      go_wp2_with fail
      refine (HC1.out _).mono ?_
      rintro e w6 ⟨rfl, rfl⟩
      go_wp2_with fail
      refine (HD1.out _).mono ?_
      rintro e w6 ⟨rfl, rfl⟩
      go_wp2_with fail
      refine (HE.out _ (HT.out.below (HB3.out.trans (HB5.out.mono HB3.out.size)))).mono ?_
      rintro e w6 ⟨rfl, hb6⟩
      have HB6 := Lib.hid (HB5.out.trans (hb6.mono HB5.out.size))
      clear hb6
      go_wp2_with fail
      refine (HF.out _).mono ?_
      rintro e w7 ⟨rfl, hb7⟩
      have HB7 := Lib.hid (HB6.out.trans (hb7.mono HB6.out.size))
      clear hb7
      go_wp2_with fail
      exact ⟨⟨k + 1, by omega, by go_num, HB7.out⟩, by simp [intZ]; omega⟩
    · obtain rfl : k = 2 := by omega
      have HBW := Lib.hid (HB3.out.trans (hb.mono HB3.out.size))
      clear hb
      go_wp2
      go_ret
      exact ⟨rfl, HBW.out⟩
end Go.Proofs.YtfdmmobadmmhdaaDoor
