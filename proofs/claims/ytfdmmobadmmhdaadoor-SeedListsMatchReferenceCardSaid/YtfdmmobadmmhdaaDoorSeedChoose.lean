/- Package seed: Choose. Condition: a list that can be read. -/
import Derived.Test.YtfdmmobadmmhdaaDoorSeedShuffle
namespace Go.Proofs.YtfdmmobadmmhdaaDoor
open Go Go.RowKit
/-- Integers that can be read. -/
def ReadsI (W : World) (p : Option Addr) (n : Nat) (f : Nat → Int) : Prop :=
  ∀ i, i < n → ∃ b off, p = some ⟨b, off, none⟩ ∧ ∀ j, j < n → W.cell? ⟨b, off + j, none⟩ = some (.int .i64 (f j))
theorem ReadsI.below {W W' : World} {p : Option Addr} {n : Nat} {f : Nat → Int} (h : ReadsI W p n f) (hb : Below W.heap.size W W') : ReadsI W' p n f := fun i hi => by
  obtain ⟨b, off, hp, hc⟩ := h i hi
  exact ⟨b, off, hp, fun j hj => (hb.cell (p := ⟨b, off + j, none⟩) (cell_lt' (hc j hj))).trans (hc j hj)⟩
def sumI (f : Nat → Int) : Nat → Int
  | 0 => 0
  | k + 1 => sumI f k + f k
def chosenAt (f : Nat → Int) (d : Int) : Nat → Int
  | 0 => -1
  | k + 1 => if chosenAt f d k < 0 ∧ d < sumI f (k + 1) then (k : Nat) else chosenAt f d k
def wOk (f : Nat → Int) (k : Nat) : Prop := ∀ i, i < k → 0 ≤ f i ∧ f i ≤ 1125899906842624
def ChoOk (f : Nat → Int) (n : Nat) (d : Int) : Prop := n ≤ 200 ∧ 0 ≤ d ∧ wOk f n ∧ 0 ≤ chosenAt f d n
instance (f : Nat → Int) (n : Nat) (d : Int) : Decidable (ChoOk f n d) := by unfold ChoOk wOk; infer_instance
def choV (f : Nat → Int) (n : Nat) (d : Int) : Int := if ChoOk f n d then chosenAt f d n else 0
def choE (f : Nat → Int) (n : Nat) (d : Int) : Int := if ChoOk f n d then 0 else 60
theorem sumI_bound {f : Nat → Int} : ∀ k, wOk f k → 0 ≤ sumI f k ∧ sumI f k ≤ 1125899906842624 * k
  | 0, _ => ⟨Int.le_refl _, by simp [sumI]⟩
  | k + 1, h => by
    have h1 := sumI_bound k (fun i hi => h i (by omega))
    have h2 := h k (by omega)
    unfold sumI
    omega
theorem chosen_ge (f : Nat → Int) (d : Int) : ∀ k, -1 ≤ chosenAt f d k ∧ chosenAt f d k < (k : Nat)
  | 0 => ⟨Int.le_refl _, by show (-1 : Int) < 0; decide⟩
  | k + 1 => by
    have h := chosen_ge f d k
    unfold chosenAt
    split <;> omega
theorem choose1_any (S D : Nat) (x s d : Int) (w : World) (hx : 0 ≤ x ∧ x ≤ 1125899906842624) (hs0 : 0 ≤ s ∧ s ≤ 1125899906842624 * 1000) (hne : S ≠ D) (hs : Boxed w S 3 (.int .i64 s)) (hd : Boxed w D 3 (.int .i64 d)) :
    Calls Tryd.prog 37 #[.int .i64 x, .pointer (some ⟨S, 0, none⟩), .pointer (some ⟨D, 0, none⟩)] w fun e w' => e = .returned (.bool (decide (d < s + x))) ∧ w.setCell ⟨S, 0, none⟩ (.int .i64 (s + x)) = w' := by
  have c1 := hs.cell
  have f1 := hs.frozen
  have c2 := (hs.set (.int .i64 (s + x))).cell
  have c3 := (Boxed_other (u := .int .i64 (s + x)) hd (fun e => hne e.symm)).cell
  have hw : IntKind.i64.wrap (s + x) = s + x := IntWalk.i64_in _ (by omega)
  go_enter Tryd.func37, Tryd.ntmps37
  go_wp2
  go_ret
  exact ⟨rfl, rfl⟩
set_option maxRecDepth 100000 in
set_option maxHeartbeats 4000000 in
theorem choose_any (p : Option Addr) (n c : Nat) (f : Nat → Int) (d : Int) (w : World) (hn : n ≤ 1000000) (hr : ReadsI w p n f) :
    Calls Tryd.prog 25 #[.slice p n c, .int .i64 d] w fun e w' => e = .returned (.tuple #[.int .i64 (choV f n d), .int .i64 (choE f n d)]) ∧ Below w.heap.size w w' := by
  by_cases h1 : (n : Int) ≤ 200
  · by_cases h2 : 0 ≤ d
    · have hal := ((Below.refl w.heap.size w).alloc (Nat.le_refl _) (.cells #[.int .i64 d] 3)).alloc (by simp) (.cells #[.int .i64 0] 3)
      have b0 := (Boxed.new w 3 (.int .i64 d)).alloc (.cells #[.int .i64 0] 3)
      have b1 := Boxed.new (w.alloc (.cells #[.int .i64 d] 3)) 3 (.int .i64 0)
      rw [World.size_alloc] at b1
      have HR := Lib.hid hr
      have HB0 := Lib.hid b0
      have HB1 := Lib.hid b1
      have HAL := Lib.hid hal
      have HN1 := Lib.hid h1
      have HN2 := Lib.hid h2
      have c1 := b1.cell
      have f1 := b1.frozen
      clear hr b0 b1 hal
      go_enter Tryd.func25, Tryd.ntmps25
      go_wp2_with fail
      obtain ⟨w0, hw0⟩ : ∃ w0, (w.alloc (.cells #[.int .i64 d] 3)).alloc (.cells #[.int .i64 0] 3) = w0 := ⟨_, rfl⟩
      rw [hw0] at HB0 HB1 HAL ⊢
      obtain ⟨S, hS⟩ : ∃ S, w.heap.size = S := ⟨_, rfl⟩
      rw [hS] at HB0 HB1 HAL
      try rw [hS]
      have HSE := Lib.hid hS
      clear c1 f1 hw0 hS
      go_loopw [8, 21] (fun v8 v21 wr => ∃ k : Nat, k ≤ n ∧ v21 = .int .i64 (k : Nat) ∧ v8 = .int .i64 (chosenAt f d k) ∧ Hid (wOk f k) ∧ Boxed wr (S + 1) 3 (.int .i64 (sumI f k)) ∧ Boxed wr S 3 (.int .i64 d) ∧ Below S w wr) (fun _ v21 _ => n - (intZ v21).toNat)
      case atStart =>
        exact ⟨0, by omega, rfl, rfl, Lib.hid (fun i hi => by omega), HB1.out, HB0.out, HAL.out⟩
      case round =>
        obtain ⟨k, hk, rfl, rfl, hw, hb1, hb0, hb⟩ := hrel
        have hcg := chosen_ge f d k
        have HBW := Lib.hid (show Below w.heap.size w wr by rw [HSE.out]; exact hb)
        by_cases hlt : k < n
        · obtain ⟨b, o, hp, hc⟩ := HR.out.below HBW.out k hlt
          subst hp
          have x0 := hc k hlt
          have v1 : (0 : Int) ≤ (k : Int) := by omega
          have v2 : (k : Int) < (n : Int) := by omega
          obtain ⟨x, hx⟩ : ∃ x, f k = x := ⟨_, rfl⟩
          rw [hx] at x0
          have HX := Lib.hid hx
          obtain ⟨ch, hch⟩ : ∃ x, chosenAt f d k = x := ⟨_, rfl⟩
          have HCH := Lib.hid hch
          have HB1k := Lib.hid hb1
          have HB0k := Lib.hid hb0
          rw [hch] at hcg ⊢
          clear hc hx hch hb1 hb0
          by_cases x1 : x < 0
          · have HNO : Hid (¬ ChoOk f n d) := Lib.hid (fun h => by have := (h.2.2.1 k hlt).1; have := HX.out; omega)
            go_wp2_with fail
            go_ret2
            exact ⟨by rw [show choV f n d = 0 from if_neg HNO.out, show choE f n d = 60 from if_neg HNO.out]; rfl, HBW.out⟩
          · by_cases x2 : 1125899906842624 < x
            · have HNO : Hid (¬ ChoOk f n d) := Lib.hid (fun h => by have := (h.2.2.1 k hlt).2; have := HX.out; omega)
              go_wp2_with fail
              go_ret2
              exact ⟨by rw [show choV f n d = 0 from if_neg HNO.out, show choE f n d = 60 from if_neg HNO.out]; rfl, HBW.out⟩
            · have HSB := Lib.hid (sumI_bound k hw.out)
              have HW1 : Hid (wOk f (k + 1)) := Lib.hid (fun i hi => by
                by_cases e : i = k
                · rw [e, HX.out]; omega
                · exact hw.out i (by omega))
              have HC1 := Lib.hid (choose1_any (S + 1) S x (sumI f k) d wr (by omega) (by have := HSB.out; have := HN1.out; omega) (by omega) HB1k.out HB0k.out)
              have HSX : Hid (sumI f k + x = sumI f (k + 1)) := Lib.hid (by show sumI f k + x = sumI f k + f k; rw [HX.out])
              have HB1n := Lib.hid (HB1k.out.set (.int .i64 (sumI f k + x)))
              have HB0n := Lib.hid (Boxed_other (u := .int .i64 (sumI f k + x)) HB0k.out (show S ≠ S + 1 by omega))
              rw [HSX.out] at HC1 HB1n HB0n
              have HCN : Hid (chosenAt f d (k + 1) = if ch < 0 ∧ d < sumI f (k + 1) then ((k : Nat) : Int) else ch) := Lib.hid (by show (if chosenAt f d k < 0 ∧ d < sumI f (k + 1) then ((k : Nat) : Int) else chosenAt f d k) = _; rw [HCH.out])
              obtain ⟨s2, hs2⟩ : ∃ s2, sumI f (k + 1) = s2 := ⟨_, rfl⟩
              have HS2 := Lib.hid hs2
              rw [hs2] at HC1 HB1n HB0n HCN
              clear hs2 HB1k HB0k
              by_cases t1 : d < s2
              · by_cases t2 : ch < 0
                · rw [if_pos ⟨t2, t1⟩] at HCN
                  go_wp2_with fail
                  refine HC1.out.mono ?_
                  rintro e w2 ⟨rfl, rfl⟩
                  go_wp2_with fail
                  exact ⟨⟨k + 1, by omega, by go_num, by rw [HCN.out], HW1, by rw [HS2.out]; exact HB1n.out, HB0n.out, Below_set' hb (by omega) _⟩, by simp [intZ]; omega⟩
                · rw [if_neg (fun h => t2 h.1)] at HCN
                  go_wp2_with fail
                  refine HC1.out.mono ?_
                  rintro e w2 ⟨rfl, rfl⟩
                  go_wp2_with fail
                  exact ⟨⟨k + 1, by omega, by go_num, by rw [HCN.out], HW1, by rw [HS2.out]; exact HB1n.out, HB0n.out, Below_set' hb (by omega) _⟩, by simp [intZ]; omega⟩
              · rw [if_neg (fun h => t1 h.2)] at HCN
                go_wp2_with fail
                refine HC1.out.mono ?_
                rintro e w2 ⟨rfl, rfl⟩
                go_wp2_with fail
                exact ⟨⟨k + 1, by omega, by go_num, by rw [HCN.out], HW1, by rw [HS2.out]; exact HB1n.out, HB0n.out, Below_set' hb (by omega) _⟩, by simp [intZ]; omega⟩
        · obtain rfl : n = k := by omega
          obtain ⟨ch, hch⟩ : ∃ x, chosenAt f d n = x := ⟨_, rfl⟩
          have HCH := Lib.hid hch
          rw [hch] at hcg ⊢
          clear hch
          by_cases t2 : ch < 0
          · have HNO : Hid (¬ ChoOk f n d) := Lib.hid (fun h => by have := h.2.2.2; have := HCH.out; omega)
            go_wp2_with fail
            go_ret2
            exact ⟨by rw [show choV f n d = 0 from if_neg HNO.out, show choE f n d = 60 from if_neg HNO.out]; rfl, HBW.out⟩
          · have HYES : Hid (ChoOk f n d) := Lib.hid ⟨by have := HN1.out; omega, HN2.out, hw.out, by rw [HCH.out]; omega⟩
            go_wp2_with fail
            go_ret2
            exact ⟨by rw [show choV f n d = _ from if_pos HYES.out, show choE f n d = 0 from if_pos HYES.out, HCH.out]; rfl, HBW.out⟩
    · have HX : Hid (¬ ChoOk f n d) := Lib.hid (fun h => h2 h.2.1)
      have h3 : d < 0 := by omega
      clear hr
      go_enter Tryd.func25, Tryd.ntmps25
      go_wp2_with fail
      go_ret2
      exact ⟨by rw [show choV f n d = 0 from if_neg HX.out, show choE f n d = 60 from if_neg HX.out]; rfl, (Below.refl _ _).alloc (Nat.le_refl _) _⟩
  · have HX : Hid (¬ ChoOk f n d) := Lib.hid (fun h => h1 (by have := h.1; omega))
    have h3 : (200 : Int) < (n : Int) := by omega
    clear hr
    go_enter Tryd.func25, Tryd.ntmps25
    go_wp2_with fail
    go_ret2
    exact ⟨by rw [show choV f n d = 0 from if_neg HX.out, show choE f n d = 60 from if_neg HX.out]; rfl, (Below.refl _ _).alloc (Nat.le_refl _) _⟩
end Go.Proofs.YtfdmmobadmmhdaaDoor
