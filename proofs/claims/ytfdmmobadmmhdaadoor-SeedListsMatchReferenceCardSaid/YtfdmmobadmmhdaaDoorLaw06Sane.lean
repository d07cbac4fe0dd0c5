/- The law of chapter 6: pick, sane. -/
import Derived.Test.YtfdmmobadmmhdaaDoorSeedChoose
namespace Go.Proofs.YtfdmmobadmmhdaaDoor
open Go Go.RowKit
def pickF (c n : Int) : Int := (if c < 0 then -(c + 1) else c) % n
theorem pickF_range (c n : Int) (hn : 0 < n) : 0 ≤ pickF c n ∧ pickF c n < n := by
  unfold pickF
  exact ⟨Int.emod_nonneg _ (by omega), Int.emod_lt_of_pos _ hn⟩
theorem pick_any (c n : Int) (w : World) (hc : -9223372036854775808 ≤ c ∧ c ≤ 9223372036854775807) (hn : 0 < n) (hn2 : n ≤ 9223372036854775807) :
    Calls Tryd.prog 19 #[.int .i64 c, .int .i64 n] w fun e w' => e = .returned (.int .i64 (pickF c n)) ∧ w = w' := by
  have hn0 : n ≠ 0 := by omega
  by_cases h : c < 0
  · have hp : Hid (pickF c n = -(c + 1) % n) := Lib.hid (by unfold pickF; rw [if_pos h])
    have h1 : IntKind.i64.wrap (c + 1) = c + 1 := IntWalk.i64_in _ (by omega)
    have h2 : IntKind.i64.wrap (-(c + 1)) = -(c + 1) := IntWalk.i64_in _ (by omega)
    have h3 : Int.tmod (-(c + 1)) n = -(c + 1) % n := Int.tmod_eq_emod_of_nonneg (by omega)
    have hr := pickF_range c n hn
    rw [hp.out] at hr
    have h4 : IntKind.i64.wrap (-(c + 1) % n) = -(c + 1) % n := IntWalk.i64_in _ (by omega)
    obtain ⟨m, hm⟩ : ∃ m, -(c + 1) % n = m := ⟨_, rfl⟩
    rw [hm] at h3 h4 hp
    clear hm hr
    go_enter Tryd.func19, Tryd.ntmps19
    go_wp2
    go_ret
    exact ⟨by rw [hp.out]; rfl, rfl⟩
  · have hp : Hid (pickF c n = c % n) := Lib.hid (by unfold pickF; rw [if_neg h])
    have h3 : Int.tmod c n = c % n := Int.tmod_eq_emod_of_nonneg (by omega)
    have hr := pickF_range c n hn
    rw [hp.out] at hr
    have h4 : IntKind.i64.wrap (c % n) = c % n := IntWalk.i64_in _ (by omega)
    obtain ⟨m, hm⟩ : ∃ m, c % n = m := ⟨_, rfl⟩
    rw [hm] at h3 h4 hp
    clear hm hr
    go_enter Tryd.func19, Tryd.ntmps19
    go_wp2
    go_ret
    exact ⟨by rw [hp.out]; rfl, rfl⟩
def xs : ByteArray := ⟨#[120]⟩
theorem red1 (w : World) : Calls Tryd.prog 15 #[.int .i64 17, .int .i64 5] w fun e w' => e = .returned (.tuple #[.int .i64 2, .bool true]) ∧ w = w' := by
  have h := reduce_any 17 5 w
  rwa [show reduceF 17 5 = 2 by decide +kernel, show reduceB 17 5 = true by decide +kernel] at h
theorem red2 (w : World) : Calls Tryd.prog 15 #[.int .i64 4611686018427387903, .int .i64 3] w fun e w' => e = .returned (.tuple #[.int .i64 0, .bool false]) ∧ w = w' := by
  have h := reduce_any 4611686018427387903 3 w
  rwa [show reduceF 4611686018427387903 3 = 0 by decide +kernel, show reduceB 4611686018427387903 3 = false by decide +kernel] at h
theorem be8 (d : List UInt8) : be d 8 / 4 < 4611686018427387904 := by
  have := be_lt d 8
  have : (256 : Nat) ^ 8 = 18446744073709551616 := by decide
  omega
theorem rawN_lt (s : ByteArray) (i j : Int) : rawN s i j < 4611686018427387904 := be8 _
theorem drawx0 : drawO xs 0 0 = none := by
  unfold drawO
  split
  · refine drawAt_none 64 0 fun k _ _ => decide_eq_false fun h => ?_
    have := h.1.1
    omega
  · rfl
theorem drawx1 : drawO xs 0 1 = some 0 := by
  have hn : Named xs 0 := ⟨by decide, by decide, by decide, by decide⟩
  have hr : reduceB (rawN xs 0 ((0 : Nat) : Int) : Nat) 1 = true := decide_eq_true ⟨by decide, by omega, by have := rawN_lt xs 0 ((0 : Nat) : Int); omega⟩
  have h0 : 0 ≤ reduceF (rawN xs 0 ((0 : Nat) : Int) : Nat) 1 ∧ reduceF (rawN xs 0 ((0 : Nat) : Int) : Nat) 1 < 1 := reduceF_lt hr
  rw [drawO, if_pos hn, drawAt_some hr 64 0 (by omega) (by omega) (fun k _ h => by omega)]
  rw [show reduceF (rawN xs 0 ((0 : Nat) : Int) : Nat) 1 = 0 by omega]
theorem drw1 (w : World) (hT : RoundOk w) : Calls Tryd.prog 17 #[.string ⟨#[120]⟩, .int .i64 0, .int .i64 0] w fun e w' => e = .returned (.tuple #[.int .i64 0, .int .i64 60]) ∧ Below w.heap.size w w' := by
  have h := draw_any xs 0 0 w hT
  rwa [show drawV xs 0 0 = 0 by rw [drawV, drawx0]; rfl, show drawE xs 0 0 = 60 by rw [drawE, drawx0]; rfl] at h
theorem drw2 (w : World) (hT : RoundOk w) : Calls Tryd.prog 17 #[.string ⟨#[120]⟩, .int .i64 0, .int .i64 1] w fun e w' => e = .returned (.tuple #[.int .i64 0, .int .i64 0]) ∧ Below w.heap.size w w' := by
  have h := draw_any xs 0 1 w hT
  rwa [show drawV xs 0 1 = 0 by rw [drawV, drawx1]; rfl, show drawE xs 0 1 = 0 by rw [drawE, drawx1]; rfl] at h
theorem shf1 (w : World) (hT : RoundOk w) : Calls Tryd.prog 20 #[.string ⟨#[120]⟩, .int .i64 1] w fun e w' => ∃ g, e = .returned (.tuple #[.slice (some ⟨g, 0, none⟩) 1 1, .int .i64 0]) ∧ w'.cell? ⟨g, 0, none⟩ = some (.int .i64 0) ∧ Below w.heap.size w w' := by
  have hr : shufR xs 1 = some id := by
    unfold shufR
    rw [if_pos ⟨⟨by decide, by decide, by decide, by decide⟩, by decide, by decide⟩]
    rfl
  refine (shuffle_any xs 1 w hT).mono ?_
  rintro e w' ⟨h, hb⟩
  cases h with
  | no h => rw [hr] at h; cases h
  | yes m hm _ hs hub _ =>
    rw [hr] at hs
    cases hs
    obtain rfl : m = 1 := by omega
    exact ⟨_, rfl, hub.cell 0 (by omega), hb⟩
theorem smp1 (w : World) (hT : RoundOk w) : Calls Tryd.prog 22 #[.string ⟨#[120]⟩, .int .i64 3, .int .i64 4] w fun e w' => e = .returned (.tuple #[.slice none 0 0, .int .i64 60]) ∧ Below w.heap.size w w' := by
  refine (sample_any xs 3 4 w hT).mono ?_
  rintro e w' ⟨h, hb⟩
  cases h with
  | no h => exact ⟨rfl, hb⟩
  | yes m j h1 h2 h3 => omega
def wts : Nat → Int := fun i => if i = 0 then 2 else if i = 1 then 0 else 3
theorem cho_reads (w : World) (t : TypeId) : ReadsI (w.alloc (.cells #[.int .i64 2, .int .i64 0, .int .i64 3] t)) (some ⟨w.heap.size, 0, none⟩) 3 wts := fun i hi => ⟨w.heap.size, 0, rfl, fun j hj => by
  rcases (show j = 0 ∨ j = 1 ∨ j = 2 by omega) with rfl | rfl | rfl <;> simp [wts]⟩
theorem cho1 (w : World) (p : Option Addr) (c : Nat) (h : ReadsI w p 3 wts) : Calls Tryd.prog 25 #[.slice p 3 c, .int .i64 2] w fun e w' => e = .returned (.tuple #[.int .i64 2, .int .i64 0]) ∧ Below w.heap.size w w' := by
  have h := choose_any p 3 c wts 2 w (by omega) h
  rwa [show choV wts 3 2 = 2 by decide +kernel, show choE wts 3 2 = 0 by decide +kernel] at h
theorem cho2 (w : World) (p : Option Addr) (c : Nat) (h : ReadsI w p 3 wts) : Calls Tryd.prog 25 #[.slice p 3 c, .int .i64 5] w fun e w' => e = .returned (.tuple #[.int .i64 0, .int .i64 60]) ∧ Below w.heap.size w w' := by
  have h := choose_any p 3 c wts 5 w (by omega) h
  rwa [show choV wts 3 5 = 0 by decide +kernel, show choE wts 3 5 = 60 by decide +kernel] at h
theorem rawx_pos : 0 < rawN xs 0 0 := by decide +kernel
theorem raw1 (w : World) (hT : RoundOk w) : Calls Tryd.prog 13 #[.string ⟨#[120]⟩, .int .i64 0, .int .i64 0] w fun e w' => (∃ v : Int, e = .returned (.tuple #[.int .i64 v, .int .i64 0]) ∧ 0 < v) ∧ Below w.heap.size w w' := by
  have h := raw_any xs 0 0 w hT
  have hok : RawOk xs 0 0 := ⟨⟨by decide, by decide, by decide, by decide⟩, by decide, by decide⟩
  rw [show rawV xs 0 0 = (rawN xs 0 0 : Int) from if_pos hok, show rawE xs 0 0 = 0 from if_pos hok] at h
  refine h.mono ?_
  rintro e w' ⟨rfl, hb⟩
  exact ⟨⟨_, rfl, by have := rawx_pos; omega⟩, hb⟩
set_option maxHeartbeats 4000000 in
set_option maxRecDepth 100000 in
theorem sane_any (w : World) (hT : RoundOk w) : Calls Tryd.prog 10 #[] w fun e w' => e = .returned (.bool true) ∧ Below w.heap.size w w' := by
  have HT := Lib.hid hT
  clear hT
  go_enter Tryd.func10, Tryd.ntmps10
  go_wp2_with fail
  refine (red1 _).mono ?_
  rintro e w' ⟨rfl, rfl⟩
  go_wp2_with fail
  refine (red2 _).mono ?_
  rintro e w' ⟨rfl, rfl⟩
  go_wp2_with fail
  refine (drw1 _ HT.out).mono ?_
  rintro e w1 ⟨rfl, hb1⟩
  have HB1 := Lib.hid hb1
  clear hb1
  go_wp2_with fail
  refine (drw2 _ (HT.out.below HB1.out)).mono ?_
  rintro e w2 ⟨rfl, hb2⟩
  have HB2 := Lib.hid (HB1.out.trans (hb2.mono HB1.out.size))
  clear hb2 HB1
  go_wp2_with fail
  refine (shf1 _ (HT.out.below HB2.out)).mono ?_
  rintro e w3 ⟨g, rfl, hc, hb3⟩
  have HB3 := Lib.hid (HB2.out.trans (hb3.mono HB2.out.size))
  have HC3 := Lib.hid hc
  clear hb3 HB2 hc
  go_wp2_with fail
  refine (smp1 _ (HT.out.below HB3.out)).mono ?_
  rintro e w4 ⟨rfl, hb4⟩
  have HB4 := Lib.hid (HB3.out.trans (hb4.mono HB3.out.size))
  have HC4 : Hid (w4.cell? ⟨g, 0, none⟩ = some (.int .i64 0)) := Lib.hid ((hb4.cell (p := ⟨g, 0, none⟩) (cell_lt' HC3.out)).trans HC3.out)
  clear hb4 HB3 HC3
  go_wp2_with fail
  have hbA := HB4.out.alloc HB4.out.size (.cells #[.int .i64 2, .int .i64 0, .int .i64 3] 3)
  have HCA : Hid ((w4.alloc (.cells #[.int .i64 2, .int .i64 0, .int .i64 3] 3)).cell? ⟨g, 0, none⟩ = some (.int .i64 0)) := Lib.hid ((((Below.refl w4.heap.size w4).alloc (Nat.le_refl _) _).cell (p := ⟨g, 0, none⟩) (cell_lt' HC4.out)).trans HC4.out)
  refine (cho1 _ _ _ (cho_reads w4 _)).mono ?_
  rintro e w5 ⟨rfl, hb5⟩
  have HB5 := Lib.hid (hbA.trans (hb5.mono hbA.size))
  have HC5 : Hid (w5.cell? ⟨g, 0, none⟩ = some (.int .i64 0)) := Lib.hid ((hb5.cell (p := ⟨g, 0, none⟩) (cell_lt' HCA.out)).trans HCA.out)
  clear hb5 HB4 HC4 hbA HCA
  go_wp2_with fail
  have hbA := HB5.out.alloc HB5.out.size (.cells #[.int .i64 2, .int .i64 0, .int .i64 3] 3)
  have HCA : Hid ((w5.alloc (.cells #[.int .i64 2, .int .i64 0, .int .i64 3] 3)).cell? ⟨g, 0, none⟩ = some (.int .i64 0)) := Lib.hid ((((Below.refl w5.heap.size w5).alloc (Nat.le_refl _) _).cell (p := ⟨g, 0, none⟩) (cell_lt' HC5.out)).trans HC5.out)
  refine (cho2 _ _ _ (cho_reads w5 _)).mono ?_
  rintro e w6 ⟨rfl, hb6⟩
  have HB6 := Lib.hid (hbA.trans (hb6.mono hbA.size))
  have HC6 : Hid (w6.cell? ⟨g, 0, none⟩ = some (.int .i64 0)) := Lib.hid ((hb6.cell (p := ⟨g, 0, none⟩) (cell_lt' HCA.out)).trans HCA.out)
  clear hb6 HB5 HC5 hbA HCA
  go_wp2_with fail
  refine (raw1 _ (HT.out.below HB6.out)).mono ?_
  rintro e w7 ⟨⟨v, rfl, hv⟩, hb7⟩
  have HB7 := Lib.hid (HB6.out.trans (hb7.mono HB6.out.size))
  have c7 : w7.cell? ⟨g, 0, none⟩ = some (.int .i64 0) := (hb7.cell (p := ⟨g, 0, none⟩) (cell_lt' HC6.out)).trans HC6.out
  clear hb7 HB6 HC6
  go_wp2
  go_ret
  exact ⟨rfl, HB7.out⟩
end Go.Proofs.YtfdmmobadmmhdaaDoor
