/- Package quota: units, demands, and the library's IndexFunc and ContainsFunc. Conditions: slices that can be read. -/
import Derived.Test.YtdodhfodojjfeaaProg
import Derived.WalkKit
import Derived.Shelf.Abstract
import Derived.Shelf.RegionOpen
import Derived.IntWalk
import Derived.Lib.Hide
import Derived.OwnWalkIn
import Derived.TacticsInMore
namespace Go.Proofs.Ytdodhfodojjfeaa
open Go Go.RowKit
def unitB (n : Int) : Bool := decide (0 ≤ n) && decide (n ≤ 1000000)
theorem unitB_iff {n : Int} : unitB n = true ↔ 0 ≤ n ∧ n ≤ 1000000 := by simp [unitB]
theorem isUnits_any (n : Int) (w : World) : Calls Try.prog 25 #[.int .i64 n] w fun e w' => e = .returned (.bool (unitB n)) ∧ w = w' := by
  unfold unitB
  by_cases h : 0 ≤ n
  · go_enter Try.func25, Try.ntmps25
    go_wp2
    go_ret
    exact ⟨by simp [h], rfl⟩
  · go_enter Try.func25, Try.ntmps25
    go_wp2
    go_ret
    exact ⟨by simp; omega, rfl⟩
theorem areDemands1_any (n : Int) (w : World) : Calls Try.prog 37 #[.int .i64 n] w fun e w' => e = .returned (.bool (! unitB n)) ∧ w = w' := by
  go_enter Try.func37, Try.ntmps37
  go_wp2_with fail
  refine (isUnits_any _ _).mono ?_
  rintro e w1 ⟨rfl, rfl⟩
  go_wp2
  go_ret
  exact ⟨rfl, rfl⟩
def ReadsI (W : World) (p : Option Addr) (n : Nat) (f : Nat → Int) : Prop :=
  ∀ i, i < n → ∃ b off, p = some ⟨b, off, none⟩ ∧ ∀ j, j < n → W.cell? ⟨b, off + j, none⟩ = some (.int .i64 (f j))
/-- A bool was handed back, true where a law holds. -/
def Says (e : Ending) (p : Prop) : Prop := ∃ r : Bool, e = .returned (.bool r) ∧ (r = true ↔ p)
theorem Says.yes {e : Ending} {p : Prop} (h : Says e p) (hp : p) : e = .returned (.bool true) := by
  obtain ⟨r, rfl, hr⟩ := h; rw [hr.2 hp]
theorem Says.no {e : Ending} {p : Prop} (h : Says e p) (hp : ¬ p) : e = .returned (.bool false) := by
  obtain ⟨r, rfl, hr⟩ := h
  cases r with
  | true => exact absurd (hr.1 rfl) hp
  | false => rfl
set_option maxHeartbeats 1000000 in
theorem index_any (g : Nat) (lb : Array Value) (bad : Int → Bool) (p : Option Addr) (n c : Nat) (f : Nat → Int) (w : World) (hn : n ≤ maxLen) (hr : ReadsI w p n f)
    (hg : ∀ args w, (callFunc g args).run Try.prog w = .ok (.enter g args) w)
    (hC : ∀ x, Calls Try.prog g (#[.int .i64 x] ++ lb) w fun e w' => e = .returned (.bool (bad x)) ∧ w = w') :
    Calls Try.prog 39 #[.slice p n c, .func (.func g) #[] lb] w fun e w' => (∃ r : Int, e = .returned (.int .i64 r) ∧ -1 ≤ r ∧ r < n ∧ (0 ≤ r ↔ ∃ i, i < n ∧ bad (f i) = true)) ∧ w = w' := by
  unfold maxLen at hn
  have HR := Lib.hid hr
  have HC := Lib.hid hC
  clear hr hC
  go_enter Try.func39, Try.ntmps39
  go_wp2_with fail
  go_loopw [8] (fun i wr => ∃ k : Nat, k ≤ n ∧ i = .int .i64 k ∧ w = wr ∧ ∀ j, j < k → bad (f j) = false) (fun i _ => n - (intOf i).toNat)
  case atStart => exact ⟨0, by omega, rfl, rfl, fun j hj => by omega⟩
  case round =>
    obtain ⟨k, hk, rfl, rfl, hbs⟩ := hrel
    have HB := Lib.hid hbs
    clear hbs
    by_cases hlt : k < n
    · obtain ⟨b, off, rfl, hcl⟩ := HR.out k hlt
      have c1 := hcl k hlt
      clear hcl
      go_wp2_with fail
      refine (HC.out _).mono ?_
      rintro e w1 ⟨rfl, rfl⟩
      cases hb : bad (f k) with
      | true =>
        go_wp2
        go_ret
        exact ⟨⟨k, rfl, by omega, by omega, fun _ => ⟨k, hlt, hb⟩, fun _ => by omega⟩, rfl⟩
      | false =>
        have hnext : ∀ j, j < k + 1 → bad (f j) = false := fun j hj => by
          by_cases e : j = k
          · subst e; exact hb
          · exact HB.out j (by omega)
        have HN := Lib.hid hnext
        clear hnext hb
        go_wp2
        go_roundw
        case rel => exact ⟨k + 1, by omega, by go_num, trivial, HN.out⟩
        case measure => simp [intOf]; omega
    · obtain rfl : k = n := by omega
      go_wp2
      go_ret
      refine ⟨⟨-1, rfl, by omega, by omega, fun h => by omega, fun ⟨i, hi, hb⟩ => ?_⟩, rfl⟩
      rw [HB.out i hi] at hb; cases hb
theorem contains_any (g : Nat) (lb : Array Value) (bad : Int → Bool) (p : Option Addr) (n c : Nat) (f : Nat → Int) (w : World) (hn : n ≤ maxLen) (hr : ReadsI w p n f)
    (hg : ∀ args w, (callFunc g args).run Try.prog w = .ok (.enter g args) w)
    (hC : ∀ x, Calls Try.prog g (#[.int .i64 x] ++ lb) w fun e w' => e = .returned (.bool (bad x)) ∧ w = w') :
    Calls Try.prog 34 #[.slice p n c, .func (.func g) #[] lb] w fun e w' => Says e (∃ i, i < n ∧ bad (f i) = true) ∧ w = w' := by
  have H := Lib.hid (index_any g lb bad p n c f w hn hr hg hC)
  clear hr hC hg
  go_enter Try.func34, Try.ntmps34
  go_wp2_with fail
  refine H.out.mono ?_
  rintro e w1 ⟨⟨r, rfl, h1, h2, h3⟩, rfl⟩
  have H3 := Lib.hid h3
  clear h3
  go_wp2
  go_ret
  refine ⟨⟨_, rfl, ?_⟩, rfl⟩
  rw [← H3.out]; simp
def demandsB (n : Nat) (f : Nat → Int) : Prop := 1 ≤ n ∧ n ≤ 8 ∧ ∀ i, i < n → 0 ≤ f i ∧ f i ≤ 1000000
theorem areDemands_any (p : Option Addr) (n c : Nat) (f : Nat → Int) (w : World) (hn : n ≤ maxLen) (hr : ReadsI w p n f) :
    Calls Try.prog 26 #[.slice p n c] w fun e w' => Says e (demandsB n f) ∧ w = w' := by
  have H := Lib.hid (contains_any 37 #[] (fun x => ! unitB x) p n c f w hn hr (enters_of Try.func37 (by kernel_rfl) rfl) (fun x => areDemands1_any x w))
  clear hr
  unfold maxLen at hn
  by_cases h1 : 1 ≤ n
  · by_cases h8 : n ≤ 8
    · go_enter Try.func26, Try.ntmps26
      go_wp2_with fail
      refine H.out.mono ?_
      rintro e w1 ⟨⟨r, rfl, h3⟩, rfl⟩
      have H3 := Lib.hid h3
      clear h3
      go_wp2
      go_ret
      refine ⟨⟨_, rfl, ?_⟩, rfl⟩
      cases r with
      | true => 
        obtain ⟨i, hi, hb⟩ := H3.out.1 rfl
        refine ⟨fun h => absurd h (by simp), fun h => ?_⟩
        rw [unitB_iff.2 (h.2.2 i hi)] at hb; cases hb
      | false =>
        refine ⟨fun _ => ⟨h1, h8, fun i hi => ?_⟩, fun _ => by simp⟩
        cases hb : unitB (f i) with
        | true => exact unitB_iff.1 hb
        | false => exact absurd (H3.out.2 ⟨i, hi, by simp [hb]⟩) (by simp)
    · go_enter Try.func26, Try.ntmps26
      go_wp2
      go_ret
      exact ⟨⟨_, rfl, by simp [demandsB]; omega⟩, rfl⟩
  · obtain rfl : n = 0 := by omega
    go_enter Try.func26, Try.ntmps26
    go_wp2
    go_ret
    exact ⟨⟨_, rfl, by simp [demandsB]⟩, rfl⟩
end Go.Proofs.Ytdodhfodojjfeaa
