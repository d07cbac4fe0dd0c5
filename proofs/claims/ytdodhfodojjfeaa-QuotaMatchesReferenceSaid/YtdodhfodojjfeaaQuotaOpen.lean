/- Package quota: the number of open tenants, by circled and fold. Conditions: slices that can be read. -/
import Derived.Test.YtdodhfodojjfeaaQuotaUnits
import Derived.Test.YtdodhfodojjfeaaOwn
import Derived.Test.YtdodhfodojjfeaaIter
import Derived.Maps.AppendAt
namespace Go.Proofs.Ytdodhfodojjfeaa
open Go Go.RowKit Go.Shelf
theorem Try.info4 : (Try.prog.info? 4).map (fun i => (i.zero, i.size, i.bytes)) = some (some (.bool false), 1, 1) := by kernel_rfl
theorem ReadsI.below {w w' : World} {p : Option Addr} {n : Nat} {f : Nat → Int} (h : ReadsI w p n f) (hb : Below w.heap.size w w') : ReadsI w' p n f := by
  intro i hi
  obtain ⟨b, off, rfl, hc⟩ := h i hi
  refine ⟨b, off, rfl, fun j hj => ?_⟩
  have h0 := hc j hj
  have hlt : b < w.heap.size := by
    unfold World.cell? at h0
    cases hb : w.heap[b]? with
    | none => simp [hb] at h0
    | some o => exact (Array.getElem?_eq_some_iff.1 hb).1
  exact (hb.cell (p := ⟨b, off + j, none⟩) hlt).trans h0
set_option maxHeartbeats 1000000 in
theorem circled_any (p q : Option Addr) (n c d : Nat) (f g : Nat → Int) (w : World) (hn : n ≤ 8) (hp : ReadsI w p n f) (hq : ReadsI w q n g) :
    Calls Try.prog 29 #[.slice p n c, .slice q n d] w fun e w' =>
      (∃ v, e = .returned v ∧ w'.ownsRow w.heap.size 4 1 v n ((List.range n).map fun i => .bool (decide (f i < g i)))) ∧ Below w.heap.size w w' := by
  have HP := Lib.hid hp
  have HQ := Lib.hid hq
  clear hp hq
  obtain ⟨i0, hi, hz0, hz1, hz2⟩ := info_parts Try.info4
  go_enter Try.func29, Try.ntmps29
  go_wp2_with fail
  go_loopw [5, 10] (fun v i wr => ∃ k : Nat, k ≤ n ∧ i = .int .i64 k ∧ wr.ownsRow w.heap.size 4 1 v k ((List.range k).map fun i => .bool (decide (f i < g i))) ∧ Below w.heap.size w wr) (fun _ i _ => n - (intOf i).toNat)
  case atStart => exact ⟨0, by omega, rfl, World.ownsRow_nil _ _ _ _, Below.refl _ _⟩
  case round =>
    obtain ⟨k, hk, rfl, hrow, hB⟩ := hrel
    by_cases hlt : k < n
    · obtain ⟨bl, ol, rfl, hcl⟩ := (HP.out.below hB) k hlt
      obtain ⟨bt, ot, rfl, hct⟩ := (HQ.out.below hB) k hlt
      have c1 := hcl k hlt
      have c2 := hct k hlt
      clear hcl hct
      go_wp2_with (at_builtin; refine wpList_append_own _ rfl _ _ 52 rfl w.heap.size 4 i0 (.bool false) 1 1 Try.underlying52 hi hz0 hz1 hz2 rfl (by decide) _ _ _ rfl (hrow.alloc _) ⟨wr.heap.size, 0, none⟩ 1 1 [.bool _] rfl rfl (cell_one_new _ _ _) (by simp [Value.oneCell']) (by unfold maxLen; omega) (by omega) (by have := hB.size; simp; omega) ?_; intro v' w1 hown' hgrow _; obtain ⟨g', cap', rfl⟩ := ownsRow_succ hown')
      have hbb := own_grown_below hB.size hB hrow hgrow
      refine ⟨⟨k + 1, by omega, by go_num, ?_, hbb⟩, by simp [intOf]; omega⟩
      rw [List.range_succ, List.map_append]
      simpa using hown'
    · obtain rfl : k = n := by omega
      go_wp2
      go_ret
      exact ⟨⟨_, rfl, hrow⟩, hB⟩
theorem fold1_any (s : Int) (b : Bool) (w : World) (h1 : 0 ≤ s) (h2 : s ≤ 1000000) :
    Calls Try.prog 30 #[.int .i64 s, .bool b] w fun e w' => e = .returned (.int .i64 (s + if b then 1 else 0)) ∧ w = w' := by
  cases b with
  | true =>
    go_enter Try.func30, Try.ntmps30
    go_wp2
    go_ret
    exact ⟨by simp [Array.getD], rfl⟩
  | false =>
    go_enter Try.func30, Try.ntmps30
    go_wp2
    go_ret
    exact ⟨by simp [Array.getD], rfl⟩
/-- How many of the first k indices a test holds at. -/
def countB (t : Nat → Bool) : Nat → Nat
  | 0 => 0
  | k + 1 => countB t k + if t k then 1 else 0
theorem countB_le (t : Nat → Bool) : ∀ k, countB t k ≤ k
  | 0 => Nat.le_refl _
  | k + 1 => by have := countB_le t k; simp only [countB]; split <;> omega
set_option maxHeartbeats 1000000 in
theorem fold_any (p : Option Addr) (n c : Nat) (t : Nat → Bool) (w : World) (hn : n ≤ 8)
    (hp : ∀ i, i < n → ∃ b off, p = some ⟨b, off, none⟩ ∧ ∀ j, j < n → w.cell? ⟨b, off + j, none⟩ = some (.bool (t j))) :
    Calls Try.prog 28 #[.slice p n c, .int .i64 0, .func (.func 30) #[] #[]] w fun e w' => e = .returned (.int .i64 (countB t n : Nat)) ∧ w = w' := by
  have HP := Lib.hid hp
  clear hp
  go_enter Try.func28, Try.ntmps28
  go_wp2_with fail
  go_loopw [1, 11] (fun v i wr => ∃ k : Nat, k ≤ n ∧ i = .int .i64 k ∧ v = .int .i64 (countB t k : Nat) ∧ w = wr) (fun _ i _ => n - (intOf i).toNat)
  case atStart => exact ⟨0, by omega, rfl, rfl, rfl⟩
  case round =>
    obtain ⟨k, hk, rfl, rfl, rfl⟩ := hrel
    have hcl := countB_le t k
    by_cases hlt : k < n
    · obtain ⟨b, off, rfl, hc⟩ := HP.out k hlt
      have c1 := hc k hlt
      clear hc
      go_wp2_with fail
      refine (fold1_any _ (t k) _ (by omega) (by omega)).mono ?_
      rintro e w1 ⟨rfl, rfl⟩
      go_wp2
      go_roundw
      case rel => exact ⟨k + 1, by omega, by go_num, by simp only [countB]; split <;> go_num, trivial⟩
      case measure => simp [intOf]; omega
    · obtain rfl : k = n := by omega
      go_wp2
      go_ret
      exact ⟨rfl, rfl⟩
set_option maxHeartbeats 1000000 in
theorem open_any (B C : Nat) (p q : Option Addr) (n c d : Nat) (f g : Nat → Int) (w : World) (hn : n ≤ 8) (hB : Boxed w B 22 (.slice p n c)) (hC : Boxed w C 22 (.slice q n d)) (hp : ReadsI w p n f) (hq : ReadsI w q n g) :
    Calls Try.prog 27 #[.pointer (some ⟨B, 0, none⟩), .pointer (some ⟨C, 0, none⟩)] w fun e w' => e = .returned (.int .i64 (countB (fun i => decide (f i < g i)) n : Nat)) ∧ Below w.heap.size w w' := by
  have H := Lib.hid (circled_any p q n c d f g w hn hp hq)
  clear hp hq
  have c1 := hB.cell
  have c2 := hC.cell
  clear hB hC
  go_enter Try.func27, Try.ntmps27
  go_wp2_with fail
  refine H.out.mono ?_
  rintro e w1 ⟨⟨v, rfl, hrow⟩, hB1⟩
  have hcells : ∃ r k, v = .slice r n k ∧ ∀ i, i < n → ∃ b off, r = some ⟨b, off, none⟩ ∧ ∀ j, j < n → w1.cell? ⟨b, off + j, none⟩ = some (.bool (decide (f j < g j))) := by
    have hrow2 := hrow
    rcases hrow.2 with ⟨rfl, h0⟩ | ⟨b, cap, cur, rfl, _, _, _⟩
    · exact ⟨none, 0, by rw [h0], fun i hi => by omega⟩
    · refine ⟨_, _, rfl, fun i hi => ⟨b, 0, rfl, fun j hj => ?_⟩⟩
      have := hrow2.cells (g := b) rfl j (.bool (decide (f j < g j))) (by simp [hj])
      rwa [addr_add] at this
  obtain ⟨r, k, rfl, hc⟩ := hcells
  have HC := Lib.hid hc
  clear hc hrow c1 c2
  go_wp2_with fail
  refine (fold_any r n k _ w1 hn HC.out).mono ?_
  rintro e w2 ⟨rfl, rfl⟩
  go_wp2
  go_ret
  exact ⟨rfl, hB1⟩
end Go.Proofs.Ytdodhfodojjfeaa
