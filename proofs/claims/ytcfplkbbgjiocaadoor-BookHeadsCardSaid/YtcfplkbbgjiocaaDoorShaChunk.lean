/- Package slices: Chunk over bytes, 64 at a time. Condition: the loop's body goes on in every round. -/
import Derived.Test.YtcfplkbbgjiocaaDoorShaRow
import Derived.Test.YtcfplkbbgjiocaaDoorIter
import Derived.Shelf.Abstract
import Derived.Shelf.RegionOpen
import Derived.WalkKit
import Derived.OwnWalkIn
import Derived.TacticsInMore
import Derived.LoopNIn
import Derived.LoopIn
import Derived.IntWalk
import Derived.Lib.Hide
import Derived.Maps.AppendAt
import Derived.RangeFuncBox
namespace Go.Proofs.YtcfplkbbgjiocaaDoor
open Go Go.RowKit Go.Shelf
attribute [local go_sem] Oper.semAt_some
theorem chunk_any (p : Option Addr) (n c : Nat) (w : World) :
    Calls Tryd.prog 73 #[.slice p n c, .int .i64 64] w fun e w' => e = .returned (.func (.func 76) #[] #[.pointer (some ⟨w.heap.size, 0, none⟩), .pointer (some ⟨w.heap.size + 1, 0, none⟩)]) ∧ (w.alloc (.cells #[.slice p n c] 57)).alloc (.cells #[.int .i64 64] 3) = w' := by
  go_enter Tryd.func73, Tryd.ntmps73
  go_wp2
  go_ret
  exact ⟨rfl, rfl⟩
theorem add_none (g k : Nat) : (⟨g, 0, none⟩ : Addr).add k = ⟨g, k, none⟩ := by unfold Addr.add; split <;> simp_all
set_option maxRecDepth 100000 in
set_option maxHeartbeats 4000000 in
theorem chunk1_in (fu l S g cap N : Nat) (hfu : 1 ≤ fu) (hcap : 64 * N ≤ cap) (hN : N ≤ 10000) (hcm : cap ≤ maxLen) (J : Nat → World → Prop)
    (hY : ∀ k W, k < N → J k W → YieldAt Fence.wide (fu - 1) Tryd.prog l #[.slice (some ⟨g, 64 * k, none⟩) 64 64] W fun e W' => e = .returned (.bool true) ∧ J (k + 1) W')
    (hJ : ∀ k W, J k W → J k W.drew)
    (hb : ∀ k W, J k W → W.cell? ⟨S, 0, none⟩ = some (.slice (some ⟨g, 0, none⟩) (64 * N) cap) ∧ W.cell? ⟨S + 1, 0, none⟩ = some (.int .i64 64))
    (W : World) (h0 : J 0 W) :
    CallsIn Fence.wide fu Tryd.prog 76 #[.func (.yield l) #[] #[], .pointer (some ⟨S, 0, none⟩), .pointer (some ⟨S + 1, 0, none⟩)] W fun e W' => (∃ v, e = .returned v) ∧ J N W' := by
  have HB := Lib.hid hb
  have HY := Lib.hid hY
  have HJ := Lib.hid hJ
  have HCM := Lib.hid hcm
  obtain ⟨c1, c2⟩ := hb 0 W h0
  clear hb hY hJ hcm
  refine callsIn_of_wp Tryd.func76 rfl trivial ?_ rfl
  simp only [Tryd.ntmps76, List.size_toArray, List.length_cons, List.length_nil, Nat.reduceAdd, Nat.reduceSub, Array.replicate_succ, Array.replicate_zero, List.push_toArray, List.append_toArray, List.nil_append, List.cons_append]
  gi_wp2_with fail
  gi_loopw [4] (fun i wr => ∃ k o : Nat, k ≤ N ∧ o = 64 * k ∧ i = .int .i64 o ∧ J k wr) (fun i _ => 64 * N - (intOf i).toNat)
  case atStart => exact ⟨0, 0, by omega, by omega, rfl, h0⟩
  case round =>
    obtain ⟨k, o, hk, ho, rfl, hJ⟩ := hrel
    obtain ⟨M, hM⟩ : ∃ M : Nat, M = 64 * N := ⟨_, rfl⟩
    obtain ⟨c1, c2⟩ := HB.out k wr hJ
    rw [← hM] at c1
    by_cases hlt : k < N
    · obtain ⟨fn, tmps, assign, body, hy1, hR⟩ := HY.out k wr.drew hlt (HJ.out k wr hJ)
      rw [← ho] at hy1
      have v0 : (0 : Int) ≤ (o : Int) := by omega
      have v1 : (o : Int) < (M : Int) := by omega
      have v2 : (o : Int) ≤ (M : Int) := by omega
      have v3 : (o : Int) ≤ (cap : Int) := by omega
      obtain ⟨R, hR1, hR2⟩ : ∃ R : Nat, M - o = R ∧ 64 ≤ R := ⟨_, rfl, by omega⟩
      have g1 : IntKind.i64.wrap ((o : Int) + 64) = ((o + 64 : Nat) : Int) := by rw [IntWalk.i64_in _ (by omega)]; omega
      have v4 : (o : Int) ≤ ((o + 64 : Nat) : Int) := by omega
      have v5 : ((o + 64 : Nat) : Int) ≤ (cap : Int) := by omega
      have v6 : ¬ (R : Int) < 64 := by omega
      have v7 : (64 : Int) ≤ (R : Int) := by omega
      have HO := Lib.hid ho
      have HM := Lib.hid hM
      have l63 : o + 64 - o = 64 := by omega
      have m1 : (if (R : Int) < 64 then (R : Int) else 64) = 64 := if_neg (by omega)
      have m2 : (if (64 : Int) < (R : Int) then (64 : Int) else (R : Int)) = 64 := by split <;> omega
      have m3 : (if (64 : Int) ≤ (R : Int) then (64 : Int) else (R : Int)) = 64 := by split <;> omega
      clear ho hM
      gi_wp2_with fail
      gi_region
      all_goals (try gi_wp2_with fail)
      refine hR.mono ?_
      rintro e W3 ⟨rfl, hJ3⟩
      obtain ⟨e1, e2⟩ := HB.out (k + 1) W3 hJ3
      clear c1 c2 hy1 hR e1
      gi_wp2_with fail
      go_roundw
      case rel => exact ⟨k + 1, o + 64, by omega, by have := HO.out; omega, by go_num, hJ3⟩
      case measure => have := HO.out; simp [intOf]; omega
    · obtain rfl : k = N := by omega
      have v1 : ¬ (o : Int) < (M : Int) := by omega
      clear c2
      gi_wp2
      refine bodyPost_end (results_none rfl _ _ _) rfl ?_
      exact ⟨⟨_, rfl⟩, hJ⟩
end Go.Proofs.YtcfplkbbgjiocaaDoor
