/- Package quota: the circle of tenants. Condition: the loop's body goes on in every round. -/
import Derived.Test.YtdodhfodojjfeaaQuotaOpen
import Derived.TacticsInMore
import Derived.LoopNIn
import Derived.LoopIn
namespace Go.Proofs.Ytdodhfodojjfeaa
open Go Go.RowKit Go.Shelf
attribute [local go_sem] Oper.semAt_some
theorem circle_any (a b : Int) (w : World) :
    Calls Try.prog 31 #[.int .i64 a, .int .i64 b] w fun e w' => e = .returned (.func (.func 38) #[] #[.pointer (some ⟨w.heap.size + 1, 0, none⟩), .pointer (some ⟨w.heap.size, 0, none⟩)]) ∧ (w.alloc (.cells #[.int .i64 a] 3)).alloc (.cells #[.int .i64 b] 3) = w' := by
  go_enter Try.func31, Try.ntmps31
  go_wp2
  go_ret
  exact ⟨rfl, rfl⟩
set_option maxHeartbeats 1000000 in
theorem circle1_in (fu l Bn Bt t m : Nat) (hn : 1 ≤ fu) (hm : m ≤ 8) (ht : t < 1000000) (J : Nat → World → Prop)
    (hY : ∀ k W, k < m → J k W → YieldAt Fence.wide (fu - 1) Try.prog l #[.int .i64 (((t : Int) + (k : Int)) % (m : Int))] W fun e W' => e = .returned (.bool true) ∧ J (k + 1) W')
    (hb : ∀ k W, J k W → W.cell? ⟨Bn, 0, none⟩ = some (.int .i64 (m : Nat)) ∧ W.cell? ⟨Bt, 0, none⟩ = some (.int .i64 (t : Nat)))
    (W : World) (h0 : J 0 W) :
    CallsIn Fence.wide fu Try.prog 38 #[.func (.yield l) #[] #[], .pointer (some ⟨Bn, 0, none⟩), .pointer (some ⟨Bt, 0, none⟩)] W fun e W' => (∃ v, e = .returned v) ∧ J m W' := by
  obtain ⟨c1, c2⟩ := hb 0 W h0
  refine callsIn_of_wp Try.func38 rfl trivial ?_ rfl
  simp only [Try.ntmps38, List.size_toArray, List.length_cons, List.length_nil, Nat.reduceAdd, Nat.reduceSub, Array.replicate_succ, Array.replicate_zero, List.push_toArray, List.append_toArray, List.nil_append, List.cons_append]
  gi_wp2
  gi_loopw [6] (fun i wr => ∃ k : Nat, k ≤ m ∧ i = .int .i64 k ∧ J k wr) (fun i _ => m - (intOf i).toNat)
  case atStart => exact ⟨0, by omega, rfl, h0⟩
  case round =>
    obtain ⟨k, hk, rfl, hJ⟩ := hrel
    obtain ⟨c1, c2⟩ := hb k wr hJ
    by_cases hlt : k < m
    · obtain ⟨fn, tmps, assign, body, hy1, hR⟩ := hY k wr hlt hJ
      gi_wp2
      refine hR.mono ?_
      rintro e W3 ⟨rfl, hJ3⟩
      gi_wp2
      go_roundw
      case rel => exact ⟨k + 1, by omega, by go_num, hJ3⟩
      case measure => simp [intOf]; omega
    · obtain rfl : k = m := by omega
      gi_wp2
      refine bodyPost_end (results_none rfl _ _ _) rfl ?_
      exact ⟨⟨_, rfl⟩, hJ⟩
end Go.Proofs.Ytdodhfodojjfeaa
