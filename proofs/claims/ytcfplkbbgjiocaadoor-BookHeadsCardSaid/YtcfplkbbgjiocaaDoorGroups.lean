/- Package wire: the iterator over a number's groups of seven bits. Condition: the loop's body goes on in every round and keeps the iterator's variable. -/
import Derived.Test.YtcfplkbbgjiocaaDoorProg
import Derived.Test.YtcfplkbbgjiocaaDoorIter
import Derived.Test.YtcfplkbbgjiocaaDoorBits
import Derived.Shelf.Abstract
import Derived.Shelf.RegionOpen
import Derived.WalkKit
import Derived.OwnWalkIn
import Derived.TacticsInMore
import Derived.LoopNIn
import Derived.LoopIn
import Derived.IntWalk
import Derived.Lib.Hide
import Derived.Maps.AppendAt
namespace Go.Proofs.YtcfplkbbgjiocaaDoor
open Go Go.RowKit Go.Shelf
attribute [local go_sem] Oper.semAt_some

theorem groups_any (z : Int) (w : World) :
    Calls Tryd.prog 47 #[.int .u64 z] w fun e w' => e = .returned (.func (.func 61) #[] #[.pointer (some ⟨w.heap.size, 0, none⟩)]) ∧ w.alloc (.cells #[.int .u64 z] 94) = w' := by
  go_enter Tryd.func47, Tryd.ntmps47
  go_wp2
  go_ret
  exact ⟨rfl, rfl⟩

set_option maxHeartbeats 1000000 in
theorem groups1_in (n l Bz : Nat) (hn : 1 ≤ n) (J Jn : Nat → World → Prop)
    (hY : ∀ y W, J y W → Boxed W Bz 94 (.int .u64 (y : Nat)) → y < 18446744073709551616 →
      YieldAt Fence.wide (n - 1) Tryd.prog l #[.int .u8 ((y % 128 : Nat) : Int), .bool (decide ((y : Int) < 128))] W fun e W' => e = .returned (.bool true) ∧ Jn y W' ∧ Boxed W' Bz 94 (.int .u64 (y : Nat)))
    (hset : ∀ y W, Jn y W → Boxed W Bz 94 (.int .u64 (y : Nat)) → 128 ≤ y → J (y / 128) (W.setCell ⟨Bz, 0, none⟩ (.int .u64 ((y / 128 : Nat) : Int))))
    (z : Nat) (hz : z < 18446744073709551616) (W : World) (h0 : J z W) (hb : Boxed W Bz 94 (.int .u64 (z : Nat))) :
    CallsIn Fence.wide n Tryd.prog 61 #[.func (.yield l) #[] #[], .pointer (some ⟨Bz, 0, none⟩)] W fun e W' => (∃ v, e = .returned v) ∧ ∃ y, y < 128 ∧ Jn y W' := by
  refine callsIn_of_wp Tryd.func61 rfl trivial ?_ rfl
  simp only [Tryd.ntmps61, List.size_toArray, List.length_cons, List.length_nil, Nat.reduceAdd, Nat.reduceSub, Array.replicate_succ, Array.replicate_zero, List.push_toArray, List.append_toArray, List.nil_append, List.cons_append]
  gi_wp2
  gi_loopw [] (fun wr => ∃ y : Nat, y < 18446744073709551616 ∧ J y wr ∧ Boxed wr Bz 94 (.int .u64 (y : Nat)))
    (fun wr => match wr.cell? ⟨Bz, 0, none⟩ with | some v => (intOf v).toNat | none => 0)
  case atStart => exact ⟨z, hz, h0, hb⟩
  case round =>
    obtain ⟨y, hy, hJ, hB⟩ := hrel
    have hc := hB.cell
    have hf := hB.frozen
    have e1 : ((y % 128 : Nat) : Int) = bits BinOp.and .u64 y 127 % 256 := by rw [and127_u64 y hy]; omega
    obtain ⟨fn, tmps, assign, body, hy1, hR⟩ := hY y wr hJ hB hy
    rw [e1] at hy1
    clear e1
    by_cases hlt : (y : Int) < 128
    · have hd : decide ((y : Int) < 128) = true := by simpa using hlt
      rw [hd] at hy1
      gi_wp2
      refine hR.mono ?_
      rintro e W3 ⟨rfl, hJ3, hB3⟩
      gi_wp2
      refine bodyPost_ret (results_none rfl _ _ _) rfl ?_
      exact ⟨⟨_, rfl⟩, y, by omega, hJ3⟩
    · have hd : decide ((y : Int) < 128) = false := by simpa using hlt
      rw [hd] at hy1
      gi_wp2
      refine hR.mono ?_
      rintro e W3 ⟨rfl, hJ3, hB3⟩
      have hc3 := hB3.cell
      have hf3 := hB3.frozen
      gi_wp2
      go_roundw
      case rel =>
        have := hset y W3 hJ3 hB3 (by omega)
        exact ⟨y / 128, by omega, this, hB3.set _⟩
      case measure => 
        rw [hc, (hB3.set _).cell]
        simp [intOf]
        omega
end Go.Proofs.YtcfplkbbgjiocaaDoor
