/- Package slices: Backward over strings, and over the sides of package digest. Condition: the loop's body goes on in every round. -/
import Derived.Test.YtolhjkbfinlfcaaDoorDigLeft
import Derived.Test.YtolhjkbfinlfcaaDoorShaChunk
namespace Go.Proofs.YtolhjkbfinlfcaaDoor
open Go Go.RowKit Go.Shelf
attribute [local go_sem] Oper.semAt_some
/-- Sides that can be read: a string and whether it is the first part. -/
def ReadsD (W : World) (p : Option Addr) (n : Nat) (F : Nat → ByteArray × Bool) : Prop :=
  ∀ i, i < n → ∃ b off, p = some ⟨b, off, none⟩ ∧ ∀ j, j < n → W.cell? ⟨b, off + j * 2, none⟩ = some (.string (F j).1) ∧ W.cell? ⟨b, off + j * 2 + 1, none⟩ = some (.bool (F j).2)
theorem ReadsD.below {W W' : World} {p : Option Addr} {n : Nat} {F : Nat → ByteArray × Bool} (h : ReadsD W p n F) (hb : Below W.heap.size W W') : ReadsD W' p n F := fun i hi => by
  obtain ⟨b, off, hp, hc⟩ := h i hi
  exact ⟨b, off, hp, fun j hj => ⟨(hb.cell (p := ⟨b, off + j * 2, none⟩) (cell_lt' (hc j hj).1)).trans (hc j hj).1, (hb.cell (p := ⟨b, off + j * 2 + 1, none⟩) (cell_lt' (hc j hj).2)).trans (hc j hj).2⟩⟩
theorem backS_any (p : Option Addr) (n c : Nat) (w : World) :
    Calls Tryd.prog 44 #[.slice p n c] w fun e w' => e = .returned (.func (.func 60) #[] #[.pointer (some ⟨w.heap.size, 0, none⟩)]) ∧ w.alloc (.cells #[.slice p n c] 22) = w' := by
  go_enter Tryd.func44, Tryd.ntmps44
  go_wp2
  go_ret
  exact ⟨rfl, rfl⟩
set_option maxRecDepth 100000 in
set_option maxHeartbeats 4000000 in
theorem backS1_in (fu l S n c : Nat) (p : Option Addr) (F : Nat → ByteArray) (hfu : 1 ≤ fu) (hn : n ≤ 1000000) (J : Nat → World → Prop)
    (hY : ∀ k W, k < n → J (k + 1) W → YieldAt Fence.wide (fu - 1) Tryd.prog l #[.int .i64 (k : Nat), .string (F k)] W fun e W' => e = .returned (.bool true) ∧ J k W')
    (hb : ∀ k W, J k W → W.cell? ⟨S, 0, none⟩ = some (.slice p n c) ∧ ReadsS W p n F)
    (W : World) (h0 : J n W) :
    CallsIn Fence.wide fu Tryd.prog 60 #[.func (.yield l) #[] #[], .pointer (some ⟨S, 0, none⟩)] W fun e W' => (∃ v, e = .returned v) ∧ J 0 W' := by
  have HB := Lib.hid hb
  have HY := Lib.hid hY
  obtain ⟨c1, _⟩ := hb n W h0
  clear hb hY
  refine callsIn_of_wp Tryd.func60 rfl trivial ?_ rfl
  simp only [Tryd.ntmps60, List.size_toArray, List.length_cons, List.length_nil, Nat.reduceAdd, Nat.reduceSub, Array.replicate_succ, Array.replicate_zero, List.push_toArray, List.append_toArray, List.nil_append, List.cons_append]
  gi_wp2_with fail
  gi_loopw [3] (fun i wr => ∃ k : Nat, k ≤ n ∧ i = .int .i64 ((k : Int) - 1) ∧ J k wr) (fun i _ => (intOf i + 1).toNat)
  case atStart => exact ⟨n, by omega, rfl, h0⟩
  case round =>
    obtain ⟨k, hk, rfl, hJ⟩ := hrel
    obtain ⟨c1, hrd⟩ := HB.out k wr hJ
    by_cases hlt : k = 0
    · subst hlt
      rw [show (((0 : Nat) : Int) - 1) = -1 from rfl]
      clear c1 hrd
      gi_wp2
      refine bodyPost_end (results_none rfl _ _ _) rfl ?_
      exact ⟨⟨_, rfl⟩, hJ⟩
    · obtain ⟨j, rfl⟩ : ∃ j, k = j + 1 := ⟨k - 1, by omega⟩
      rw [show (((j + 1 : Nat) : Int) - 1) = (j : Int) by omega]
      obtain ⟨b, o, rfl, hc⟩ := hrd j (by omega)
      have e1 := hc j (by omega)
      have v0 : (0 : Int) ≤ (j : Int) := by omega
      have v1 : (j : Int) < (n : Int) := by omega
      obtain ⟨fn, tmps, assign, body, hy1, hR⟩ := HY.out j wr (by omega) hJ
      clear hc
      gi_wp2_with fail
      refine hR.mono ?_
      rintro e W3 ⟨rfl, hJ3⟩
      clear c1 hy1 hR e1
      gi_wp2_with fail
      go_roundw
      case rel => exact ⟨j, by omega, by go_num, hJ3⟩
      case measure => simp [intOf]
theorem backD_any (p : Option Addr) (n c : Nat) (w : World) :
    Calls Tryd.prog 47 #[.slice p n c] w fun e w' => e = .returned (.func (.func 63) #[] #[.pointer (some ⟨w.heap.size, 0, none⟩)]) ∧ w.alloc (.cells #[.slice p n c] 54) = w' := by
  go_enter Tryd.func47, Tryd.ntmps47
  go_wp2
  go_ret
  exact ⟨rfl, rfl⟩
set_option maxRecDepth 100000 in
set_option maxHeartbeats 4000000 in
theorem backD1_in (fu l S n c : Nat) (p : Option Addr) (F : Nat → ByteArray × Bool) (hfu : 1 ≤ fu) (hn : n ≤ 1000000) (J : Nat → World → Prop)
    (hY : ∀ k W, k < n → J (k + 1) W → YieldAt Fence.wide (fu - 1) Tryd.prog l #[.int .i64 (k : Nat), .agg #[.string (F k).1, .bool (F k).2]] W fun e W' => e = .returned (.bool true) ∧ J k W')
    (hb : ∀ k W, J k W → W.cell? ⟨S, 0, none⟩ = some (.slice p n c) ∧ ReadsD W p n F)
    (W : World) (h0 : J n W) :
    CallsIn Fence.wide fu Tryd.prog 63 #[.func (.yield l) #[] #[], .pointer (some ⟨S, 0, none⟩)] W fun e W' => (∃ v, e = .returned v) ∧ J 0 W' := by
  have HB := Lib.hid hb
  have HY := Lib.hid hY
  obtain ⟨c1, _⟩ := hb n W h0
  clear hb hY
  refine callsIn_of_wp Tryd.func63 rfl trivial ?_ rfl
  simp only [Tryd.ntmps63, List.size_toArray, List.length_cons, List.length_nil, Nat.reduceAdd, Nat.reduceSub, Array.replicate_succ, Array.replicate_zero, List.push_toArray, List.append_toArray, List.nil_append, List.cons_append]
  gi_wp2_with fail
  gi_loopw [3] (fun i wr => ∃ k : Nat, k ≤ n ∧ i = .int .i64 ((k : Int) - 1) ∧ J k wr) (fun i _ => (intOf i + 1).toNat)
  case atStart => exact ⟨n, by omega, rfl, h0⟩
  case round =>
    obtain ⟨k, hk, rfl, hJ⟩ := hrel
    obtain ⟨c1, hrd⟩ := HB.out k wr hJ
    by_cases hlt : k = 0
    · subst hlt
      rw [show (((0 : Nat) : Int) - 1) = -1 from rfl]
      clear c1 hrd
      gi_wp2
      refine bodyPost_end (results_none rfl _ _ _) rfl ?_
      exact ⟨⟨_, rfl⟩, hJ⟩
    · obtain ⟨j, rfl⟩ : ∃ j, k = j + 1 := ⟨k - 1, by omega⟩
      rw [show (((j + 1 : Nat) : Int) - 1) = (j : Int) by omega]
      obtain ⟨b, o, rfl, hc⟩ := hrd j (by omega)
      have e1 := hc j (by omega)
      have v0 : (0 : Int) ≤ (j : Int) := by omega
      have v1 : (j : Int) < (n : Int) := by omega
      obtain ⟨fn, tmps, assign, body, hy1, hR⟩ := HY.out j wr (by omega) hJ
      obtain ⟨e1, e2⟩ := e1
      clear hc
      gi_wp2_with fail
      refine hR.mono ?_
      rintro e W3 ⟨rfl, hJ3⟩
      clear c1 hy1 hR e1
      gi_wp2_with fail
      go_roundw
      case rel => exact ⟨j, by omega, by go_num, hJ3⟩
      case measure => simp [intOf]
end Go.Proofs.YtolhjkbfinlfcaaDoor
