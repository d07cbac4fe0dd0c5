/- The reference's PutInt: the bytes of the zigzag number, or an error. Condition: the number is one of 64 bits. -/
import Derived.Test.YtcfplkbbgjiocaaDoorProg
import Derived.Test.YtcfplkbbgjiocaaDoorIntSpec
import Derived.Test.YtcfplkbbgjiocaaDoorWireSpec
import Derived.Test.YtcfplkbbgjiocaaDoorOwn
import Derived.WalkKit
import Derived.IntWalk
import Derived.Lib.Hide
import Derived.Maps.AppendAt
namespace Go.Proofs.YtcfplkbbgjiocaaDoor
open Go Go.RowKit
theorem Tryd.info5r : (Tryd.prog.info? 5).map (fun i => (i.zero, i.size, i.bytes)) = some (some (.int .u8 0), 1, 1) := by kernel_rfl
set_option maxHeartbeats 400000 in
theorem zigzag_any (n : Int) (h1 : -4611686018427387903 ≤ n) (h2 : n ≤ 4611686018427387903) (w : World) :
    Calls Tryd.prog 49 #[.int .i64 n] w fun e w' => e = .returned (.int .u64 (zig n : Nat)) ∧ w = w' := by
  by_cases h : n < 0
  · have e : (zig n : Int) = -n * 2 - 1 := by unfold zig; rw [if_pos h]; omega
    rw [e]
    clear e
    go_enter Tryd.func49, Tryd.ntmps49
    go_wp2
    go_ret
    exact ⟨rfl, rfl⟩
  · have e : (zig n : Int) = n * 2 := by unfold zig; rw [if_neg h]; omega
    rw [e]
    clear e
    have h' : 0 ≤ n := by omega
    go_enter Tryd.func49, Tryd.ntmps49
    go_wp2
    go_ret
    exact ⟨rfl, rfl⟩
set_option maxRecDepth 100000 in
set_option maxHeartbeats 1000000 in
theorem refPutInt_ok (n : Int) (h1 : -4611686018427387903 ≤ n) (h2 : n ≤ 4611686018427387903) (w : World) :
    Calls Tryd.prog 28 #[.int .i64 n] w fun e w' => e = .returned (.tuple #[.string ⟨(vbytes (zig n)).toArray⟩, .int .i64 0]) ∧ Below w.heap.size w w' := by
  have hz := zig_lt (n := n) (by omega) h2
  obtain ⟨i0, hi, hz0, hz1, hz2⟩ := info_parts Tryd.info5r
  obtain ⟨z, hzz⟩ : ∃ z, zig n = z := ⟨_, rfl⟩
  have HZ := Lib.hid hzz
  rw [hzz] at hz ⊢
  clear hzz
  go_enter Tryd.func28, Tryd.ntmps28
  go_wp2_with (go_at_call 49; refine (zigzag_any n h1 h2 _).mono ?_; rintro e w' ⟨rfl, rfl⟩; rw [HZ.out])
  go_loopw [4, 5] (fun y v wr => ∃ (y0 : Nat) (pre : List UInt8), y = .int .u64 y0 ∧ y0 < 18446744073709551616 ∧ pre ++ vbytes y0 = vbytes z ∧ wr.ownsRow w.heap.size 5 1 v pre.length (pre.map u8v) ∧ Below w.heap.size w wr)
    (fun y _ _ => (intOf y).toNat)
  case atStart => exact ⟨z, [], rfl, by omega, by simp, World.ownsRow_nil _ _ _ _, Below.refl _ _⟩
  case round =>
    obtain ⟨y0, pre, rfl, hy0, he, hrow, hB⟩ := hrel
    have hst := put_step hy0 he
    have hl := hst.2.2
    have HST := Lib.hid hst
    clear hst he
    by_cases hlt : y0 < 128
    · go_wp2_with (at_builtin; refine wpList_append_own _ rfl _ _ 57 rfl w.heap.size 5 i0 (.int .u8 0) 1 1 Tryd.underlying57 hi hz0 hz1 hz2 rfl (by decide) _ _ _ rfl (hrow.alloc _) ⟨wr.heap.size, 0, none⟩ 1 1 [.int .u8 _] rfl rfl (cell_one_new _ _ _) (by simp [Value.oneCell']) (by unfold maxLen; omega) (by omega) (by have := hB.size; simp; omega) ?_; intro v' w1 hown' hgrow _; obtain ⟨g', cap', rfl⟩ := ownsRow_succ hown'; have hcv := own_bytes_string (P := Tryd.prog) (W := w1) (base := w.heap.size) (e := 5) (v := .slice (some ⟨g', 0, none⟩) (pre.length + 1) cap') (l := pre ++ [UInt8.ofNat y0]) (by rw [u8v_snoc pre _ (y0 : Int) (by simp; omega)]; simpa using hown') 57 Tryd.underlying57 Tryd.underlying5 9 Tryd.underlying9)
      have hbb := own_grown_below hB.size hB hrow hgrow
      have hfin := HST.out.1 hlt
      rw [Nat.mod_eq_of_lt hlt] at hfin
      go_ret2
      exact ⟨by rw [← hfin]; simp, hbb⟩
    · go_wp2_with (at_builtin; refine wpList_append_own _ rfl _ _ 57 rfl w.heap.size 5 i0 (.int .u8 0) 1 1 Tryd.underlying57 hi hz0 hz1 hz2 rfl (by decide) _ _ _ rfl (hrow.alloc _) ⟨wr.heap.size, 0, none⟩ 1 1 [.int .u8 _] rfl rfl (cell_one_new _ _ _) (by simp [Value.oneCell']) (by unfold maxLen; omega) (by omega) (by have := hB.size; simp; omega) ?_; intro v' w1 hown' hgrow _; obtain ⟨g', cap', rfl⟩ := ownsRow_succ hown')
      have hbb := own_grown_below hB.size hB hrow hgrow
      refine ⟨⟨y0 / 128, pre ++ [UInt8.ofNat (y0 % 128 + 128)], by go_num, by omega, HST.out.2.1 hlt, ?_, hbb⟩, by simp [intOf]; omega⟩
      rw [u8v_snoc pre _ ((y0 : Int) % 128 + 128) (by simp; omega)]
      simpa using hown'
set_option maxHeartbeats 400000 in
theorem refPutInt_bad (n : Int) (hn : n < -4611686018427387903 ∨ 4611686018427387903 < n) (w : World) :
    Calls Tryd.prog 28 #[.int .i64 n] w fun e w' => e = .returned (.tuple #[.string ⟨#[]⟩, .int .i64 10]) ∧ w = w' := by
  rcases hn with h | h
  · go_enter Tryd.func28, Tryd.ntmps28
    go_wp2
    go_ret2
    exact ⟨rfl, rfl⟩
  · have h' : ¬ n < -4611686018427387903 := by omega
    go_enter Tryd.func28, Tryd.ntmps28
    go_wp2
    go_ret2
    exact ⟨rfl, rfl⟩
end Go.Proofs.YtcfplkbbgjiocaaDoor
