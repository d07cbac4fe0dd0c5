/- Package wire: PutInt returns the bytes of the zigzag number, or an error. Condition: the number is one of 64 bits. -/
import Derived.Test.YtcfplkbbgjiocaaDoorGroups
import Derived.Test.YtcfplkbbgjiocaaDoorWireSpec
import Derived.Test.YtcfplkbbgjiocaaDoorOwn
namespace Go.Proofs.YtcfplkbbgjiocaaDoor
open Go Go.RowKit Go.Shelf
attribute [local go_sem] Oper.semAt_some

theorem Tryd.info5 : (Tryd.prog.info? 5).map (fun i => (i.zero, i.size, i.bytes)) = some (some (.int .u8 0), 1, 1) := by kernel_rfl

/-- Between two rounds. -/
def PutJ (w : World) (D l : Nat) (r : Loop) (z : Nat) (y : Nat) (W : World) : Prop :=
  ∃ (pre : List UInt8) (v : Value), pre.length ≤ 10 ∧ pre ++ vbytes y = vbytes z ∧ Boxed W w.heap.size 57 v ∧ W.ownsRow w.heap.size 5 1 v pre.length (pre.map u8v) ∧ Below w.heap.size w W ∧ LoopAt W D l r .ready none
/-- Behind a round. -/
def PutJn (w : World) (D l : Nat) (r : Loop) (z : Nat) (y : Nat) (W : World) : Prop :=
  ∃ (pre : List UInt8) (v : Value), pre.length ≤ 10 ∧ (pre ++ if y < 128 then [] else vbytes (y / 128)) = vbytes z ∧ Boxed W w.heap.size 57 v ∧ W.ownsRow w.heap.size 5 1 v pre.length (pre.map u8v) ∧ Below w.heap.size w W ∧ LoopAt W D l r .ready none

/-- What a round leaves. -/
def PutOn (w : World) (z : Nat) (y : Nat) (W : World) : Prop :=
  ∃ (pre : List UInt8) (v : Value), pre.length ≤ 10 ∧ (pre ++ if y < 128 then [] else vbytes (y / 128)) = vbytes z ∧ Boxed W w.heap.size 57 v ∧ W.ownsRow w.heap.size 5 1 v pre.length (pre.map u8v) ∧ Below w.heap.size w W ∧ Boxed W (w.heap.size + 1) 94 (.int .u64 (y : Nat))

set_option maxRecDepth 100000 in
set_option maxHeartbeats 1000000 in
theorem putInt_in (n : Int) (h1 : -4611686018427387903 ≤ n) (h2 : n ≤ 4611686018427387903) 
    (w : World) :
    CallsIn Fence.wide 5 Tryd.prog 25 #[.int .i64 n] w fun e w' => e = .returned (.tuple #[.string ⟨(vbytes (zig n)).toArray⟩, .int .i64 0]) ∧ Below w.heap.size w w' := by
  have hz := zig_lt (n := n) (by omega) h2
  refine callsIn_of_wp_marks Tryd.func25 rfl trivial ?_ rfl
  simp only [Tryd.ntmps25, List.size_toArray, List.length_cons, List.length_nil, Nat.reduceAdd, Nat.reduceSub, Array.replicate_succ, Array.replicate_zero, List.push_toArray, List.append_toArray, List.nil_append, List.cons_append]
  gi_wp2_with fail
  refine ⟨trivial, ?_⟩
  rw [zigzag_u64 n (by omega) h2]
  refine (callsIn_wide.2 (groups_any _ _)).mono ?_
  rintro e w' ⟨rfl, rfl⟩
  gi_wp2_with fail
  obtain ⟨i0, hi, hz0, hz1, hz2⟩ := info_parts Tryd.info5
  have hb0 : Boxed ((w.alloc (.cells #[.slice none 0 0] 57)).alloc (.cells #[.int .u64 (zig n : Nat)] 94)) w.heap.size 57 (.slice none 0 0) := (Boxed.new w _ _).alloc _
  have hb1 : Boxed ((w.alloc (.cells #[.slice none 0 0] 57)).alloc (.cells #[.int .u64 (zig n : Nat)] 94)) (w.heap.size + 1) 94 (.int .u64 (zig n : Nat)) := by
    have := Boxed.new (w.alloc (.cells #[.slice none 0 0] 57)) 94 (.int .u64 (zig n : Nat))
    rwa [World.size_alloc] at this
  have hbw : Below w.heap.size w ((w.alloc (.cells #[.slice none 0 0] 57)).alloc (.cells #[.int .u64 (zig n : Nat)] 94)) := ((Below.refl _ w).alloc (Nat.le_refl _) _).alloc (by simp) _
  refine rangeFunc_open rfl (by omega) (gf := 61) (lb := #[.pointer (some ⟨w.heap.size + 1, 0, none⟩)]) rfl trivial (enters_of Tryd.func61 (by kernel_rfl) rfl) (w.heap.size + 2) (by simp) ?_
  intro W1 r _ hr hL ⟨o, o', hW1⟩
  have hz' : zig n < 18446744073709551616 := by omega
  refine (groups1_in 4 (w.heap.size + 3) (w.heap.size + 1) (by omega) (PutJ w (w.heap.size + 2) (w.heap.size + 3) r (zig n)) (PutJn w (w.heap.size + 2) (w.heap.size + 3) r (zig n)) ?hY ?hset (zig n) hz' W1 ?h0 ?hb).mono ?_
  case hb => rw [hW1]; exact (hb1.alloc _).alloc _
  case h0 =>
    refine ⟨[], .slice none 0 0, by simp, by simp, by rw [hW1]; exact (hb0.alloc _).alloc _, World.ownsRow_nil _ _ _ _, ?_, hL⟩
    rw [hW1]
    exact (hbw.alloc (by simp; omega) _).alloc (by simp; omega) _
  case hset =>
    rintro y W ⟨pre, v, hp, he, hbx, hrow, hB, hLn⟩ hbz hy
    refine ⟨pre, v, hp, by rw [if_neg (by omega)] at he; exact he, Boxed_other hbx (by omega), ownsRow_box hrow hbz (by decide), hB.setCell (by simp) _, hLn.others (KeepsOthers.setCell _ _ _)⟩
  case hY =>
    rintro y W ⟨pre, v, hp, he, hbx, hrow, hB, hLn⟩ hbz hy
    have hstep := put_step hy he
    refine (yield_open (On := PutOn w (zig n) y) (Out := fun _ _ => False) hLn trivial hr rfl ?_).mono ?_
    · intro R hR
      have HR := Lib.hid hR
      clear hR
      have hm2 := hy
      have Hst := Lib.hid hstep
      clear hbw hb0 hb1 hstep he
      by_cases hlt : y < 128
      · have hd : decide ((y : Int) < 128) = true := by simp; omega
        rw [hd]
        gi_wp2
        refine ⟨_, hLn.begin, ?_⟩
        have hL2 := hLn.put (st' := .busy) (pe' := none)
        have hx2 := Boxed_put (o' := .loop { r with state := .busy, pending := none }) hbx hLn.lrec rfl
        have hz2' := Boxed_put (o' := .loop { r with state := .busy, pending := none }) hbz hLn.lrec rfl
        have hr2 := ownsRow_putObj hrow (.loop { r with state := .busy, pending := none }) hLn.lrec rfl
        have hB2 : Below w.heap.size w (W.putObj (w.heap.size + 3) (.loop { r with state := .busy, pending := none })) := Below_put hB (by omega) hB.size
        generalize (W.putObj (w.heap.size + 3) (.loop { r with state := .busy, pending := none })) = W2 at *
        have hc2 := hx2.cell
        gi_wp2_with (gi_at_builtin; refine wpListIn_append_own _ rfl _ _ 57 rfl w.heap.size 5 i0 (.int .u8 0) 1 1 Tryd.underlying57 hi hz0 hz1 hz2 rfl (by decide) _ _ _ rfl (hr2.alloc _) ⟨W2.heap.size, 0, none⟩ 1 1 [.int .u8 _] rfl rfl (cell_one_new _ _ _) (by simp [Value.oneCell']) (by unfold maxLen; omega) (by omega) (by have := hB2.size; simp; omega) ?_; intro v' w1 hown' hgrow _; obtain ⟨g', cap', rfl⟩ := ownsRow_succ hown'; obtain ⟨hv1, hv2, hr3, hk3, hb3⟩ := hx2.appended (by decide) hr2 hB2.size (Nat.le_refl _) hown' hgrow; have hc1 := hv1.cell; have hf1 := hv1.frozen)
        rw [HR.out]
        have hL3 := hL2.others hk3
        have hzb := Boxed_other (u := .slice (some ⟨g', 0, none⟩) (pre.length + 1) cap') ((hz2'.alloc _).kept hgrow (hz2'.not_row (by decide) hr2)) (by omega : w.heap.size + 1 ≠ w.heap.size)
        refine ⟨hL3, pre ++ [UInt8.ofNat (y % 128)], _, ?_, ?_, Boxed_put hv2 hL3.lrec rfl, ?_, Below_put (hB2.trans hb3) (by omega) (hB2.trans hb3).size, Boxed_put hzb hL3.lrec rfl⟩
        · have := Hst.out.2.2; simp; omega
        · rw [if_pos hlt]; simpa using Hst.out.1 hlt
        · have := ownsRow_putObj hr3 (.loop { r with state := .ready, pending := none }) hL3.lrec rfl
          rw [show (pre ++ [UInt8.ofNat (y % 128)]).map u8v = pre.map u8v ++ [.int .u8 (↑y % 128)] by rw [List.map_append]; congr 1; simp only [List.map_cons, List.map_nil, u8v]; congr 2; simp; omega]
          simpa using this
      · have hd : decide ((y : Int) < 128) = false := by simp; omega
        rw [hd]
        gi_wp2
        refine ⟨_, hLn.begin, ?_⟩
        have hL2 := hLn.put (st' := .busy) (pe' := none)
        have hx2 := Boxed_put (o' := .loop { r with state := .busy, pending := none }) hbx hLn.lrec rfl
        have hz2' := Boxed_put (o' := .loop { r with state := .busy, pending := none }) hbz hLn.lrec rfl
        have hr2 := ownsRow_putObj hrow (.loop { r with state := .busy, pending := none }) hLn.lrec rfl
        have hB2 : Below w.heap.size w (W.putObj (w.heap.size + 3) (.loop { r with state := .busy, pending := none })) := Below_put hB (by omega) hB.size
        generalize (W.putObj (w.heap.size + 3) (.loop { r with state := .busy, pending := none })) = W2 at *
        have hc2 := hx2.cell
        gi_wp2_with (gi_at_builtin; refine wpListIn_append_own _ rfl _ _ 57 rfl w.heap.size 5 i0 (.int .u8 0) 1 1 Tryd.underlying57 hi hz0 hz1 hz2 rfl (by decide) _ _ _ rfl (hr2.alloc _) ⟨W2.heap.size, 0, none⟩ 1 1 [.int .u8 _] rfl rfl (cell_one_new _ _ _) (by simp [Value.oneCell']) (by unfold maxLen; omega) (by omega) (by have := hB2.size; simp; omega) ?_; intro v' w1 hown' hgrow _; obtain ⟨g', cap', rfl⟩ := ownsRow_succ hown'; obtain ⟨hv1, hv2, hr3, hk3, hb3⟩ := hx2.appended (by decide) hr2 hB2.size (Nat.le_refl _) hown' hgrow; have hc1 := hv1.cell; have hf1 := hv1.frozen)
        rw [HR.out]
        have hL3 := hL2.others hk3
        have hzb := Boxed_other (u := .slice (some ⟨g', 0, none⟩) (pre.length + 1) cap') ((hz2'.alloc _).kept hgrow (hz2'.not_row (by decide) hr2)) (by omega : w.heap.size + 1 ≠ w.heap.size)
        refine ⟨hL3, pre ++ [UInt8.ofNat (y % 128 + 128)], _, ?_, ?_, Boxed_put hv2 hL3.lrec rfl, ?_, Below_put (hB2.trans hb3) (by omega) (hB2.trans hb3).size, Boxed_put hzb hL3.lrec rfl⟩
        · have := Hst.out.2.2; simp; omega
        · rw [if_neg hlt]; simpa using Hst.out.2.1 hlt
        · have := ownsRow_putObj hr3 (.loop { r with state := .ready, pending := none }) hL3.lrec rfl
          rw [show (pre ++ [UInt8.ofNat (y % 128 + 128)]).map u8v = pre.map u8v ++ [.int .u8 (bits .or .u8 (↑y % 128) 128)] by rw [List.map_append]; congr 1; simp only [List.map_cons, List.map_nil, u8v]; congr 2; have := or128_u8 (y % 128) (by omega); rw [show ((y : Int) % 128) = ((y % 128 : Nat) : Int) by omega, this]; simp; omega]
          simpa using this
    · rintro e W' (⟨rfl, hL', pre', v', q1, q2, q3, q4, q5, q6⟩ | ⟨_, c, _, h⟩)
      · exact ⟨rfl, ⟨pre', v', q1, q2, q3, q4, q5, hL'⟩, q6⟩
      · exact h.elim
  rintro e W2 ⟨⟨v, rfl⟩, y, hy, pre, v, hp, he, hbx, hrow, hB, hLn⟩
  refine rangePost_done hLn fun hL2 => ?_
  rw [if_pos hy, List.append_nil] at he
  have hx3 := Boxed_put (o' := .loop { r with state := .exhausted, pending := none }) hbx hLn.lrec rfl
  have hr3 := ownsRow_putObj hrow (.loop { r with state := .exhausted, pending := none }) hLn.lrec rfl
  have hB3 : Below w.heap.size w (W2.putObj (w.heap.size + 3) (.loop { r with state := .exhausted, pending := none })) := Below_put hB (by omega) hB.size
  generalize (W2.putObj (w.heap.size + 3) (.loop { r with state := .exhausted, pending := none })) = W3 at *
  have hcv := own_bytes_string (P := Tryd.prog) hr3 57 Tryd.underlying57 Tryd.underlying5 9 Tryd.underlying9
  have hc3 := hx3.cell
  have Hw1 := Lib.hid hW1
  have HE := Lib.hid he
  clear hW1 he hbw hb0 hb1
  gi_wp2
  refine ⟨by simp, .inl ⟨_, _, rfl, run_takeDeferred hL2.ds, ?_⟩⟩
  refine ⟨.tuple #[.string ⟨pre.toArray⟩, .int .i64 0], by simp [results, Tryd.results25, go_sem], by rw [HE.out], Below_put hB3 (by omega) hB3.size⟩

theorem putInt_ok (n : Int) (h1 : -4611686018427387903 ≤ n) (h2 : n ≤ 4611686018427387903) (w : World) :
    Calls Tryd.prog 25 #[.int .i64 n] w fun e w' => e = .returned (.tuple #[.string ⟨(vbytes (zig n)).toArray⟩, .int .i64 0]) ∧ Below w.heap.size w w' :=
  callsIn_wide.1 (putInt_in n h1 h2 w)
set_option maxHeartbeats 400000 in
theorem putInt_bad (n : Int) (hn : n < -4611686018427387903 ∨ 4611686018427387903 < n) (w : World) :
    Calls Tryd.prog 25 #[.int .i64 n] w fun e w' => e = .returned (.tuple #[.string ⟨#[]⟩, .int .i64 10]) ∧ w = w' := by
  rcases hn with h | h
  · go_enter Tryd.func25, Tryd.ntmps25
    go_wp2
    go_ret2
    exact ⟨rfl, rfl⟩
  · have h' : ¬ n < -4611686018427387903 := by omega
    go_enter Tryd.func25, Tryd.ntmps25
    go_wp2
    go_ret2
    exact ⟨rfl, rfl⟩
end Go.Proofs.YtcfplkbbgjiocaaDoor
