/- Package digest: the words of a block. Conditions: a block of 64 bytes that can be read. -/
import Derived.Test.YtcfplkbbgjiocaaDoorShaOut
import Derived.Test.YtcfplkbbgjiocaaDoorPure
import Derived.Deep.DeepCutAuto
import Derived.Laws.Rows
import Derived.Laws.Tables
namespace Go.Proofs.YtcfplkbbgjiocaaDoor
open Go Go.RowKit
theorem Below_dn {B : Nat} {w W : World} (h : Below B w W) (k : Nat) : Below B w (W.drewN k) := ⟨h.os, h.tape, h.output, h.size, h.block⟩
theorem word_or {a b c d : Nat} (ha : a < 256) (hb : b < 256) (hc : c < 256) (hd : d < 256) :
    bits .or .u32 (bits .or .u32 (bits .or .u32 ((a : Int) * 16777216) ((b : Int) * 65536)) ((c : Int) * 256)) (d : Int) = ((a * 16777216 ||| b * 65536 ||| c * 256 ||| d : Nat) : Int) := by
  have h1 := bitsN32_or (a * 16777216) (b * 65536) (by omega) (by omega)
  have l1 : a * 16777216 ||| b * 65536 < 2 ^ 32 := Nat.or_lt_two_pow (by omega) (by omega)
  have h2 := bitsN32_or (a * 16777216 ||| b * 65536) (c * 256) l1 (by omega)
  have l2 : a * 16777216 ||| b * 65536 ||| c * 256 < 2 ^ 32 := Nat.or_lt_two_pow l1 (by omega)
  have h3 := bitsN32_or (a * 16777216 ||| b * 65536 ||| c * 256) d l2 (by omega)
  rw [Int.natCast_mul, Int.natCast_mul] at h1
  rw [Int.natCast_mul] at h2
  rw [show (a : Int) * 16777216 = (a : Int) * ((16777216 : Nat) : Int) from rfl, show (b : Int) * 65536 = (b : Int) * ((65536 : Nat) : Int) from rfl, show (c : Int) * 256 = (c : Int) * ((256 : Nat) : Int) from rfl, h1, h2, h3]
theorem UBox.next {K : IntKind} {W : World} {A n i : Nat} {g z : Nat → Nat} (h : UBox K W A n (fun j => if j < i then g j else z j)) (hi : i < n) : UBox K (W.setCell ⟨A, i, none⟩ (.int K (g i : Nat))) A n (fun j => if j < i + 1 then g j else z j) :=
  (h.set i hi (g i)).congr fun j _ => by
    by_cases e : j = i
    · rw [if_pos e, if_pos (by omega), e]
    · rw [if_neg e]
      by_cases e2 : j < i
      · rw [if_pos e2, if_pos (by omega)]
      · rw [if_neg e2, if_neg (by omega)]
set_option maxRecDepth 100000 in
set_option maxHeartbeats 4000000 in
theorem schedule_any (b o c : Nat) (B : Nat → Nat) (w : World) (hr : ReadsU .u8 w (some ⟨b, o, none⟩) 64 B) (hB : ∀ i, B i < 256) :
    Calls Tryd.prog 77 #[.slice (some ⟨b, o, none⟩) 64 c] w fun e w' => (∃ cs : Array Value, e = .returned (.agg cs) ∧ cs.size = 64 ∧ ∀ i, i < 64 → cs[i]? = some (.int .u32 (wordAt B i : Nat))) ∧ Below w.heap.size w w' := by
  have HRD := Lib.hid hr
  have HB := Lib.hid hB
  clear hr hB
  have hz : Tryd.prog.cellsOf 127 = 64 := by kernel_rfl
  go_enter Tryd.func77, Tryd.ntmps77
  go_wp2
  obtain ⟨zs, hzs⟩ : ∃ zs : Array Value, zs = Array.replicate 64 (Value.int .u32 0) := ⟨_, rfl⟩
  have hbx := UBox.new (K := .u32) (n := 64) w zs 127 (fun _ => 0) (by rw [hzs]; rfl) (fun i hi => by rw [hzs, Array.getElem?_replicate, if_pos hi]; rfl)
  have hal : Below w.heap.size w (w.alloc (.cells zs 127)) := (Below.refl _ _).alloc (Nat.le_refl _) _
  generalize hgw : w.alloc _ = w1
  rw [show w.alloc (.cells zs 127) = w1 by rw [← hgw, hzs]; rfl] at hbx hal
  obtain ⟨A, hA⟩ : ∃ A, w.heap.size = A := ⟨_, rfl⟩
  rw [hA] at hbx
  rw [hA]
  rw [hA] at hal
  have HRW : Hid (∀ W, Below A w W → ∀ j, j < 64 → W.cell? ⟨b, o + j, none⟩ = some (.int .u8 (B j : Nat))) := Lib.hid (fun W hb j hj => by
    rw [← hA] at hb
    obtain ⟨b', o', hp, hc⟩ := (HRD.out.below hb) 0 (by omega)
    cases hp
    exact hc j hj)
  have HA := Lib.hid hA
  have HBL := Lib.hid hal
  have HBX := Lib.hid hbx
  have HbA : Hid (b ≠ A) := Lib.hid (by
    obtain ⟨b', o', hp, hc⟩ := HRD.out 0 (by omega)
    cases hp
    have := cell_lt' (hc 0 (by omega))
    omega)
  clear hgw hbx hal hzs hA hz HRD
  go_loopw [7] (fun iv wr => ∃ i : Nat, i ≤ 16 ∧ iv = .int .i64 i ∧ UBox .u32 wr A 64 (fun j => if j < i then wordAt B j else 0) ∧ Below A w wr) (fun iv _ => 16 - (intOf iv).toNat)
  case atStart => exact ⟨0, by omega, rfl, HBX.out.congr (fun i _ => if_neg (by omega)), HBL.out⟩
  case round =>
    obtain ⟨i, hi, rfl, hbx, hb⟩ := hrel
    by_cases hlt : i < 16
    · have l0 : (i : Int) < 16 := by omega
      have l1 : (0 : Int) ≤ (i : Int) := by omega
      have l2 : (i : Int) < 64 := by omega
      obtain ⟨j0, hj0⟩ : ∃ j : Nat, j = 4 * i := ⟨_, rfl⟩
      have g0 : IntKind.i64.wrap (4 * (i : Int)) = (j0 : Int) := by rw [IntWalk.i64_in _ (by omega)]; omega
      obtain ⟨j1, hj1⟩ : ∃ j : Nat, j = j0 + 1 := ⟨_, rfl⟩
      obtain ⟨j2, hj2⟩ : ∃ j : Nat, j = j0 + 2 := ⟨_, rfl⟩
      obtain ⟨j3, hj3⟩ : ∃ j : Nat, j = j0 + 3 := ⟨_, rfl⟩
      have g1 : IntKind.i64.wrap ((j0 : Int) + 1) = (j1 : Int) := by rw [IntWalk.i64_in _ (by omega)]; omega
      have g2 : IntKind.i64.wrap ((j0 : Int) + 2) = (j2 : Int) := by rw [IntWalk.i64_in _ (by omega)]; omega
      have g3 : IntKind.i64.wrap ((j0 : Int) + 3) = (j3 : Int) := by rw [IntWalk.i64_in _ (by omega)]; omega
      have m0 : (0 : Int) ≤ (j0 : Int) ∧ (j0 : Int) < 64 := by omega
      have m1 : (0 : Int) ≤ (j1 : Int) ∧ (j1 : Int) < 64 := by omega
      have m2 : (0 : Int) ≤ (j2 : Int) ∧ (j2 : Int) < 64 := by omega
      have m3 : (0 : Int) ≤ (j3 : Int) ∧ (j3 : Int) < 64 := by omega
      obtain ⟨m01, m02⟩ := m0
      obtain ⟨m11, m12⟩ := m1
      obtain ⟨m21, m22⟩ := m2
      obtain ⟨m31, m32⟩ := m3
      have r0 := HRW.out wr hb j0 (by omega)
      have r1 := HRW.out wr hb j1 (by omega)
      have r2 := HRW.out wr hb j2 (by omega)
      have r3 := HRW.out wr hb j3 (by omega)
      have b0 := HB.out j0
      have b1 := HB.out j1
      have b2 := HB.out j2
      have b3 := HB.out j3
      have HWD : Hid (wordAt B i = B j0 * 16777216 ||| B j1 * 65536 ||| B j2 * 256 ||| B j3) := Lib.hid (by rw [hj1, hj2, hj3, hj0]; exact if_pos hlt)
      obtain ⟨x0, hx0⟩ : ∃ x, B j0 = x := ⟨_, rfl⟩
      obtain ⟨x1, hx1⟩ : ∃ x, B j1 = x := ⟨_, rfl⟩
      obtain ⟨x2, hx2⟩ : ∃ x, B j2 = x := ⟨_, rfl⟩
      obtain ⟨x3, hx3⟩ : ∃ x, B j3 = x := ⟨_, rfl⟩
      rw [hx0] at r0 b0 HWD
      rw [hx1] at r1 b1 HWD
      rw [hx2] at r2 b2 HWD
      rw [hx3] at r3 b3 HWD
      have HOR := Lib.hid (word_or b0 b1 b2 b3)
      have u0 : IntKind.u32.wrap (x0 : Int) = (x0 : Int) := by rw [IntKind.wrap_u32]; omega
      have u1 : IntKind.u32.wrap (x1 : Int) = (x1 : Int) := by rw [IntKind.wrap_u32]; omega
      have u2 : IntKind.u32.wrap (x2 : Int) = (x2 : Int) := by rw [IntKind.wrap_u32]; omega
      have u3 : IntKind.u32.wrap (x3 : Int) = (x3 : Int) := by rw [IntKind.wrap_u32]; omega
      have s0 : IntKind.u32.wrap ((x0 : Int) * 16777216) = (x0 : Int) * 16777216 := by rw [IntKind.wrap_u32]; omega
      have s1 : IntKind.u32.wrap ((x1 : Int) * 65536) = (x1 : Int) * 65536 := by rw [IntKind.wrap_u32]; omega
      have s2 : IntKind.u32.wrap ((x2 : Int) * 256) = (x2 : Int) * 256 := by rw [IntKind.wrap_u32]; omega
      have z0 := hbx.cell i (by omega)
      have f0 := hbx.free i
      have HBX := Lib.hid hbx
      have HB' := Lib.hid hb
      clear hbx hb hx0 hx1 hx2 hx3 hj0 hj1 hj2 hj3
      go_upto_region 4 with fail
      refine wp_region_held_drew (S := (fun W => W.cell? ⟨b, o + j0, none⟩ = some (.int .u8 (x0 : Int)) ∧ W.cell? ⟨b, o + j1, none⟩ = some (.int .u8 (x1 : Int)) ∧ W.cell? ⟨b, o + j2, none⟩ = some (.int .u8 (x2 : Int)) ∧ W.cell? ⟨b, o + j3, none⟩ = some (.int .u8 (x3 : Int)))) (by kernel_rfl) ?_ (fun hHeld => ?_)
      · exact ⟨r0, r1, r2, r3⟩
      refine wpAnyH_take (i := 0) (v := ?_) rfl (by kernel_rfl) (by kernel_rfl) (by kernel_rfl) (fun _ _ _ h => h) (Or.inl ⟨by rfl, ?_⟩) (by assumption) ?_
      rotate_left
      · intro w hSw
        try dsimp only at hSw
        go_simp
        all_goals with_reducible rfl
      try simp only [Act.put, List.getElem_toArray, List.getElem_cons_zero, List.setIfInBounds_toArray, List.set_cons_zero, List.set_cons_succ]
      refine wpAnyH_take (i := 1) (v := ?_) rfl (by kernel_rfl) (by kernel_rfl) (by kernel_rfl) (fun _ _ _ h => h) (Or.inl ⟨by rfl, ?_⟩) (by assumption) ?_
      rotate_left
      · intro w hSw
        try dsimp only at hSw
        go_simp
        all_goals with_reducible rfl
      try simp only [Act.put, List.getElem_toArray, List.getElem_cons_succ, List.getElem_cons_zero, List.setIfInBounds_toArray, List.set_cons_zero, List.set_cons_succ]
      refine wpAnyH_take (i := 2) (v := ?_) rfl (by kernel_rfl) (by kernel_rfl) (by kernel_rfl) (fun _ _ _ h => h) (Or.inl ⟨by rfl, ?_⟩) (by assumption) ?_
      rotate_left
      · intro w hSw
        try dsimp only at hSw
        go_simp
        all_goals with_reducible rfl
      try simp only [Act.put, List.getElem_toArray, List.getElem_cons_succ, List.getElem_cons_zero, List.setIfInBounds_toArray, List.set_cons_zero, List.set_cons_succ]
      refine wpAnyH_take (i := 3) (v := ?_) rfl (by kernel_rfl) (by kernel_rfl) (by kernel_rfl) (fun _ _ _ h => h) (Or.inl ⟨by rfl, ?_⟩) (by assumption) ?_
      rotate_left
      · intro w hSw
        try dsimp only at hSw
        go_simp
        all_goals with_reducible rfl
      try simp only [Act.put, List.getElem_toArray, List.getElem_cons_succ, List.getElem_cons_zero, List.setIfInBounds_toArray, List.set_cons_zero, List.set_cons_succ]
      refine wpAnyH_take (i := 4) (v := ?_) rfl (by kernel_rfl) (by kernel_rfl) (by kernel_rfl) (fun _ _ _ h => h) (Or.inl ⟨by rfl, ?_⟩) (by assumption) ?_
      rotate_left
      · intro w hSw
        try dsimp only at hSw
        go_simp
        all_goals with_reducible rfl
      try simp only [Act.put, List.getElem_toArray, List.getElem_cons_succ, List.getElem_cons_zero, List.setIfInBounds_toArray, List.set_cons_zero, List.set_cons_succ]
      refine wpAnyH_take (i := 5) (v := ?_) rfl (by kernel_rfl) (by kernel_rfl) (by kernel_rfl) (fun _ _ _ h => h) (Or.inl ⟨by rfl, ?_⟩) (by assumption) ?_
      rotate_left
      · intro w hSw
        try dsimp only at hSw
        go_simp
        all_goals with_reducible rfl
      try simp only [Act.put, List.getElem_toArray, List.getElem_cons_succ, List.getElem_cons_zero, List.setIfInBounds_toArray, List.set_cons_zero, List.set_cons_succ]
      refine wpAnyH_take (i := 6) (v := ?_) rfl (by kernel_rfl) (by kernel_rfl) (by kernel_rfl) (fun _ _ _ h => h) (Or.inl ⟨by rfl, ?_⟩) (by assumption) ?_
      rotate_left
      · intro w hSw
        try dsimp only at hSw
        go_simp
        all_goals with_reducible rfl
      try simp only [Act.put, List.getElem_toArray, List.getElem_cons_succ, List.getElem_cons_zero, List.setIfInBounds_toArray, List.set_cons_zero, List.set_cons_succ]
      refine wpAnyH_take (i := 7) (v := ?_) rfl (by kernel_rfl) (by kernel_rfl) (by kernel_rfl) (fun _ _ _ h => h) (Or.inl ⟨by rfl, ?_⟩) (by assumption) ?_
      rotate_left
      · intro w hSw
        try dsimp only at hSw
        go_simp
        all_goals with_reducible rfl
      try simp only [Act.put, List.getElem_toArray, List.getElem_cons_succ, List.getElem_cons_zero, List.setIfInBounds_toArray, List.set_cons_zero, List.set_cons_succ]
      refine wpAnyH_take (i := 8) (v := ?_) rfl (by kernel_rfl) (by kernel_rfl) (by kernel_rfl) (fun _ _ _ h => h) (Or.inl ⟨by rfl, ?_⟩) (by assumption) ?_
      rotate_left
      · intro w hSw
        try dsimp only at hSw
        go_simp
        all_goals with_reducible rfl
      try simp only [Act.put, List.getElem_toArray, List.getElem_cons_succ, List.getElem_cons_zero, List.setIfInBounds_toArray, List.set_cons_zero, List.set_cons_succ]
      refine wpAnyH_take (i := 9) (v := ?_) rfl (by kernel_rfl) (by kernel_rfl) (by kernel_rfl) (fun _ _ _ h => h) (Or.inl ⟨by rfl, ?_⟩) (by assumption) ?_
      rotate_left
      · intro w hSw
        try dsimp only at hSw
        go_simp
        all_goals with_reducible rfl
      try simp only [Act.put, List.getElem_toArray, List.getElem_cons_succ, List.getElem_cons_zero, List.setIfInBounds_toArray, List.set_cons_zero, List.set_cons_succ]
      refine wpAnyH_take (i := 10) (v := ?_) rfl (by kernel_rfl) (by kernel_rfl) (by kernel_rfl) (fun _ _ _ h => h) (Or.inl ⟨by rfl, ?_⟩) (by assumption) ?_
      rotate_left
      · intro w hSw
        try dsimp only at hSw
        go_simp
        all_goals with_reducible rfl
      try simp only [Act.put, List.getElem_toArray, List.getElem_cons_succ, List.getElem_cons_zero, List.setIfInBounds_toArray, List.set_cons_zero, List.set_cons_succ]
      refine wpAnyH_take (i := 11) (v := ?_) rfl (by kernel_rfl) (by kernel_rfl) (by kernel_rfl) (fun _ _ _ h => h) (Or.inl ⟨by rfl, ?_⟩) (by assumption) ?_
      rotate_left
      · intro w hSw
        try dsimp only at hSw
        go_simp
        all_goals with_reducible rfl
      try simp only [Act.put, List.getElem_toArray, List.getElem_cons_succ, List.getElem_cons_zero, List.setIfInBounds_toArray, List.set_cons_zero, List.set_cons_succ]
      refine wpAnyH_take (i := 12) (v := ?_) rfl (by kernel_rfl) (by kernel_rfl) (by kernel_rfl) (fun _ _ _ h => h) (Or.inl ⟨by rfl, ?_⟩) (by assumption) ?_
      rotate_left
      · intro w hSw
        try dsimp only at hSw
        go_simp
        all_goals with_reducible rfl
      try simp only [Act.put, List.getElem_toArray, List.getElem_cons_succ, List.getElem_cons_zero, List.setIfInBounds_toArray, List.set_cons_zero, List.set_cons_succ]
      refine wpAnyH_take (i := 13) (v := ?_) rfl (by kernel_rfl) (by kernel_rfl) (by kernel_rfl) (fun _ _ _ h => h) (Or.inl ⟨by rfl, ?_⟩) (by assumption) ?_
      rotate_left
      · intro w hSw
        try dsimp only at hSw
        go_simp
        all_goals with_reducible rfl
      try simp only [Act.put, List.getElem_toArray, List.getElem_cons_succ, List.getElem_cons_zero, List.setIfInBounds_toArray, List.set_cons_zero, List.set_cons_succ]
      refine wpAnyH_take (i := 14) (v := ?_) rfl (by kernel_rfl) (by kernel_rfl) (by kernel_rfl) (fun _ _ _ h => h) (Or.inl ⟨by rfl, ?_⟩) (by assumption) ?_
      rotate_left
      · intro w hSw
        try dsimp only at hSw
        go_simp
        all_goals with_reducible rfl
      try simp only [Act.put, List.getElem_toArray, List.getElem_cons_succ, List.getElem_cons_zero, List.setIfInBounds_toArray, List.set_cons_zero, List.set_cons_succ]
      refine wpAnyH_take (i := 15) (v := ?_) rfl (by kernel_rfl) (by kernel_rfl) (by kernel_rfl) (fun _ _ _ h => h) (Or.inl ⟨by rfl, ?_⟩) (by assumption) ?_
      rotate_left
      · intro w hSw
        try dsimp only at hSw
        go_simp
        all_goals with_reducible rfl
      try simp only [Act.put, List.getElem_toArray, List.getElem_cons_succ, List.getElem_cons_zero, List.setIfInBounds_toArray, List.set_cons_zero, List.set_cons_succ]
      refine wpAnyH_take (i := 16) (v := ?_) rfl (by kernel_rfl) (by kernel_rfl) (by kernel_rfl) (fun _ _ _ h => h) (Or.inl ⟨by rfl, ?_⟩) (by assumption) ?_
      rotate_left
      · intro w hSw
        try dsimp only at hSw
        go_simp
        all_goals with_reducible rfl
      try simp only [Act.put, List.getElem_toArray, List.getElem_cons_succ, List.getElem_cons_zero, List.setIfInBounds_toArray, List.set_cons_zero, List.set_cons_succ]
      refine wpAnyH_take (i := 17) (v := ?_) rfl (by kernel_rfl) (by kernel_rfl) (by kernel_rfl) (fun _ _ _ h => h) (Or.inl ⟨by rfl, ?_⟩) (by assumption) ?_
      rotate_left
      · intro w hSw
        try dsimp only at hSw
        go_simp
        all_goals with_reducible rfl
      try simp only [Act.put, List.getElem_toArray, List.getElem_cons_succ, List.getElem_cons_zero, List.setIfInBounds_toArray, List.set_cons_zero, List.set_cons_succ]
      refine wpAnyH_take (i := 18) (v := ?_) rfl (by kernel_rfl) (by kernel_rfl) (by kernel_rfl) (fun _ _ _ h => h) (Or.inl ⟨by rfl, ?_⟩) (by assumption) ?_
      rotate_left
      · intro w hSw
        try dsimp only at hSw
        go_simp
        all_goals with_reducible rfl
      try simp only [Act.put, List.getElem_toArray, List.getElem_cons_succ, List.getElem_cons_zero, List.setIfInBounds_toArray, List.set_cons_zero, List.set_cons_succ]
      refine wpAnyH_take (i := 19) (v := ?_) rfl (by kernel_rfl) (by kernel_rfl) (by kernel_rfl) (fun _ _ _ h => h) (Or.inl ⟨by rfl, ?_⟩) (by assumption) ?_
      rotate_left
      · intro w hSw
        try dsimp only at hSw
        go_simp
        all_goals with_reducible rfl
      try simp only [Act.put, List.getElem_toArray, List.getElem_cons_succ, List.getElem_cons_zero, List.setIfInBounds_toArray, List.set_cons_zero, List.set_cons_succ]
      refine wpAnyH_take (i := 20) (v := ?_) rfl (by kernel_rfl) (by kernel_rfl) (by kernel_rfl) (fun _ _ _ h => h) (Or.inl ⟨by rfl, ?_⟩) (by assumption) ?_
      rotate_left
      · intro w hSw
        try dsimp only at hSw
        go_simp
        all_goals with_reducible rfl
      try simp only [Act.put, List.getElem_toArray, List.getElem_cons_succ, List.getElem_cons_zero, List.setIfInBounds_toArray, List.set_cons_zero, List.set_cons_succ]
      refine wpAnyH_take (i := 21) (v := ?_) rfl (by kernel_rfl) (by kernel_rfl) (by kernel_rfl) (fun _ _ _ h => h) (Or.inl ⟨by rfl, ?_⟩) (by assumption) ?_
      rotate_left
      · intro w hSw
        try dsimp only at hSw
        go_simp
        all_goals with_reducible rfl
      try simp only [Act.put, List.getElem_toArray, List.getElem_cons_succ, List.getElem_cons_zero, List.setIfInBounds_toArray, List.set_cons_zero, List.set_cons_succ]
      refine wpAnyH_take (i := 22) (v := ?_) rfl (by kernel_rfl) (by kernel_rfl) (by kernel_rfl) (fun _ _ _ h => h) (Or.inl ⟨by rfl, ?_⟩) (by assumption) ?_
      rotate_left
      · intro w hSw
        try dsimp only at hSw
        go_simp
        all_goals with_reducible rfl
      try simp only [Act.put, List.getElem_toArray, List.getElem_cons_succ, List.getElem_cons_zero, List.setIfInBounds_toArray, List.set_cons_zero, List.set_cons_succ]
      refine wpAnyH_take (i := 23) (v := ?_) rfl (by kernel_rfl) (by kernel_rfl) (by kernel_rfl) (fun _ _ _ h => h) (Or.inl ⟨by rfl, ?_⟩) (by assumption) ?_
      rotate_left
      · intro w hSw
        try dsimp only at hSw
        go_simp
        all_goals with_reducible rfl
      try simp only [Act.put, List.getElem_toArray, List.getElem_cons_succ, List.getElem_cons_zero, List.setIfInBounds_toArray, List.set_cons_zero, List.set_cons_succ]
      refine wpAnyH_take (i := 24) (v := ?_) rfl (by kernel_rfl) (by kernel_rfl) (by kernel_rfl) (fun _ _ _ h => h) (Or.inl ⟨by rfl, ?_⟩) (by assumption) ?_
      rotate_left
      · intro w hSw
        try dsimp only at hSw
        go_simp
        all_goals with_reducible rfl
      try simp only [Act.put, List.getElem_toArray, List.getElem_cons_succ, List.getElem_cons_zero, List.setIfInBounds_toArray, List.set_cons_zero, List.set_cons_succ]
      refine wpAnyH_take (i := 25) (v := ?_) rfl (by kernel_rfl) (by kernel_rfl) (by kernel_rfl) (fun _ _ _ h => h) (Or.inl ⟨by rfl, ?_⟩) (by assumption) ?_
      rotate_left
      · intro w hSw
        try dsimp only at hSw
        go_simp
        all_goals with_reducible rfl
      try simp only [Act.put, List.getElem_toArray, List.getElem_cons_succ, List.getElem_cons_zero, List.setIfInBounds_toArray, List.set_cons_zero, List.set_cons_succ]
      refine wpAnyH_take (i := 26) (v := ?_) rfl (by kernel_rfl) (by kernel_rfl) (by kernel_rfl) (fun _ _ _ h => h) (Or.inl ⟨by rfl, ?_⟩) (by assumption) ?_
      rotate_left
      · intro w hSw
        try dsimp only at hSw
        go_simp
        all_goals with_reducible rfl
      try simp only [Act.put, List.getElem_toArray, List.getElem_cons_succ, List.getElem_cons_zero, List.setIfInBounds_toArray, List.set_cons_zero, List.set_cons_succ]
      refine wpAnyH_take (i := 27) (v := ?_) rfl (by kernel_rfl) (by kernel_rfl) (by kernel_rfl) (fun _ _ _ h => h) (Or.inl ⟨by rfl, ?_⟩) (by assumption) ?_
      rotate_left
      · intro w hSw
        try dsimp only at hSw
        go_simp
        all_goals with_reducible rfl
      try simp only [Act.put, List.getElem_toArray, List.getElem_cons_succ, List.getElem_cons_zero, List.setIfInBounds_toArray, List.set_cons_zero, List.set_cons_succ]
      refine wpAnyH_take (i := 28) (v := ?_) rfl (by kernel_rfl) (by kernel_rfl) (by kernel_rfl) (fun _ _ _ h => h) (Or.inl ⟨by rfl, ?_⟩) (by assumption) ?_
      rotate_left
      · intro w hSw
        try dsimp only at hSw
        go_simp
        all_goals with_reducible rfl
      try simp only [Act.put, List.getElem_toArray, List.getElem_cons_succ, List.getElem_cons_zero, List.setIfInBounds_toArray, List.set_cons_zero, List.set_cons_succ]
      refine wpAnyH_take (i := 29) (v := ?_) rfl (by kernel_rfl) (by kernel_rfl) (by kernel_rfl) (fun _ _ _ h => h) (Or.inl ⟨by rfl, ?_⟩) (by assumption) ?_
      rotate_left
      · intro w hSw
        try dsimp only at hSw
        go_simp
        all_goals with_reducible rfl
      try simp only [Act.put, List.getElem_toArray, List.getElem_cons_succ, List.getElem_cons_zero, List.setIfInBounds_toArray, List.set_cons_zero, List.set_cons_succ]
      refine wpAnyH_take (i := 30) (v := ?_) rfl (by kernel_rfl) (by kernel_rfl) (by kernel_rfl) (fun _ _ _ h => h) (Or.inl ⟨by rfl, ?_⟩) (by assumption) ?_
      rotate_left
      · intro w hSw
        try dsimp only at hSw
        go_simp
        all_goals with_reducible rfl
      try simp only [Act.put, List.getElem_toArray, List.getElem_cons_succ, List.getElem_cons_zero, List.setIfInBounds_toArray, List.set_cons_zero, List.set_cons_succ]
      refine wpAnyH_take (i := 31) (v := ?_) rfl (by kernel_rfl) (by kernel_rfl) (by kernel_rfl) (fun _ _ _ h => h) (Or.inl ⟨by rfl, ?_⟩) (by assumption) ?_
      rotate_left
      · intro w hSw
        try dsimp only at hSw
        go_simp
        all_goals with_reducible rfl
      try simp only [Act.put, List.getElem_toArray, List.getElem_cons_succ, List.getElem_cons_zero, List.setIfInBounds_toArray, List.set_cons_zero, List.set_cons_succ]
      refine wpAnyH_take (i := 32) (v := ?_) rfl (by kernel_rfl) (by kernel_rfl) (by kernel_rfl) (fun _ _ _ h => h) (Or.inl ⟨by rfl, ?_⟩) (by assumption) ?_
      rotate_left
      · intro w hSw
        try dsimp only at hSw
        go_simp
        all_goals with_reducible rfl
      try simp only [Act.put, List.getElem_toArray, List.getElem_cons_succ, List.getElem_cons_zero, List.setIfInBounds_toArray, List.set_cons_zero, List.set_cons_succ]
      refine wpAnyH_take (i := 33) (v := ?_) rfl (by kernel_rfl) (by kernel_rfl) (by kernel_rfl) (fun _ _ _ h => h) (Or.inl ⟨by rfl, ?_⟩) (by assumption) ?_
      rotate_left
      · intro w hSw
        try dsimp only at hSw
        go_simp
        all_goals with_reducible rfl
      try simp only [Act.put, List.getElem_toArray, List.getElem_cons_succ, List.getElem_cons_zero, List.setIfInBounds_toArray, List.set_cons_zero, List.set_cons_succ]
      refine wpAnyH_take (i := 34) (v := ?_) rfl (by kernel_rfl) (by kernel_rfl) (by kernel_rfl) (fun _ _ _ h => h) (Or.inl ⟨by rfl, ?_⟩) (by assumption) ?_
      rotate_left
      · intro w hSw
        try dsimp only at hSw
        go_simp
        all_goals with_reducible rfl
      try simp only [Act.put, List.getElem_toArray, List.getElem_cons_succ, List.getElem_cons_zero, List.setIfInBounds_toArray, List.set_cons_zero, List.set_cons_succ]
      refine wpAnyH_ready (rs := [35]) (by kernel_rfl) (by simp) ?_
      refine AllReadyH.cons rfl (fun K hK => ?_) AllReadyH.nil
      go_simp
      refine hK.out _ _ ?_ (fun hHeld2 => ?_)
      · exact ⟨(World.cell?_setCell_far _ ⟨A, i, none⟩ ⟨b, o + j0, none⟩ _ HbA.out.symm).trans r0, (World.cell?_setCell_far _ ⟨A, i, none⟩ ⟨b, o + j1, none⟩ _ HbA.out.symm).trans r1, (World.cell?_setCell_far _ ⟨A, i, none⟩ ⟨b, o + j2, none⟩ _ HbA.out.symm).trans r2, (World.cell?_setCell_far _ ⟨A, i, none⟩ ⟨b, o + j3, none⟩ _ HbA.out.symm).trans r3⟩
      clear hK K hHeld
      have hHeld := hHeld2
      clear hHeld2
      try simp only [Act.put, List.getElem_toArray, List.getElem_cons_succ, List.getElem_cons_zero, List.setIfInBounds_toArray, List.set_cons_zero, List.set_cons_succ]
      refine wpAnyH_done (by kernel_rfl) ?_ _
      go_wp2_with fail
      rw [HOR.out, ← HWD.out]
      exact ⟨⟨i + 1, by omega, by go_num, (HBX.out.next (by omega)).drew, (Below_set' HB'.out (Nat.le_refl _) _).drew⟩, by simp [intOf]; omega⟩
    · obtain rfl : i = 16 := by omega
      have HBX := Lib.hid hbx
      have HB' := Lib.hid hb
      clear hbx hb
      go_wp2_with fail
      go_loopw [4] (fun iv wr => ∃ i : Nat, 16 ≤ i ∧ i ≤ 64 ∧ iv = .int .i64 i ∧ UBox .u32 wr A 64 (fun j => if j < i then wordAt B j else 0) ∧ Below A w wr) (fun iv _ => 64 - (intOf iv).toNat)
      case atStart => exact ⟨16, by omega, by omega, rfl, HBX.out, HB'.out⟩
      case round =>
        obtain ⟨i, hi16, hi, rfl, hbx, hb⟩ := hrel
        by_cases hlt2 : i < 64
        · have l0 : (i : Int) < 64 := by omega
          have l1 : (0 : Int) ≤ (i : Int) := by omega
          obtain ⟨j15, hj15⟩ : ∃ j : Nat, j = i - 15 := ⟨_, rfl⟩
          obtain ⟨j2, hj2⟩ : ∃ j : Nat, j = i - 2 := ⟨_, rfl⟩
          obtain ⟨j16, hj16⟩ : ∃ j : Nat, j = i - 16 := ⟨_, rfl⟩
          obtain ⟨j7, hj7⟩ : ∃ j : Nat, j = i - 7 := ⟨_, rfl⟩
          have g15 : IntKind.i64.wrap ((i : Int) - 15) = (j15 : Int) := by rw [IntWalk.i64_in _ (by omega)]; omega
          have g2 : IntKind.i64.wrap ((i : Int) - 2) = (j2 : Int) := by rw [IntWalk.i64_in _ (by omega)]; omega
          have g16 : IntKind.i64.wrap ((i : Int) - 16) = (j16 : Int) := by rw [IntWalk.i64_in _ (by omega)]; omega
          have g7 : IntKind.i64.wrap ((i : Int) - 7) = (j7 : Int) := by rw [IntWalk.i64_in _ (by omega)]; omega
          obtain ⟨m01, m02⟩ : (0 : Int) ≤ (j15 : Int) ∧ (j15 : Int) < 64 := by omega
          obtain ⟨m11, m12⟩ : (0 : Int) ≤ (j2 : Int) ∧ (j2 : Int) < 64 := by omega
          obtain ⟨m21, m22⟩ : (0 : Int) ≤ (j16 : Int) ∧ (j16 : Int) < 64 := by omega
          obtain ⟨m31, m32⟩ : (0 : Int) ≤ (j7 : Int) ∧ (j7 : Int) < 64 := by omega
          have c15 : wr.cell? ⟨A, j15, none⟩ = some (.int .u32 (wordAt B j15 : Nat)) := by rw [hbx.cell j15 (by omega)]; rw [if_pos (by omega)]
          have c2 : wr.cell? ⟨A, j2, none⟩ = some (.int .u32 (wordAt B j2 : Nat)) := by rw [hbx.cell j2 (by omega)]; rw [if_pos (by omega)]
          have c16 : wr.cell? ⟨A, j16, none⟩ = some (.int .u32 (wordAt B j16 : Nat)) := by rw [hbx.cell j16 (by omega)]; rw [if_pos (by omega)]
          have c7 : wr.cell? ⟨A, j7, none⟩ = some (.int .u32 (wordAt B j7 : Nat)) := by rw [hbx.cell j7 (by omega)]; rw [if_pos (by omega)]
          have HNX : Hid (wordAt B i = (wordAt B j16 + sig0 (wordAt B j15) + wordAt B j7 + sig1 (wordAt B j2)) % 4294967296) := Lib.hid (by rw [hj15, hj2, hj16, hj7]; exact wordAt_next B hi16)
          have k15 := wordAt_lt HB.out j15
          have k2 := wordAt_lt HB.out j2
          have k16 := wordAt_lt HB.out j16
          have k7 := wordAt_lt HB.out j7
          obtain ⟨y15, hy15⟩ : ∃ x, wordAt B j15 = x := ⟨_, rfl⟩
          obtain ⟨y2, hy2⟩ : ∃ x, wordAt B j2 = x := ⟨_, rfl⟩
          obtain ⟨y16, hy16⟩ : ∃ x, wordAt B j16 = x := ⟨_, rfl⟩
          obtain ⟨y7, hy7⟩ : ∃ x, wordAt B j7 = x := ⟨_, rfl⟩
          rw [hy15] at c15 k15 HNX
          rw [hy2] at c2 k2 HNX
          rw [hy16] at c16 k16 HNX
          rw [hy7] at c7 k7 HNX
          have HBX := Lib.hid hbx
          have HB' := Lib.hid hb
          have HNE : Hid (j16 ≠ i ∧ j7 ≠ i) := Lib.hid (by omega)
          clear hbx hb hy15 hy2 hy16 hy7 hj15 hj2 hj16 hj7
          go_upto_region 9 with fail
          go_quiet (fail)
          go_upto_region 10 with fail
          have hdn := Below_dn (Below.refl wr.heap.size wr) nq
          obtain ⟨w5, hw5⟩ : ∃ w5, wr.drewN nq = w5 := ⟨_, rfl⟩
          rw [hw5] at hdn ⊢
          have HBX5 := Lib.hid (HBX.out.below hdn)
          obtain ⟨s0, t0, hs0⟩ : ∃ s0 : Nat, bits .xor .u32 ((rotr 7 y15 ^^^ rotr 18 y15 : Nat) : Int) ((y15 : Int) / 8) = (s0 : Int) ∧ s0 = sig0 y15 := ⟨_, bitsN32_xor (rotr 7 y15 ^^^ rotr 18 y15) (y15 / 8) (Nat.xor_lt_two_pow (rotr_lt k15) (rotr_lt k15)) (by omega), rfl⟩
          obtain ⟨s1, t1, hs1⟩ : ∃ s1 : Nat, bits .xor .u32 ((rotr 17 y2 ^^^ rotr 19 y2 : Nat) : Int) ((y2 : Int) / 1024) = (s1 : Int) ∧ s1 = sig1 y2 := ⟨_, bitsN32_xor (rotr 17 y2 ^^^ rotr 19 y2) (y2 / 1024) (Nat.xor_lt_two_pow (rotr_lt k2) (rotr_lt k2)) (by omega), rfl⟩
          obtain ⟨a1, t2, ha1⟩ : ∃ a1 : Nat, IntKind.u32.wrap ((y16 : Int) + (s0 : Int)) = (a1 : Int) ∧ a1 = (y16 + s0) % 4294967296 := ⟨_, by rw [IntKind.wrap_u32]; omega, rfl⟩
          obtain ⟨a2, t3, ha2⟩ : ∃ a2 : Nat, IntKind.u32.wrap ((a1 : Int) + (y7 : Int)) = (a2 : Int) ∧ a2 = (a1 + y7) % 4294967296 := ⟨_, by rw [IntKind.wrap_u32]; omega, rfl⟩
          obtain ⟨a3, t4, ha3⟩ : ∃ a3 : Nat, IntKind.u32.wrap ((a2 : Int) + (s1 : Int)) = (a3 : Int) ∧ a3 = (a2 + s1) % 4294967296 := ⟨_, by rw [IntKind.wrap_u32]; omega, rfl⟩
          have HV : Hid (a3 = wordAt B i) := Lib.hid (by rw [HNX.out, ha3, ha2, ha1, hs0, hs1]; omega)
          clear hs0 hs1 ha1 ha2 ha3 HNX
          have HB5 := Lib.hid (HB'.out.trans (hdn.mono (Nat.le_of_lt HBX.out.lt)))
          have n16 : j16 ≠ i ∧ j7 ≠ i := HNE.out
          have d16 := (hdn.cell (p := ⟨A, j16, none⟩) (cell_lt' c16)).trans c16
          have d7 := (hdn.cell (p := ⟨A, j7, none⟩) (cell_lt' c7)).trans c7
          have HKS : Hid (∀ W, Below w5.heap.size w5 W → W.cell? ⟨A, j16, none⟩ = some (.int .u32 (y16 : Nat)) ∧ W.cell? ⟨A, j7, none⟩ = some (.int .u32 (y7 : Nat))) := Lib.hid (fun W hb => ⟨(hb.cell (p := ⟨A, j16, none⟩) (cell_lt' d16)).trans d16, (hb.cell (p := ⟨A, j7, none⟩) (cell_lt' d7)).trans d7⟩)
          clear hdn hw5 c15 c2 c16 c7
          refine wp_region_held_drew (S := (fun W => W.cell? ⟨A, j16, none⟩ = some (.int .u32 (y16 : Nat)) ∧ W.cell? ⟨A, j7, none⟩ = some (.int .u32 (y7 : Nat)))) (by kernel_rfl) ?_ (fun hHeld => ?_)
          · exact HKS.out _ (Below.refl _ _).drew
          refine wpAnyH_take (i := 0) (v := ?_) rfl (by kernel_rfl) (by kernel_rfl) (by kernel_rfl) (fun _ _ _ h => h) (Or.inl ⟨by rfl, ?_⟩) (by assumption) ?_
          rotate_left
          · intro w hSw
            try dsimp only at hSw
            go_simp
            all_goals with_reducible rfl
          try simp only [Act.put, List.getElem_toArray, List.getElem_cons_zero, List.setIfInBounds_toArray, List.set_cons_zero, List.set_cons_succ]
          refine wpAnyH_take (i := 1) (v := ?_) rfl (by kernel_rfl) (by kernel_rfl) (by kernel_rfl) (fun _ _ _ h => h) (Or.inl ⟨by rfl, ?_⟩) (by assumption) ?_
          rotate_left
          · intro w hSw
            try dsimp only at hSw
            go_simp
            all_goals with_reducible rfl
          try simp only [Act.put, List.getElem_toArray, List.getElem_cons_succ, List.getElem_cons_zero, List.setIfInBounds_toArray, List.set_cons_zero, List.set_cons_succ]
          refine wpAnyH_take (i := 2) (v := ?_) rfl (by kernel_rfl) (by kernel_rfl) (by kernel_rfl) (fun _ _ _ h => h) (Or.inl ⟨by rfl, ?_⟩) (by assumption) ?_
          rotate_left
          · intro w hSw
            try dsimp only at hSw
            go_simp
            all_goals with_reducible rfl
          try simp only [Act.put, List.getElem_toArray, List.getElem_cons_succ, List.getElem_cons_zero, List.setIfInBounds_toArray, List.set_cons_zero, List.set_cons_succ]
          refine wpAnyH_take (i := 3) (v := ?_) rfl (by kernel_rfl) (by kernel_rfl) (by kernel_rfl) (fun _ _ _ h => h) (Or.inl ⟨by rfl, ?_⟩) (by assumption) ?_
          rotate_left
          · intro w hSw
            try dsimp only at hSw
            go_simp
            all_goals with_reducible rfl
          try simp only [Act.put, List.getElem_toArray, List.getElem_cons_succ, List.getElem_cons_zero, List.setIfInBounds_toArray, List.set_cons_zero, List.set_cons_succ]
          refine wpAnyH_take (i := 4) (v := ?_) rfl (by kernel_rfl) (by kernel_rfl) (by kernel_rfl) (fun _ _ _ h => h) (Or.inl ⟨by rfl, ?_⟩) (by assumption) ?_
          rotate_left
          · intro w hSw
            try dsimp only at hSw
            go_simp
            all_goals with_reducible rfl
          try simp only [Act.put, List.getElem_toArray, List.getElem_cons_succ, List.getElem_cons_zero, List.setIfInBounds_toArray, List.set_cons_zero, List.set_cons_succ]
          refine wpAnyH_take (i := 5) (v := ?_) rfl (by kernel_rfl) (by kernel_rfl) (by kernel_rfl) (fun _ _ _ h => h) (Or.inl ⟨by rfl, ?_⟩) (by assumption) ?_
          rotate_left
          · intro w hSw
            try dsimp only at hSw
            go_simp
            all_goals with_reducible rfl
          try simp only [Act.put, List.getElem_toArray, List.getElem_cons_succ, List.getElem_cons_zero, List.setIfInBounds_toArray, List.set_cons_zero, List.set_cons_succ]
          refine wpAnyH_take (i := 8) (v := ?_) rfl (by kernel_rfl) (by kernel_rfl) (by kernel_rfl) (fun _ _ _ h => h) (Or.inl ⟨by rfl, ?_⟩) (by assumption) ?_
          rotate_left
          · intro w hSw
            try dsimp only at hSw
            go_simp
            all_goals with_reducible rfl
          try simp only [Act.put, List.getElem_toArray, List.getElem_cons_succ, List.getElem_cons_zero, List.setIfInBounds_toArray, List.set_cons_zero, List.set_cons_succ]
          refine wpAnyH_take (i := 9) (v := ?_) rfl (by kernel_rfl) (by kernel_rfl) (by kernel_rfl) (fun _ _ _ h => h) (Or.inl ⟨by rfl, ?_⟩) (by assumption) ?_
          rotate_left
          · intro w hSw
            try dsimp only at hSw
            go_simp
            all_goals with_reducible rfl
          try simp only [Act.put, List.getElem_toArray, List.getElem_cons_succ, List.getElem_cons_zero, List.setIfInBounds_toArray, List.set_cons_zero, List.set_cons_succ]
          refine wpAnyH_take (i := 12) (v := ?_) rfl (by kernel_rfl) (by kernel_rfl) (by kernel_rfl) (fun _ _ _ h => h) (Or.inl ⟨by rfl, ?_⟩) (by assumption) ?_
          rotate_left
          · intro w hSw
            try dsimp only at hSw
            go_simp
            all_goals with_reducible rfl
          try simp only [Act.put, List.getElem_toArray, List.getElem_cons_succ, List.getElem_cons_zero, List.setIfInBounds_toArray, List.set_cons_zero, List.set_cons_succ]
          refine wpAnyH_take (i := 13) (v := ?_) rfl (by kernel_rfl) (by kernel_rfl) (by kernel_rfl) (fun _ _ _ h => h) (Or.inl ⟨by rfl, ?_⟩) (by assumption) ?_
          rotate_left
          · intro w hSw
            try dsimp only at hSw
            go_simp
            all_goals with_reducible rfl
          try simp only [Act.put, List.getElem_toArray, List.getElem_cons_succ, List.getElem_cons_zero, List.setIfInBounds_toArray, List.set_cons_zero, List.set_cons_succ]
          refine wpAnyH_take (i := 14) (v := ?_) rfl (by kernel_rfl) (by kernel_rfl) (by kernel_rfl) (fun _ _ _ h => h) (Or.inl ⟨by rfl, ?_⟩) (by assumption) ?_
          rotate_left
          · intro w hSw
            try dsimp only at hSw
            go_simp
            all_goals with_reducible rfl
          try simp only [Act.put, List.getElem_toArray, List.getElem_cons_succ, List.getElem_cons_zero, List.setIfInBounds_toArray, List.set_cons_zero, List.set_cons_succ]
          refine wpAnyH_take (i := 15) (v := ?_) rfl (by kernel_rfl) (by kernel_rfl) (by kernel_rfl) (fun _ _ _ h => h) (Or.inl ⟨by rfl, ?_⟩) (by assumption) ?_
          rotate_left
          · intro w hSw
            try dsimp only at hSw
            go_simp
            all_goals with_reducible rfl
          try simp only [Act.put, List.getElem_toArray, List.getElem_cons_succ, List.getElem_cons_zero, List.setIfInBounds_toArray, List.set_cons_zero, List.set_cons_succ]
          refine wpAnyH_take (i := 17) (v := ?_) rfl (by kernel_rfl) (by kernel_rfl) (by kernel_rfl) (fun _ _ _ h => h) (Or.inl ⟨by rfl, ?_⟩) (by assumption) ?_
          rotate_left
          · intro w hSw
            try dsimp only at hSw
            go_simp
            all_goals with_reducible rfl
          try simp only [Act.put, List.getElem_toArray, List.getElem_cons_succ, List.getElem_cons_zero, List.setIfInBounds_toArray, List.set_cons_zero, List.set_cons_succ]
          refine wpAnyH_take (i := 20) (v := ?_) rfl (by kernel_rfl) (by kernel_rfl) (by kernel_rfl) (fun _ _ _ h => h) (Or.inl ⟨by rfl, ?_⟩) (by assumption) ?_
          rotate_left
          · intro w hSw
            try dsimp only at hSw
            go_simp
            all_goals with_reducible rfl
          try simp only [Act.put, List.getElem_toArray, List.getElem_cons_succ, List.getElem_cons_zero, List.setIfInBounds_toArray, List.set_cons_zero, List.set_cons_succ]
          refine wpAnyH_take (i := 21) (v := ?_) rfl (by kernel_rfl) (by kernel_rfl) (by kernel_rfl) (fun _ _ _ h => h) (Or.inl ⟨by rfl, ?_⟩) (by assumption) ?_
          rotate_left
          · intro w hSw
            try dsimp only at hSw
            go_simp
            all_goals with_reducible rfl
          try simp only [Act.put, List.getElem_toArray, List.getElem_cons_succ, List.getElem_cons_zero, List.setIfInBounds_toArray, List.set_cons_zero, List.set_cons_succ]
          refine wpAnyH_ready (rs := [6, 18]) (by kernel_rfl) (by simp) ?_
          refine AllReadyH.cons rfl (fun K hK => ?_) (AllReadyH.cons rfl (fun K hK => ?_) AllReadyH.nil)
          · skip
            go_simp
            refine hK.out _ _ ?_ (fun hHeld2 => ?_)
            · exact HKS.out _ ((Below.refl w5.heap.size w5).drew.alloc (Nat.le_refl _) _)
            clear hK K hHeld
            have hHeld := hHeld2
            clear hHeld2
            try simp only [Act.put, List.getElem_toArray, List.getElem_cons_succ, List.getElem_cons_zero, List.setIfInBounds_toArray, List.set_cons_zero, List.set_cons_succ]
            refine wpAnyH_ready (rs := [7, 18]) (by kernel_rfl) (by simp) ?_
            refine AllReadyH.cons rfl (fun K hK => ?_) (AllReadyH.cons rfl (fun K hK => ?_) AllReadyH.nil)
            · skip
              go_simp
              go_at_call 78
              refine (mixed2_any y15 _ _ 2 7 18 _ k15 ⟨by omega, by omega⟩ ⟨by omega, by omega⟩ (by simp) (by simp)).mono ?_
              rintro e w6 ⟨rfl, rfl⟩
              refine hK.out _ _ ?_ (fun hHeld2 => ?_)
              · exact HKS.out _ ((Below.refl w5.heap.size w5).drew.alloc (Nat.le_refl _) _)
              clear hK K hHeld
              have hHeld := hHeld2
              clear hHeld2
              try simp only [Act.put, List.getElem_toArray, List.getElem_cons_succ, List.getElem_cons_zero, List.setIfInBounds_toArray, List.set_cons_zero, List.set_cons_succ]
              refine wpAnyH_take (i := 10) (v := ?_) rfl (by kernel_rfl) (by kernel_rfl) (by kernel_rfl) (fun _ _ _ h => h) (Or.inl ⟨by rfl, ?_⟩) (by assumption) ?_
              rotate_left
              · intro w hSw
                try dsimp only at hSw
                go_simp
                all_goals with_reducible rfl
              try simp only [Act.put, List.getElem_toArray, List.getElem_cons_succ, List.getElem_cons_zero, List.setIfInBounds_toArray, List.set_cons_zero, List.set_cons_succ]
              refine wpAnyH_take (i := 11) (v := ?_) rfl (by kernel_rfl) (by kernel_rfl) (by kernel_rfl) (fun _ _ _ h => h) (Or.inl ⟨by rfl, ?_⟩) (by assumption) ?_
              rotate_left
              · intro w hSw
                try dsimp only at hSw
                go_simp
                all_goals with_reducible rfl
              try simp only [Act.put, List.getElem_toArray, List.getElem_cons_succ, List.getElem_cons_zero, List.setIfInBounds_toArray, List.set_cons_zero, List.set_cons_succ]
              refine wpAnyH_take (i := 16) (v := ?_) rfl (by kernel_rfl) (by kernel_rfl) (by kernel_rfl) (fun _ _ _ h => h) (Or.inl ⟨by rfl, ?_⟩) (by assumption) ?_
              rotate_left
              · intro w hSw
                try dsimp only at hSw
                go_simp
                all_goals with_reducible rfl
              try simp only [Act.put, List.getElem_toArray, List.getElem_cons_succ, List.getElem_cons_zero, List.setIfInBounds_toArray, List.set_cons_zero, List.set_cons_succ]
              refine wpAnyH_ready (rs := [18]) (by kernel_rfl) (by simp) ?_
              refine AllReadyH.cons rfl (fun K hK => ?_) AllReadyH.nil
              go_simp
              refine hK.out _ _ ?_ (fun hHeld2 => ?_)
              · exact HKS.out _ (((Below.refl w5.heap.size w5).drew.alloc (Nat.le_refl _) _).alloc (by simp) _)
              clear hK K hHeld
              have hHeld := hHeld2
              clear hHeld2
              try simp only [Act.put, List.getElem_toArray, List.getElem_cons_succ, List.getElem_cons_zero, List.setIfInBounds_toArray, List.set_cons_zero, List.set_cons_succ]
              refine wpAnyH_ready (rs := [19]) (by kernel_rfl) (by simp) ?_
              refine AllReadyH.cons rfl (fun K hK => ?_) AllReadyH.nil
              go_simp
              go_at_call 78
              refine (mixed2_any y2 _ _ 2 17 19 _ k2 ⟨by omega, by omega⟩ ⟨by omega, by omega⟩ (by simp) (by simp)).mono ?_
              rintro e w7 ⟨rfl, rfl⟩
              have hb7 : Below w5.heap.size w5 ((w5.alloc (.cells #[.int .i64 7, .int .i64 18] 3)).alloc (.cells #[.int .i64 17, .int .i64 19] 3)) := ((Below.refl w5.heap.size w5).alloc (Nat.le_refl _) _).alloc (by simp) _
              obtain ⟨e16, e7⟩ := HKS.out _ hb7
              have hbx7 := HBX5.out.below hb7
              have hf7 := hbx7.free i
              have hc7 := hbx7.cell i (by omega)
              refine hK.out _ _ ?_ (fun hHeld2 => ?_)
              · exact HKS.out _ (((Below.refl w5.heap.size w5).drew.alloc (Nat.le_refl _) _).alloc (by simp) _)
              clear hK K hHeld
              have hHeld := hHeld2
              clear hHeld2
              try simp only [Act.put, List.getElem_toArray, List.getElem_cons_succ, List.getElem_cons_zero, List.setIfInBounds_toArray, List.set_cons_zero, List.set_cons_succ]
              refine wpAnyH_take (i := 22) (v := ?_) rfl (by kernel_rfl) (by kernel_rfl) (by kernel_rfl) (fun _ _ _ h => h) (Or.inl ⟨by rfl, ?_⟩) (by assumption) ?_
              rotate_left
              · intro w hSw
                try dsimp only at hSw
                go_simp
                all_goals with_reducible rfl
              try simp only [Act.put, List.getElem_toArray, List.getElem_cons_succ, List.getElem_cons_zero, List.setIfInBounds_toArray, List.set_cons_zero, List.set_cons_succ]
              refine wpAnyH_take (i := 23) (v := ?_) rfl (by kernel_rfl) (by kernel_rfl) (by kernel_rfl) (fun _ _ _ h => h) (Or.inl ⟨by rfl, ?_⟩) (by assumption) ?_
              rotate_left
              · intro w hSw
                try dsimp only at hSw
                go_simp
                all_goals with_reducible rfl
              try simp only [Act.put, List.getElem_toArray, List.getElem_cons_succ, List.getElem_cons_zero, List.setIfInBounds_toArray, List.set_cons_zero, List.set_cons_succ]
              refine wpAnyH_take (i := 24) (v := ?_) rfl (by kernel_rfl) (by kernel_rfl) (by kernel_rfl) (fun _ _ _ h => h) (Or.inl ⟨by rfl, ?_⟩) (by assumption) ?_
              rotate_left
              · intro w hSw
                try dsimp only at hSw
                go_simp
                all_goals with_reducible rfl
              try simp only [Act.put, List.getElem_toArray, List.getElem_cons_succ, List.getElem_cons_zero, List.setIfInBounds_toArray, List.set_cons_zero, List.set_cons_succ]
              refine wpAnyH_ready (rs := [25]) (by kernel_rfl) (by simp) ?_
              refine AllReadyH.cons rfl (fun K hK => ?_) AllReadyH.nil
              go_simp
              refine hK.out _ _ ?_ (fun hHeld2 => ?_)
              · exact ⟨(World.cell?_setCell_other _ ⟨A, i, none⟩ ⟨A, j16, none⟩ _ (by intro h; injection h; omega)).trans e16, (World.cell?_setCell_other _ ⟨A, i, none⟩ ⟨A, j7, none⟩ _ (by intro h; injection h; omega)).trans e7⟩
              clear hK K hHeld
              have hHeld := hHeld2
              clear hHeld2
              try simp only [Act.put, List.getElem_toArray, List.getElem_cons_succ, List.getElem_cons_zero, List.setIfInBounds_toArray, List.set_cons_zero, List.set_cons_succ]
              refine wpAnyH_done (by kernel_rfl) ?_ _
              go_wp2_with fail
              go_roundw
              case rel =>
                (repeat apply Exists.intro)
                exact ⟨⟨i + 1, by omega, by omega, by go_num, by rw [HV.out]; exact (hbx7.next (by omega)).drew, (Below_set' (HB5.out.trans (hb7.mono (Nat.le_of_lt HBX5.out.lt))) (Nat.le_refl _) _).drew⟩, rfl⟩
              case measure => simp [intOf]; omega
            · skip
              go_simp
              refine hK.out _ _ ?_ (fun hHeld2 => ?_)
              · exact HKS.out _ (((Below.refl w5.heap.size w5).drew.alloc (Nat.le_refl _) _).alloc (by simp) _)
              clear hK K hHeld
              have hHeld := hHeld2
              clear hHeld2
              try simp only [Act.put, List.getElem_toArray, List.getElem_cons_succ, List.getElem_cons_zero, List.setIfInBounds_toArray, List.set_cons_zero, List.set_cons_succ]
              refine wpAnyH_ready (rs := [7]) (by kernel_rfl) (by simp) ?_
              refine AllReadyH.cons rfl (fun K hK => ?_) AllReadyH.nil
              go_simp
              go_at_call 78
              refine (mixed2_any y15 _ _ 2 7 18 _ k15 ⟨by omega, by omega⟩ ⟨by omega, by omega⟩ (by simp) (by simp)).mono ?_
              rintro e w6 ⟨rfl, rfl⟩
              refine hK.out _ _ ?_ (fun hHeld2 => ?_)
              · exact HKS.out _ (((Below.refl w5.heap.size w5).drew.alloc (Nat.le_refl _) _).alloc (by simp) _)
              clear hK K hHeld
              have hHeld := hHeld2
              clear hHeld2
              try simp only [Act.put, List.getElem_toArray, List.getElem_cons_succ, List.getElem_cons_zero, List.setIfInBounds_toArray, List.set_cons_zero, List.set_cons_succ]
              refine wpAnyH_take (i := 10) (v := ?_) rfl (by kernel_rfl) (by kernel_rfl) (by kernel_rfl) (fun _ _ _ h => h) (Or.inl ⟨by rfl, ?_⟩) (by assumption) ?_
              rotate_left
              · intro w hSw
                try dsimp only at hSw
                go_simp
                all_goals with_reducible rfl
              try simp only [Act.put, List.getElem_toArray, List.getElem_cons_succ, List.getElem_cons_zero, List.setIfInBounds_toArray, List.set_cons_zero, List.set_cons_succ]
              refine wpAnyH_take (i := 11) (v := ?_) rfl (by kernel_rfl) (by kernel_rfl) (by kernel_rfl) (fun _ _ _ h => h) (Or.inl ⟨by rfl, ?_⟩) (by assumption) ?_
              rotate_left
              · intro w hSw
                try dsimp only at hSw
                go_simp
                all_goals with_reducible rfl
              try simp only [Act.put, List.getElem_toArray, List.getElem_cons_succ, List.getElem_cons_zero, List.setIfInBounds_toArray, List.set_cons_zero, List.set_cons_succ]
              refine wpAnyH_take (i := 16) (v := ?_) rfl (by kernel_rfl) (by kernel_rfl) (by kernel_rfl) (fun _ _ _ h => h) (Or.inl ⟨by rfl, ?_⟩) (by assumption) ?_
              rotate_left
              · intro w hSw
                try dsimp only at hSw
                go_simp
                all_goals with_reducible rfl
              try simp only [Act.put, List.getElem_toArray, List.getElem_cons_succ, List.getElem_cons_zero, List.setIfInBounds_toArray, List.set_cons_zero, List.set_cons_succ]
              refine wpAnyH_ready (rs := [19]) (by kernel_rfl) (by simp) ?_
              refine AllReadyH.cons rfl (fun K hK => ?_) AllReadyH.nil
              go_simp
              go_at_call 78
              refine (mixed2_any y2 _ _ 2 17 19 _ k2 ⟨by omega, by omega⟩ ⟨by omega, by omega⟩ (by simp) (by simp)).mono ?_
              rintro e w7 ⟨rfl, rfl⟩
              have hb7 : Below w5.heap.size w5 ((w5.alloc (.cells #[.int .i64 7, .int .i64 18] 3)).alloc (.cells #[.int .i64 17, .int .i64 19] 3)) := ((Below.refl w5.heap.size w5).alloc (Nat.le_refl _) _).alloc (by simp) _
              obtain ⟨e16, e7⟩ := HKS.out _ hb7
              have hbx7 := HBX5.out.below hb7
              have hf7 := hbx7.free i
              have hc7 := hbx7.cell i (by omega)
              refine hK.out _ _ ?_ (fun hHeld2 => ?_)
              · exact HKS.out _ (((Below.refl w5.heap.size w5).drew.alloc (Nat.le_refl _) _).alloc (by simp) _)
              clear hK K hHeld
              have hHeld := hHeld2
              clear hHeld2
              try simp only [Act.put, List.getElem_toArray, List.getElem_cons_succ, List.getElem_cons_zero, List.setIfInBounds_toArray, List.set_cons_zero, List.set_cons_succ]
              refine wpAnyH_take (i := 22) (v := ?_) rfl (by kernel_rfl) (by kernel_rfl) (by kernel_rfl) (fun _ _ _ h => h) (Or.inl ⟨by rfl, ?_⟩) (by assumption) ?_
              rotate_left
              · intro w hSw
                try dsimp only at hSw
                go_simp
                all_goals with_reducible rfl
              try simp only [Act.put, List.getElem_toArray, List.getElem_cons_succ, List.getElem_cons_zero, List.setIfInBounds_toArray, List.set_cons_zero, List.set_cons_succ]
              refine wpAnyH_take (i := 23) (v := ?_) rfl (by kernel_rfl) (by kernel_rfl) (by kernel_rfl) (fun _ _ _ h => h) (Or.inl ⟨by rfl, ?_⟩) (by assumption) ?_
              rotate_left
              · intro w hSw
                try dsimp only at hSw
                go_simp
                all_goals with_reducible rfl
              try simp only [Act.put, List.getElem_toArray, List.getElem_cons_succ, List.getElem_cons_zero, List.setIfInBounds_toArray, List.set_cons_zero, List.set_cons_succ]
              refine wpAnyH_take (i := 24) (v := ?_) rfl (by kernel_rfl) (by kernel_rfl) (by kernel_rfl) (fun _ _ _ h => h) (Or.inl ⟨by rfl, ?_⟩) (by assumption) ?_
              rotate_left
              · intro w hSw
                try dsimp only at hSw
                go_simp
                all_goals with_reducible rfl
              try simp only [Act.put, List.getElem_toArray, List.getElem_cons_succ, List.getElem_cons_zero, List.setIfInBounds_toArray, List.set_cons_zero, List.set_cons_succ]
              refine wpAnyH_ready (rs := [25]) (by kernel_rfl) (by simp) ?_
              refine AllReadyH.cons rfl (fun K hK => ?_) AllReadyH.nil
              go_simp
              refine hK.out _ _ ?_ (fun hHeld2 => ?_)
              · exact ⟨(World.cell?_setCell_other _ ⟨A, i, none⟩ ⟨A, j16, none⟩ _ (by intro h; injection h; omega)).trans e16, (World.cell?_setCell_other _ ⟨A, i, none⟩ ⟨A, j7, none⟩ _ (by intro h; injection h; omega)).trans e7⟩
              clear hK K hHeld
              have hHeld := hHeld2
              clear hHeld2
              try simp only [Act.put, List.getElem_toArray, List.getElem_cons_succ, List.getElem_cons_zero, List.setIfInBounds_toArray, List.set_cons_zero, List.set_cons_succ]
              refine wpAnyH_done (by kernel_rfl) ?_ _
              go_wp2_with fail
              go_roundw
              case rel =>
                (repeat apply Exists.intro)
                exact ⟨⟨i + 1, by omega, by omega, by go_num, by rw [HV.out]; exact (hbx7.next (by omega)).drew, (Below_set' (HB5.out.trans (hb7.mono (Nat.le_of_lt HBX5.out.lt))) (Nat.le_refl _) _).drew⟩, rfl⟩
              case measure => simp [intOf]; omega
          · skip
            go_simp
            refine hK.out _ _ ?_ (fun hHeld2 => ?_)
            · exact HKS.out _ ((Below.refl w5.heap.size w5).drew.alloc (Nat.le_refl _) _)
            clear hK K hHeld
            have hHeld := hHeld2
            clear hHeld2
            try simp only [Act.put, List.getElem_toArray, List.getElem_cons_succ, List.getElem_cons_zero, List.setIfInBounds_toArray, List.set_cons_zero, List.set_cons_succ]
            refine wpAnyH_ready (rs := [6]) (by kernel_rfl) (by simp) ?_
            refine AllReadyH.cons rfl (fun K hK => ?_) AllReadyH.nil
            go_simp
            refine hK.out _ _ ?_ (fun hHeld2 => ?_)
            · exact HKS.out _ (((Below.refl w5.heap.size w5).drew.alloc (Nat.le_refl _) _).alloc (by simp) _)
            clear hK K hHeld
            have hHeld := hHeld2
            clear hHeld2
            try simp only [Act.put, List.getElem_toArray, List.getElem_cons_succ, List.getElem_cons_zero, List.setIfInBounds_toArray, List.set_cons_zero, List.set_cons_succ]
            refine wpAnyH_ready (rs := [7]) (by kernel_rfl) (by simp) ?_
            refine AllReadyH.cons rfl (fun K hK => ?_) AllReadyH.nil
            go_simp
            go_at_call 78
            refine (mixed2_any y15 _ _ 2 7 18 _ k15 ⟨by omega, by omega⟩ ⟨by omega, by omega⟩ (by simp) (by simp)).mono ?_
            rintro e w6 ⟨rfl, rfl⟩
            refine hK.out _ _ ?_ (fun hHeld2 => ?_)
            · exact HKS.out _ (((Below.refl w5.heap.size w5).drew.alloc (Nat.le_refl _) _).alloc (by simp) _)
            clear hK K hHeld
            have hHeld := hHeld2
            clear hHeld2
            try simp only [Act.put, List.getElem_toArray, List.getElem_cons_succ, List.getElem_cons_zero, List.setIfInBounds_toArray, List.set_cons_zero, List.set_cons_succ]
            refine wpAnyH_take (i := 10) (v := ?_) rfl (by kernel_rfl) (by kernel_rfl) (by kernel_rfl) (fun _ _ _ h => h) (Or.inl ⟨by rfl, ?_⟩) (by assumption) ?_
            rotate_left
            · intro w hSw
              try dsimp only at hSw
              go_simp
              all_goals with_reducible rfl
            try simp only [Act.put, List.getElem_toArray, List.getElem_cons_succ, List.getElem_cons_zero, List.setIfInBounds_toArray, List.set_cons_zero, List.set_cons_succ]
            refine wpAnyH_take (i := 11) (v := ?_) rfl (by kernel_rfl) (by kernel_rfl) (by kernel_rfl) (fun _ _ _ h => h) (Or.inl ⟨by rfl, ?_⟩) (by assumption) ?_
            rotate_left
            · intro w hSw
              try dsimp only at hSw
              go_simp
              all_goals with_reducible rfl
            try simp only [Act.put, List.getElem_toArray, List.getElem_cons_succ, List.getElem_cons_zero, List.setIfInBounds_toArray, List.set_cons_zero, List.set_cons_succ]
            refine wpAnyH_take (i := 16) (v := ?_) rfl (by kernel_rfl) (by kernel_rfl) (by kernel_rfl) (fun _ _ _ h => h) (Or.inl ⟨by rfl, ?_⟩) (by assumption) ?_
            rotate_left
            · intro w hSw
              try dsimp only at hSw
              go_simp
              all_goals with_reducible rfl
            try simp only [Act.put, List.getElem_toArray, List.getElem_cons_succ, List.getElem_cons_zero, List.setIfInBounds_toArray, List.set_cons_zero, List.set_cons_succ]
            refine wpAnyH_ready (rs := [19]) (by kernel_rfl) (by simp) ?_
            refine AllReadyH.cons rfl (fun K hK => ?_) AllReadyH.nil
            go_simp
            go_at_call 78
            refine (mixed2_any y2 _ _ 2 17 19 _ k2 ⟨by omega, by omega⟩ ⟨by omega, by omega⟩ (by simp) (by simp)).mono ?_
            rintro e w7 ⟨rfl, rfl⟩
            have hb7 : Below w5.heap.size w5 ((w5.alloc (.cells #[.int .i64 17, .int .i64 19] 3)).alloc (.cells #[.int .i64 7, .int .i64 18] 3)) := ((Below.refl w5.heap.size w5).alloc (Nat.le_refl _) _).alloc (by simp) _
            obtain ⟨e16, e7⟩ := HKS.out _ hb7
            have hbx7 := HBX5.out.below hb7
            have hf7 := hbx7.free i
            have hc7 := hbx7.cell i (by omega)
            refine hK.out _ _ ?_ (fun hHeld2 => ?_)
            · exact HKS.out _ (((Below.refl w5.heap.size w5).drew.alloc (Nat.le_refl _) _).alloc (by simp) _)
            clear hK K hHeld
            have hHeld := hHeld2
            clear hHeld2
            try simp only [Act.put, List.getElem_toArray, List.getElem_cons_succ, List.getElem_cons_zero, List.setIfInBounds_toArray, List.set_cons_zero, List.set_cons_succ]
            refine wpAnyH_take (i := 22) (v := ?_) rfl (by kernel_rfl) (by kernel_rfl) (by kernel_rfl) (fun _ _ _ h => h) (Or.inl ⟨by rfl, ?_⟩) (by assumption) ?_
            rotate_left
            · intro w hSw
              try dsimp only at hSw
              go_simp
              all_goals with_reducible rfl
            try simp only [Act.put, List.getElem_toArray, List.getElem_cons_succ, List.getElem_cons_zero, List.setIfInBounds_toArray, List.set_cons_zero, List.set_cons_succ]
            refine wpAnyH_take (i := 23) (v := ?_) rfl (by kernel_rfl) (by kernel_rfl) (by kernel_rfl) (fun _ _ _ h => h) (Or.inl ⟨by rfl, ?_⟩) (by assumption) ?_
            rotate_left
            · intro w hSw
              try dsimp only at hSw
              go_simp
              all_goals with_reducible rfl
            try simp only [Act.put, List.getElem_toArray, List.getElem_cons_succ, List.getElem_cons_zero, List.setIfInBounds_toArray, List.set_cons_zero, List.set_cons_succ]
            refine wpAnyH_take (i := 24) (v := ?_) rfl (by kernel_rfl) (by kernel_rfl) (by kernel_rfl) (fun _ _ _ h => h) (Or.inl ⟨by rfl, ?_⟩) (by assumption) ?_
            rotate_left
            · intro w hSw
              try dsimp only at hSw
              go_simp
              all_goals with_reducible rfl
            try simp only [Act.put, List.getElem_toArray, List.getElem_cons_succ, List.getElem_cons_zero, List.setIfInBounds_toArray, List.set_cons_zero, List.set_cons_succ]
            refine wpAnyH_ready (rs := [25]) (by kernel_rfl) (by simp) ?_
            refine AllReadyH.cons rfl (fun K hK => ?_) AllReadyH.nil
            go_simp
            refine hK.out _ _ ?_ (fun hHeld2 => ?_)
            · exact ⟨(World.cell?_setCell_other _ ⟨A, i, none⟩ ⟨A, j16, none⟩ _ (by intro h; injection h; omega)).trans e16, (World.cell?_setCell_other _ ⟨A, i, none⟩ ⟨A, j7, none⟩ _ (by intro h; injection h; omega)).trans e7⟩
            clear hK K hHeld
            have hHeld := hHeld2
            clear hHeld2
            try simp only [Act.put, List.getElem_toArray, List.getElem_cons_succ, List.getElem_cons_zero, List.setIfInBounds_toArray, List.set_cons_zero, List.set_cons_succ]
            refine wpAnyH_done (by kernel_rfl) ?_ _
            go_wp2_with fail
            go_roundw
            case rel =>
              (repeat apply Exists.intro)
              exact ⟨⟨i + 1, by omega, by omega, by go_num, by rw [HV.out]; exact (hbx7.next (by omega)).drew, (Below_set' (HB5.out.trans (hb7.mono (Nat.le_of_lt HBX5.out.lt))) (Nat.le_refl _) _).drew⟩, rfl⟩
            case measure => simp [intOf]; omega
        · obtain rfl : i = 64 := by omega
          obtain ⟨cs, t, hh, hsz, hcs⟩ := hbx
          have HH := Lib.hid hh
          have HCS := Lib.hid (show ∀ j, j < 64 → cs[j]? = some (.int .u32 (wordAt B j : Nat)) from fun j hj => by
            have h := hcs j hj
            simp only [if_pos hj] at h
            exact h)
          have HSZ := Lib.hid hsz
          have HON := Lib.hid (u_one hsz hcs)
          have HBF := Lib.hid hb
          clear hh hcs hsz hb
          go_wp2_with (first
            | (with_reducible refine wpList_load_row (t := 127) rfl _ rfl (b := A) (n := 64) (cs := cs) (t' := t) (e := 77) ?_ ?_ HH.out HSZ.out ?_ ?_
               · exact Tryd.underlying127
               · kernel_rfl
               · rfl)
            | (with_reducible refine wpList_store_row (t := 127) rfl _ _ rfl (b := A) (n := 64) (cs := cs) (old := cs) (t' := t) ?_ HH.out HSZ.out HSZ.out HON.out ?_ ?_ ?_
               · kernel_rfl
               · rfl
               · rfl
               rw [setRow_same HH.out]))
          refine bodyPost_ret (v := .agg cs) (results_cell (t := 2) (ty := 127) (n := 64) (b := A) (e := 77) rfl (by rfl) Tryd.underlying127 (by kernel_rfl) HH.out HSZ.out) rfl ?_
          exact ⟨⟨cs, rfl, HSZ.out, HCS.out⟩, by rw [HA.out]; exact HBF.out⟩
end Go.Proofs.YtcfplkbbgjiocaaDoor
