/- The reference of chapter 2: the table, a block. Conditions: 8 words and 64 bytes that can be read. -/
import Derived.Test.YtcfplkbbgjiocaaDoorShaAdd
import Derived.Maps.AppendAt
import Derived.RangeFuncBox
import Derived.Deep.AppendLies
import Derived.Deep.RegionHeld3
namespace Go.Proofs.YtcfplkbbgjiocaaDoor
open Go Go.RowKit
/-- An owned row of numbers is read. -/
theorem own_readsU {K : IntKind} {W : World} {base n : Nat} {t : TypeId} {v : Value} {f : Nat → Nat} (h : W.ownsRow base t 1 v n ((List.range n).map fun i => .int K (f i : Nat))) : ∃ p c, v = .slice p n c ∧ ReadsU K W p n f := by
  rcases Nat.eq_zero_or_pos n with h0 | h0
  · subst h0
    rcases h.2 with ⟨rfl, _⟩ | ⟨g, cap, cur, rfl, _⟩
    · exact ⟨none, 0, rfl, fun i hi => by omega⟩
    · exact ⟨_, _, rfl, fun i hi => by omega⟩
  · obtain ⟨k, rfl⟩ : ∃ k, n = k + 1 := ⟨n - 1, by omega⟩
    obtain ⟨g, cap, rfl⟩ := ownsRow_succ h
    refine ⟨_, _, rfl, fun i _ => ⟨g, 0, rfl, fun j hj => ?_⟩⟩
    have h2 := h.cells (g := g) rfl j (.int K (f j : Nat)) (by simp [hj])
    rwa [addr_add] at h2
theorem Below.cell_alloc' {W : World} {a : Addr} {v : Value} (h : W.cell? a = some v) (o : Obj) : (W.alloc o).cell? a = some v := by
  obtain ⟨b, i, s⟩ := a
  obtain rfl : s = none := World.cell?_spot h
  exact ((((Below.refl W.heap.size W).alloc (Nat.le_refl _) o)).cell (p := ⟨b, i, none⟩) (cell_lt' h)).trans h
theorem news_of_u {K : IntKind} {W : World} {b off n : Nat} {a : Nat → Nat} (h : ∀ j, j < n → W.cell? ⟨b, off + j, none⟩ = some (.int K (a j : Nat))) :
    ∀ (j : Nat) (u : Value), ((List.range n).map fun i => Value.int K (a i : Nat))[j]? = some u → W.cell? ((⟨b, off, none⟩ : Addr).add j) = some u := by
  intro j u hu
  have hj : j < n := by
    rcases Nat.lt_or_ge j n with h | h
    · exact h
    · rw [List.getElem?_eq_none (by simp; omega)] at hu; cases hu
  rw [addr_add, h j hj]
  simpa [hj] using hu
theorem range_u {K : IntKind} (a : Nat → Nat) (n : Nat) : ∀ u ∈ ((List.range n).map fun i => Value.int K (a i : Nat)), u.oneCell' = true := by
  intro u hu
  obtain ⟨i, _, rfl⟩ := List.mem_map.1 hu
  rfl
set_option maxRecDepth 100000 in
theorem constants_any (w : World) :
    Calls Tryd.prog 59 #[] w fun e w' => (∃ g c, e = .returned (.slice (some ⟨g, 0, none⟩) 64 c) ∧ ReadsU .u32 w' (some ⟨g, 0, none⟩) 64 kAt) ∧ Below w.heap.size w w' := by
  have hbx := UBox.new (K := .u32) (n := 64) w kCells 77 kAt kCells_size kCells_at
  have hal : Below w.heap.size w (w.alloc (.cells kCells 77)) := (Below.refl _ _).alloc (Nat.le_refl _) _
  go_enter Tryd.func59, Tryd.ntmps59
  go_wp2
  generalize hgw : w.alloc _ = w1
  rw [show w.alloc (.cells kCells 77) = w1 by rw [← hgw]; rfl] at hbx hal
  go_ret
  exact ⟨⟨_, _, rfl, hbx.reads⟩, hal⟩
set_option maxRecDepth 100000 in
set_option maxHeartbeats 4000000 in
theorem ref_block_any (p q : Option Addr) (c d : Nat) (v : W8) (B : Nat → Nat) (w : World) (hv : v.Ok) (hx : ReadsU .u32 w p 8 v.at) (hr : ReadsU .u8 w q 64 B) (hB : ∀ i, B i < 256) :
    Calls Tryd.prog 39 #[.slice p 8 c, .slice q 64 d] w fun e w' => (∃ p' c', e = .returned (.slice p' 8 c') ∧ ReadsU .u32 w' p' 8 (v.block B).at) ∧ Below w.heap.size w w' := by
  have HX := Lib.hid hx
  have HB := Lib.hid hB
  obtain ⟨b, o, rfl, hc0⟩ := hr 0 (by omega)
  have HR := Lib.hid hr
  have HRW : Hid (∀ W, Below w.heap.size w W → ∀ j, j < 64 → W.cell? ⟨b, o + j, none⟩ = some (.int .u8 (B j : Nat))) := Lib.hid (fun W hb j hj => (hb.cell (p := ⟨b, o + j, none⟩) (cell_lt' (hc0 j hj))).trans (hc0 j hj))
  obtain ⟨i0, hi, hz0, hz1, hz2⟩ := infoU32
  clear hx hr hB hc0
  go_enter Tryd.func39, Tryd.ntmps39
  go_wp2_with fail
  go_loopw [5, 6] (fun v5 v6 wr => ∃ i : Nat, i ≤ 16 ∧ v6 = .int .i64 i ∧ wr.ownsRow w.heap.size 77 1 v5 i ((List.range i).map fun j => .int .u32 (wordAt B j : Nat)) ∧ Below w.heap.size w wr) (fun _ v6 _ => 16 - (intOf v6).toNat)
  case atStart => exact ⟨0, by omega, rfl, World.ownsRow_nil _ _ _ _, Below.refl _ _⟩
  case round =>
    obtain ⟨i, hi16, rfl, hrow, hb⟩ := hrel
    by_cases hlt : i < 16
    · have l0 : (i : Int) < 16 := by omega
      have l1 : (0 : Int) ≤ (i : Int) := by omega
      have l2 : (i : Int) < 64 := by omega
      obtain ⟨j0, hj0⟩ : ∃ j : Nat, j = 4 * i := ⟨_, rfl⟩
      have g0 : IntKind.i64.wrap (4 * (i : Int)) = (j0 : Int) := by rw [IntWalk.i64_in _ (by omega)]; omega
      obtain ⟨j1, hj1⟩ : ∃ j : Nat, j = j0 + 1 := ⟨_, rfl⟩
      obtain ⟨j2, hj2⟩ : ∃ j : Nat, j = j0 + 2 := ⟨_, rfl⟩
      obtain ⟨j3, hj3⟩ : ∃ j : Nat, j = j0 + 3 := ⟨_, rfl⟩
      have g1 : IntKind.i64.wrap ((j0 : Int) + 1) = (j1 : Int) := by rw [IntWalk.i64_in _ (by omega)]; omega
      have g2 : IntKind.i64.wrap ((j0 : Int) + 2) = (j2 : Int) := by rw [IntWalk.i64_in _ (by omega)]; omega
      have g3 : IntKind.i64.wrap ((j0 : Int) + 3) = (j3 : Int) := by rw [IntWalk.i64_in _ (by omega)]; omega
      have m0 : (0 : Int) ≤ (j0 : Int) ∧ (j0 : Int) < 64 := by omega
      have m1 : (0 : Int) ≤ (j1 : Int) ∧ (j1 : Int) < 64 := by omega
      have m2 : (0 : Int) ≤ (j2 : Int) ∧ (j2 : Int) < 64 := by omega
      have m3 : (0 : Int) ≤ (j3 : Int) ∧ (j3 : Int) < 64 := by omega
      obtain ⟨m01, m02⟩ := m0
      obtain ⟨m11, m12⟩ := m1
      obtain ⟨m21, m22⟩ := m2
      obtain ⟨m31, m32⟩ := m3
      have r0 := HRW.out wr hb j0 (by omega)
      have r1 := HRW.out wr hb j1 (by omega)
      have r2 := HRW.out wr hb j2 (by omega)
      have r3 := HRW.out wr hb j3 (by omega)
      have b0 := HB.out j0
      have b1 := HB.out j1
      have b2 := HB.out j2
      have b3 := HB.out j3
      have HWD : Hid (wordAt B i = B j0 * 16777216 ||| B j1 * 65536 ||| B j2 * 256 ||| B j3) := Lib.hid (by rw [hj1, hj2, hj3, hj0]; exact if_pos hlt)
      obtain ⟨x0, hx0⟩ : ∃ x, B j0 = x := ⟨_, rfl⟩
      obtain ⟨x1, hx1⟩ : ∃ x, B j1 = x := ⟨_, rfl⟩
      obtain ⟨x2, hx2⟩ : ∃ x, B j2 = x := ⟨_, rfl⟩
      obtain ⟨x3, hx3⟩ : ∃ x, B j3 = x := ⟨_, rfl⟩
      rw [hx0] at r0 b0 HWD
      rw [hx1] at r1 b1 HWD
      rw [hx2] at r2 b2 HWD
      rw [hx3] at r3 b3 HWD
      have HOR := Lib.hid (word_or b0 b1 b2 b3)
      have u0 : IntKind.u32.wrap (x0 : Int) = (x0 : Int) := by rw [IntKind.wrap_u32]; omega
      have u1 : IntKind.u32.wrap (x1 : Int) = (x1 : Int) := by rw [IntKind.wrap_u32]; omega
      have u2 : IntKind.u32.wrap (x2 : Int) = (x2 : Int) := by rw [IntKind.wrap_u32]; omega
      have u3 : IntKind.u32.wrap (x3 : Int) = (x3 : Int) := by rw [IntKind.wrap_u32]; omega
      have s0 : IntKind.u32.wrap ((x0 : Int) * 16777216) = (x0 : Int) * 16777216 := by rw [IntKind.wrap_u32]; omega
      have s1 : IntKind.u32.wrap ((x1 : Int) * 65536) = (x1 : Int) * 65536 := by rw [IntKind.wrap_u32]; omega
      have s2 : IntKind.u32.wrap ((x2 : Int) * 256) = (x2 : Int) * 256 := by rw [IntKind.wrap_u32]; omega
      have HKS : Hid (∀ W, Below w.heap.size w W → W.cell? ⟨b, o + j0, none⟩ = some (.int .u8 (x0 : Int)) ∧ W.cell? ⟨b, o + j1, none⟩ = some (.int .u8 (x1 : Int)) ∧ W.cell? ⟨b, o + j2, none⟩ = some (.int .u8 (x2 : Int)) ∧ W.cell? ⟨b, o + j3, none⟩ = some (.int .u8 (x3 : Int))) := Lib.hid (fun W h => by
        rw [← hx0, ← hx1, ← hx2, ← hx3]
        exact ⟨HRW.out W h j0 (by omega), HRW.out W h j1 (by omega), HRW.out W h j2 (by omega), HRW.out W h j3 (by omega)⟩)
      have HROW := Lib.hid hrow
      have HBW := Lib.hid hb
      have hwr := hb.size
      clear hrow hb hx0 hx1 hx2 hx3 hj0 hj1 hj2 hj3
      go_upto_region 5 with fail
      go_region_held3 (fun W => W.cell? ⟨b, o + j0, none⟩ = some (.int .u8 (x0 : Int)) ∧ W.cell? ⟨b, o + j1, none⟩ = some (.int .u8 (x1 : Int)) ∧ W.cell? ⟨b, o + j2, none⟩ = some (.int .u8 (x2 : Int)) ∧ W.cell? ⟨b, o + j3, none⟩ = some (.int .u8 (x3 : Int)))
        (first | exact HKS.out _ (by assumption) | go_keep)
        ((refine step_append_lies _ (by rfl) (.tmp 23) (.tmp 57) 78 (by rfl) w.heap.size 77 i0 (.int .u32 0) 1 4 Tryd.underlying78 hi hz0 hz1 hz2 rfl (by decide) _ i _ (by rfl) ((HROW.out.alloc _).drew) ⟨wr.heap.size, 0, none⟩ 1 1 [.int .u32 _] (by rfl) rfl (cell_one_new wr _ _) (h1 := by simp [Value.oneCell']) (hm := by decide) (h63 := by unfold maxLen; omega) (hbytes := by omega) (hbase := Nat.le_trans hwr (by show wr.heap.size ≤ (wr.alloc _).heap.size; simp)) (H := wr.heap.size + 1) (hH := by show (wr.alloc _).heap.size = _; simp) ?_; intro g cp1 w7 hown1 hgrow1 hat1 hlt1; have hb7 := ((HBW.out.alloc hwr _).drew).grown hgrow1 (by simp; omega) (fun j ej => (HROW.out.lt j ej).1)))
      go_wp2_with fail
      refine ⟨⟨i + 1, by omega, by go_num, ?_, hb7⟩, by simp [intOf]; omega⟩
      rw [List.range_succ, List.map_append]
      have e : (List.map (fun j => Value.int .u32 (wordAt B j : Nat)) [i]) = [.int .u32 ((x0 * 16777216 ||| x1 * 65536 ||| x2 * 256 ||| x3 : Nat) : Int)] := by rw [← HWD.out]; rfl
      rw [e, ← HOR.out]
      exact hown1
    · obtain rfl : i = 16 := by omega
      obtain ⟨w1, rfl⟩ : ∃ W : World, W = wr := ⟨_, rfl⟩
      have HR0 := Lib.hid hrow
      have HB0 := Lib.hid hb
      clear hrow hb
      go_wp2_with fail
      go_loopw [5, 7] (fun v5 v7 wr => ∃ i : Nat, 16 ≤ i ∧ i ≤ 64 ∧ v7 = .int .i64 i ∧ wr.ownsRow w.heap.size 77 1 v5 i ((List.range i).map fun j => .int .u32 (wordAt B j : Nat)) ∧ Below w.heap.size w wr) (fun _ v7 _ => 64 - (intOf v7).toNat)
      case atStart => exact ⟨16, by omega, by omega, rfl, HR0.out, HB0.out⟩
      case round =>
        obtain ⟨i, hi16, hi64, rfl, hrow, hb⟩ := hrel
        by_cases hlt : i < 64
        · have l0 : (i : Int) < 64 := by omega
          have l1 : (0 : Int) ≤ (i : Int) := by omega
          obtain ⟨pw, cw, rfl, hrd⟩ := own_readsU hrow
          obtain ⟨gw, ow, rfl, hcw⟩ := hrd 0 (by omega)
          obtain ⟨j15, hj15⟩ : ∃ j, j = i - 15 := ⟨_, rfl⟩
          obtain ⟨j2, hj2⟩ : ∃ j, j = i - 2 := ⟨_, rfl⟩
          obtain ⟨j16, hj16⟩ : ∃ j, j = i - 16 := ⟨_, rfl⟩
          obtain ⟨j7, hj7⟩ : ∃ j, j = i - 7 := ⟨_, rfl⟩
          have HNX : Hid (wordAt B i = (wordAt B j16 + sig0 (wordAt B j15) + wordAt B j7 + sig1 (wordAt B j2)) % 4294967296) := Lib.hid (by rw [hj15, hj2, hj16, hj7]; exact wordAt_next B hi16)
          have g15 : IntKind.i64.wrap ((i : Int) - 15) = (j15 : Int) := by rw [IntWalk.i64_in _ (by omega)]; omega
          have g2 : IntKind.i64.wrap ((i : Int) - 2) = (j2 : Int) := by rw [IntWalk.i64_in _ (by omega)]; omega
          have g16 : IntKind.i64.wrap ((i : Int) - 16) = (j16 : Int) := by rw [IntWalk.i64_in _ (by omega)]; omega
          have g7 : IntKind.i64.wrap ((i : Int) - 7) = (j7 : Int) := by rw [IntWalk.i64_in _ (by omega)]; omega
          have a1 : (0 : Int) ≤ (j15 : Int) ∧ (j15 : Int) < (i : Int) := by omega
          have a2 : (0 : Int) ≤ (j2 : Int) ∧ (j2 : Int) < (i : Int) := by omega
          have a3 : (0 : Int) ≤ (j16 : Int) ∧ (j16 : Int) < (i : Int) := by omega
          have a4 : (0 : Int) ≤ (j7 : Int) ∧ (j7 : Int) < (i : Int) := by omega
          obtain ⟨a11, a12⟩ := a1
          obtain ⟨a21, a22⟩ := a2
          obtain ⟨a31, a32⟩ := a3
          obtain ⟨a41, a42⟩ := a4
          have r15 := hcw j15 (by omega)
          have r2 := hcw j2 (by omega)
          have r16 := hcw j16 (by omega)
          have r7 := hcw j7 (by omega)
          have k15 := wordAt_lt HB.out j15
          have k2 := wordAt_lt HB.out j2
          have k16 := wordAt_lt HB.out j16
          have k7 := wordAt_lt HB.out j7
          obtain ⟨y15, hy15⟩ : ∃ x, wordAt B j15 = x := ⟨_, rfl⟩
          obtain ⟨y2, hy2⟩ : ∃ x, wordAt B j2 = x := ⟨_, rfl⟩
          obtain ⟨y16, hy16⟩ : ∃ x, wordAt B j16 = x := ⟨_, rfl⟩
          obtain ⟨y7, hy7⟩ : ∃ x, wordAt B j7 = x := ⟨_, rfl⟩
          rw [hy15] at r15 k15 HNX
          rw [hy2] at r2 k2 HNX
          rw [hy16] at r16 k16 HNX
          rw [hy7] at r7 k7 HNX
          have C7 : Hid (∀ W, Calls Tryd.prog 58 #[.int .u32 (y15 : Int), .int .i64 7] W fun e w' => e = .returned (.int .u32 (rotr 7 y15 : Nat)) ∧ ∃ k, w' = W.drewN k) := Lib.hid (fun W => rotated_any y15 7 W k15 (by omega) (by omega))
          have C18 : Hid (∀ W, Calls Tryd.prog 58 #[.int .u32 (y15 : Int), .int .i64 18] W fun e w' => e = .returned (.int .u32 (rotr 18 y15 : Nat)) ∧ ∃ k, w' = W.drewN k) := Lib.hid (fun W => rotated_any y15 18 W k15 (by omega) (by omega))
          have C17 : Hid (∀ W, Calls Tryd.prog 58 #[.int .u32 (y2 : Int), .int .i64 17] W fun e w' => e = .returned (.int .u32 (rotr 17 y2 : Nat)) ∧ ∃ k, w' = W.drewN k) := Lib.hid (fun W => rotated_any y2 17 W k2 (by omega) (by omega))
          have C19 : Hid (∀ W, Calls Tryd.prog 58 #[.int .u32 (y2 : Int), .int .i64 19] W fun e w' => e = .returned (.int .u32 (rotr 19 y2 : Nat)) ∧ ∃ k, w' = W.drewN k) := Lib.hid (fun W => rotated_any y2 19 W k2 (by omega) (by omega))
          obtain ⟨m15, f15, hm15⟩ : ∃ m : Nat, bits .xor .u32 ((rotr 7 y15 : Nat) : Int) ((rotr 18 y15 : Nat) : Int) = (m : Int) ∧ m = rotr 7 y15 ^^^ rotr 18 y15 := ⟨_, bitsN32_xor _ _ (rotr_lt k15) (rotr_lt k15), rfl⟩
          obtain ⟨m2, f2, hm2⟩ : ∃ m : Nat, bits .xor .u32 ((rotr 17 y2 : Nat) : Int) ((rotr 19 y2 : Nat) : Int) = (m : Int) ∧ m = rotr 17 y2 ^^^ rotr 19 y2 := ⟨_, bitsN32_xor _ _ (rotr_lt k2) (rotr_lt k2), rfl⟩
          obtain ⟨s0, t0, hs0⟩ : ∃ s0 : Nat, bits .xor .u32 (m15 : Int) ((y15 : Int) / 8) = (s0 : Int) ∧ s0 = sig0 y15 := ⟨_, by rw [hm15]; exact bitsN32_xor (rotr 7 y15 ^^^ rotr 18 y15) (y15 / 8) (Nat.xor_lt_two_pow (n := 32) (rotr_lt k15) (rotr_lt k15)) (by omega), rfl⟩
          obtain ⟨s1, t1, hs1⟩ : ∃ s1 : Nat, bits .xor .u32 (m2 : Int) ((y2 : Int) / 1024) = (s1 : Int) ∧ s1 = sig1 y2 := ⟨_, by rw [hm2]; exact bitsN32_xor (rotr 17 y2 ^^^ rotr 19 y2) (y2 / 1024) (Nat.xor_lt_two_pow (n := 32) (rotr_lt k2) (rotr_lt k2)) (by omega), rfl⟩
          rw [← hs0, ← hs1] at HNX
          obtain ⟨z7, hz7⟩ : ∃ z, rotr 7 y15 = z := ⟨_, rfl⟩
          obtain ⟨z18, hz18⟩ : ∃ z, rotr 18 y15 = z := ⟨_, rfl⟩
          obtain ⟨z17, hz17⟩ : ∃ z, rotr 17 y2 = z := ⟨_, rfl⟩
          obtain ⟨z19, hz19⟩ : ∃ z, rotr 19 y2 = z := ⟨_, rfl⟩
          rw [hz7] at C7 f15
          rw [hz18] at C18 f15
          rw [hz17] at C17 f2
          rw [hz19] at C19 f2
          obtain ⟨q1, p1, hp1⟩ : ∃ x : Nat, IntKind.u32.wrap ((y16 : Int) + (s0 : Int)) = (x : Int) ∧ x = (y16 + s0) % 4294967296 := ⟨_, wrap_add _ _, rfl⟩
          obtain ⟨q2, p2, hp2⟩ : ∃ x : Nat, IntKind.u32.wrap ((q1 : Int) + (y7 : Int)) = (x : Int) ∧ x = (q1 + y7) % 4294967296 := ⟨_, wrap_add _ _, rfl⟩
          obtain ⟨q3, p3, hp3⟩ : ∃ x : Nat, IntKind.u32.wrap ((q2 : Int) + (s1 : Int)) = (x : Int) ∧ x = (q2 + s1) % 4294967296 := ⟨_, wrap_add _ _, rfl⟩
          have HWD : Hid (wordAt B i = q3) := Lib.hid (by rw [HNX.out]; omega)
          have HROW := Lib.hid hrow
          have HBW := Lib.hid hb
          have hwr := hb.size
          clear hm15 hm2 hs0 hs1 hz7 hz18 hz17 hz19 hp1 hp2 hp3 HNX hy15 hy2 hy16 hy7 hj15 hj2 hj16 hj7 hcw hrd hrow hb
          go_wp2_with fail
          go_quiet ((go_at_call 58; first | (with_reducible exact Calls.quiet_of (C7.out _)) | (with_reducible exact Calls.quiet_of (C18.out _))))
          have r2 : (wr.drewN nq).cell? ⟨gw, ow + j2, none⟩ = _ := r2
          have r16 : (wr.drewN nq).cell? ⟨gw, ow + j16, none⟩ = _ := r16
          have r7 : (wr.drewN nq).cell? ⟨gw, ow + j7, none⟩ = _ := r7
          have HROW1 := Lib.hid (show (wr.drewN nq).ownsRow w.heap.size 77 1 _ i _ from HROW.out)
          have HBW1 := Lib.hid (Below_dn HBW.out nq)
          have hwr1 := HBW1.out.size
          obtain ⟨w2, hw2⟩ : ∃ W : World, wr.drewN nq = W := ⟨_, rfl⟩
          rw [hw2] at r2 r16 r7 HROW1 HBW1 hwr1 ⊢
          clear hw2 r15
          go_wp2_with fail
          go_quiet ((go_at_call 58; first | (with_reducible exact Calls.quiet_of (C17.out _)) | (with_reducible exact Calls.quiet_of (C19.out _))))
          go_upto_region 11 with fail
          have r16 : (w2.drewN nq).cell? ⟨gw, ow + j16, none⟩ = _ := r16
          have r7 : (w2.drewN nq).cell? ⟨gw, ow + j7, none⟩ = _ := r7
          have HROW2 := Lib.hid (show (w2.drewN nq).ownsRow w.heap.size 77 1 _ i _ from HROW1.out)
          have HBW2 := Lib.hid (Below_dn HBW1.out nq)
          have hwr2 := HBW2.out.size
          obtain ⟨w3, hw3⟩ : ∃ W : World, w2.drewN nq = W := ⟨_, rfl⟩
          rw [hw3] at r16 r7 HROW2 HBW2 hwr2 ⊢
          clear hw3 r2
          go_region_law (refine step_append_lies _ (by rfl) (.tmp 103) (.tmp 119) 78 (by rfl) w.heap.size 77 i0 (.int .u32 0) 1 4 Tryd.underlying78 hi hz0 hz1 hz2 rfl (by decide) _ i _ (by rfl) ((HROW2.out.alloc _).drew) ⟨w3.heap.size, 0, none⟩ 1 1 [.int .u32 _] (by rfl) rfl (cell_one_new w3 _ _) (h1 := by simp [Value.oneCell']) (hm := by decide) (h63 := by unfold maxLen; omega) (hbytes := by omega) (hbase := Nat.le_trans hwr2 (by show w3.heap.size ≤ (w3.alloc _).heap.size; simp)) (H := w3.heap.size + 1) (hH := by show (w3.alloc _).heap.size = _; simp) ?_; intro g cp1 w7 hown1 hgrow1 hat1 hlt1; have hb7 := ((HBW2.out.alloc hwr2 _).drew).grown hgrow1 (by simp; omega) (fun j ej => (HROW2.out.lt j ej).1))
          all_goals go_wp2_with fail
          all_goals
            refine ⟨?_, by simp [intOf]; omega⟩
            (repeat apply Exists.intro)
            refine ⟨⟨i + 1, by omega, by omega, by go_num, ?_, hb7⟩, rfl⟩
            rw [List.range_succ, List.map_append]
            have e : (List.map (fun j => Value.int .u32 (wordAt B j : Nat)) [i]) = [.int .u32 (q3 : Int)] := by rw [← HWD.out]; rfl
            rw [e]
            exact hown1
        · obtain rfl : i = 64 := by omega
          obtain ⟨w2, rfl⟩ : ∃ W : World, W = wr := ⟨_, rfl⟩
          obtain ⟨pw, cw, rfl, hrd⟩ := own_readsU hrow
          have HRD := Lib.hid hrd
          have HB2 := Lib.hid hb
          clear hrow hrd hb HR0 HB0
          go_wp2_with fail
          refine (constants_any _).mono ?_
          rintro e w3 ⟨⟨gk, ck, rfl, hk⟩, hb3⟩
          obtain ⟨hb8, ho8, rfl, hc8⟩ := (HX.out.below (HB2.out.trans (hb3.mono HB2.out.size))) 0 (by omega)
          have HNW := Lib.hid (news_of_u hc8)
          have HB3 := Lib.hid (HB2.out.trans (hb3.mono HB2.out.size))
          have HK3 := Lib.hid hk
          have HW3 := Lib.hid (HRD.out.below hb3)
          clear hk hb3 hc8 HRD HB2
          go_wp2_with (at_builtin; refine wpList_append_own _ rfl _ _ 78 rfl w.heap.size 77 i0 (.int .u32 0) 1 4 Tryd.underlying78 hi hz0 hz1 hz2 rfl (by decide) _ 0 [] rfl (World.ownsRow_nil _ _ _ _) ⟨hb8, ho8, none⟩ 8 c ((List.range 8).map fun j => Value.int .u32 (v.at j : Nat)) rfl (by simp) HNW.out (range_u v.at 8) (by unfold maxLen; omega) (by omega) HB3.out.size ?_; intro v' w4 hown4 hgrow4 _; obtain ⟨g4, c4, rfl⟩ := ownsRow_succ (k := 7) hown4)
          have hb4 : Below w3.heap.size w3 w4 := (Below.refl _ _).grown hgrow4 (Nat.le_refl _) (fun j ej => by cases ej)
          rw [List.nil_append] at hown4
          obtain ⟨pv, cv, hpv, hv4⟩ := own_readsU (n := 8) hown4
          cases hpv
          have HB4 := Lib.hid (HB3.out.trans (hb4.mono HB3.out.size))
          have HK4 := Lib.hid (HK3.out.below hb4)
          have HW4 := Lib.hid (HW3.out.below hb4)
          have HV4 := Lib.hid hv4
          clear hown4 hgrow4 hb4 hv4 HB3 HK3 HW3 HNW
          go_wp2_with fail
          go_loopw [11, 12] (fun v11 v12 wr => ∃ (i cv : Nat) (pv : Option Addr), i ≤ 64 ∧ v12 = .int .i64 i ∧ v11 = .slice pv 8 cv ∧ ReadsU .u32 wr pv 8 (v.steps (wordsN B 64) i).at ∧ Below w4.heap.size w4 wr) (fun _ v12 _ => 64 - (intOf v12).toNat)
          case atStart => exact ⟨0, c4, _, by omega, rfl, rfl, HV4.out, Below.refl _ _⟩
          case round =>
            obtain ⟨i, cv, pv, hi64, rfl, rfl, hvr, hb⟩ := hrel
            by_cases hlt : i < 64
            · have l0 : (i : Int) < 64 := by omega
              have l1 : (0 : Int) ≤ (i : Int) := by omega
              have hok := W8.Ok.steps hv (wordsN B 64) i
              have HST : Hid (v.steps (wordsN B 64) (i + 1) = (v.steps (wordsN B 64) i).step (kAt i) (wordAt B i)) := Lib.hid (by
                show (v.steps (wordsN B 64) i).step (kAt i) ((wordsN B 64).getD i 0) = _
                rw [wordsN_at B hlt])
              generalize v.steps (wordsN B 64) i = u at hvr hok HST
              obtain ⟨ua, ub, uc, ud, ue, uf, ug, uh⟩ := u
              obtain ⟨ka, kb, kc, kd, ke, kf, kg, kh⟩ := hok
              simp only at ka kb kc kd ke kf kg kh
              obtain ⟨gw, ow, rfl, hcw⟩ := (HW4.out.below hb) i hlt
              obtain ⟨gk2, ok2, hgk2, hck⟩ := (HK4.out.below hb) i hlt
              obtain ⟨gv, ov, rfl, hcv⟩ := hvr 0 (by omega)
              have wa := hcw i hlt
              have wk := hck i hlt
              cases hgk2
              rw [Nat.zero_add] at wk
              have kw := wordAt_lt HB.out i
              have kk := kAt_lt i
              obtain ⟨wd, hwd⟩ : ∃ x, wordAt B i = x := ⟨_, rfl⟩
              obtain ⟨kd', hkd⟩ : ∃ x, kAt i = x := ⟨_, rfl⟩
              rw [hwd] at wa kw HST
              rw [hkd] at wk kk HST
              have C6 : Hid (∀ W, Calls Tryd.prog 58 #[.int .u32 (ue : Int), .int .i64 6] W fun e w' => e = .returned (.int .u32 (rotr 6 ue : Nat)) ∧ ∃ k, w' = W.drewN k) := Lib.hid (fun W => rotated_any ue 6 W ke (by omega) (by omega))
              have C11 : Hid (∀ W, Calls Tryd.prog 58 #[.int .u32 (ue : Int), .int .i64 11] W fun e w' => e = .returned (.int .u32 (rotr 11 ue : Nat)) ∧ ∃ k, w' = W.drewN k) := Lib.hid (fun W => rotated_any ue 11 W ke (by omega) (by omega))
              have C25 : Hid (∀ W, Calls Tryd.prog 58 #[.int .u32 (ue : Int), .int .i64 25] W fun e w' => e = .returned (.int .u32 (rotr 25 ue : Nat)) ∧ ∃ k, w' = W.drewN k) := Lib.hid (fun W => rotated_any ue 25 W ke (by omega) (by omega))
              have C2 : Hid (∀ W, Calls Tryd.prog 58 #[.int .u32 (ua : Int), .int .i64 2] W fun e w' => e = .returned (.int .u32 (rotr 2 ua : Nat)) ∧ ∃ k, w' = W.drewN k) := Lib.hid (fun W => rotated_any ua 2 W ka (by omega) (by omega))
              have C13 : Hid (∀ W, Calls Tryd.prog 58 #[.int .u32 (ua : Int), .int .i64 13] W fun e w' => e = .returned (.int .u32 (rotr 13 ua : Nat)) ∧ ∃ k, w' = W.drewN k) := Lib.hid (fun W => rotated_any ua 13 W ka (by omega) (by omega))
              have C22 : Hid (∀ W, Calls Tryd.prog 58 #[.int .u32 (ua : Int), .int .i64 22] W fun e w' => e = .returned (.int .u32 (rotr 22 ua : Nat)) ∧ ∃ k, w' = W.drewN k) := Lib.hid (fun W => rotated_any ua 22 W ka (by omega) (by omega))
              have q1l := big1_lt ke
              have q0l := big0_lt ka
              have HT1 : Hid (tOne ⟨ua, ub, uc, ud, ue, uf, ug, uh⟩ kd' wd = (uh + big1 ue + ((ue &&& uf) ^^^ ((4294967295 - ue) &&& ug)) + kd' + wd) % 4294967296) := Lib.hid rfl
              have HT2 : Hid (tTwo ⟨ua, ub, uc, ud, ue, uf, ug, uh⟩ = (big0 ua + ((ua &&& ub) ^^^ (ua &&& uc) ^^^ (ub &&& uc))) % 4294967296) := Lib.hid rfl
              obtain ⟨q1, hq1⟩ : ∃ x, big1 ue = x := ⟨_, rfl⟩
              obtain ⟨q0, hq0⟩ : ∃ x, big0 ua = x := ⟨_, rfl⟩
              obtain ⟨m1, x1, y1⟩ : ∃ m : Nat, bits .xor .u32 ((rotr 6 ue : Nat) : Int) ((rotr 11 ue : Nat) : Int) = (m : Int) ∧ m = rotr 6 ue ^^^ rotr 11 ue := ⟨_, bitsN32_xor _ _ (rotr_lt ke) (rotr_lt ke), rfl⟩
              have x2 : bits .xor .u32 (m1 : Int) ((rotr 25 ue : Nat) : Int) = (q1 : Int) := by rw [← hq1, y1]; exact bitsN32_xor _ _ (Nat.xor_lt_two_pow (n := 32) (rotr_lt ke) (rotr_lt ke)) (rotr_lt ke)
              obtain ⟨m0, x3, y3⟩ : ∃ m : Nat, bits .xor .u32 ((rotr 2 ua : Nat) : Int) ((rotr 13 ua : Nat) : Int) = (m : Int) ∧ m = rotr 2 ua ^^^ rotr 13 ua := ⟨_, bitsN32_xor _ _ (rotr_lt ka) (rotr_lt ka), rfl⟩
              have x4 : bits .xor .u32 (m0 : Int) ((rotr 22 ua : Nat) : Int) = (q0 : Int) := by rw [← hq0, y3]; exact bitsN32_xor _ _ (Nat.xor_lt_two_pow (n := 32) (rotr_lt ka) (rotr_lt ka)) (rotr_lt ka)
              rw [hq1] at q1l HT1
              rw [hq0] at q0l HT2
              obtain ⟨z6, hz6⟩ : ∃ z, rotr 6 ue = z := ⟨_, rfl⟩
              rw [hz6] at C6 x1 y1
              clear hz6
              obtain ⟨z11, hz11⟩ : ∃ z, rotr 11 ue = z := ⟨_, rfl⟩
              rw [hz11] at C11 x1 y1
              clear hz11
              obtain ⟨z25, hz25⟩ : ∃ z, rotr 25 ue = z := ⟨_, rfl⟩
              rw [hz25] at C25 x2
              clear hz25
              obtain ⟨z2, hz2⟩ : ∃ z, rotr 2 ua = z := ⟨_, rfl⟩
              rw [hz2] at C2 x3 y3
              clear hz2
              obtain ⟨z13, hz13⟩ : ∃ z, rotr 13 ua = z := ⟨_, rfl⟩
              rw [hz13] at C13 x3 y3
              clear hz13
              obtain ⟨z22, hz22⟩ : ∃ z, rotr 22 ua = z := ⟨_, rfl⟩
              rw [hz22] at C22 x4
              clear hz22
              obtain ⟨c1, f1, e1⟩ : ∃ x : Nat, bits .and .u32 (ue : Int) (uf : Int) = (x : Int) ∧ x = ue &&& uf := ⟨_, bitsN32_and ue uf ke kf, rfl⟩
              obtain ⟨n1, f2, e2⟩ : ∃ x : Nat, bits .xor .u32 IntKind.u32.max (ue : Int) = (x : Int) ∧ x = 4294967295 - ue := ⟨_, not_u32 ue ke, rfl⟩
              have f2' : bits .xor .u32 (if IntKind.u32.signed = true then -1 else IntKind.u32.max) (ue : Int) = (n1 : Int) := f2
              obtain ⟨c2, f3, e3⟩ : ∃ x : Nat, bits .and .u32 (n1 : Int) (ug : Int) = (x : Int) ∧ x = n1 &&& ug := ⟨_, bitsN32_and n1 ug (by omega) kg, rfl⟩
              have lc1 : c1 < 4294967296 := by rw [e1]; exact and_lt32 ke
              have lc2 : c2 < 4294967296 := by rw [e3]; exact and_lt32 (by omega)
              obtain ⟨c3, f4, e4⟩ : ∃ x : Nat, bits .xor .u32 (c1 : Int) (c2 : Int) = (x : Int) ∧ x = c1 ^^^ c2 := ⟨_, bitsN32_xor c1 c2 lc1 lc2, rfl⟩
              obtain ⟨s1, f5, e5⟩ : ∃ x : Nat, IntKind.u32.wrap ((uh : Int) + (q1 : Int)) = (x : Int) ∧ x = (uh + q1) % 4294967296 := ⟨_, wrap_add _ _, rfl⟩
              obtain ⟨s2, f6, e6⟩ : ∃ x : Nat, IntKind.u32.wrap ((s1 : Int) + (c3 : Int)) = (x : Int) ∧ x = (s1 + c3) % 4294967296 := ⟨_, wrap_add _ _, rfl⟩
              obtain ⟨s3, f7, e7⟩ : ∃ x : Nat, IntKind.u32.wrap ((s2 : Int) + (kd' : Int)) = (x : Int) ∧ x = (s2 + kd') % 4294967296 := ⟨_, wrap_add _ _, rfl⟩
              obtain ⟨T, f8, e8⟩ : ∃ x : Nat, IntKind.u32.wrap ((s3 : Int) + (wd : Int)) = (x : Int) ∧ x = (s3 + wd) % 4294967296 := ⟨_, wrap_add _ _, rfl⟩
              obtain ⟨d1, g1, i1⟩ : ∃ x : Nat, bits .and .u32 (ua : Int) (ub : Int) = (x : Int) ∧ x = ua &&& ub := ⟨_, bitsN32_and ua ub ka kb, rfl⟩
              obtain ⟨d2, g2, i2⟩ : ∃ x : Nat, bits .and .u32 (ua : Int) (uc : Int) = (x : Int) ∧ x = ua &&& uc := ⟨_, bitsN32_and ua uc ka kc, rfl⟩
              obtain ⟨d4, g4, i4⟩ : ∃ x : Nat, bits .and .u32 (ub : Int) (uc : Int) = (x : Int) ∧ x = ub &&& uc := ⟨_, bitsN32_and ub uc kb kc, rfl⟩
              have ld1 : d1 < 4294967296 := by rw [i1]; exact and_lt32 ka
              have ld2 : d2 < 4294967296 := by rw [i2]; exact and_lt32 ka
              have ld4 : d4 < 4294967296 := by rw [i4]; exact and_lt32 kb
              obtain ⟨d3, g3, i3⟩ : ∃ x : Nat, bits .xor .u32 (d1 : Int) (d2 : Int) = (x : Int) ∧ x = d1 ^^^ d2 := ⟨_, bitsN32_xor d1 d2 ld1 ld2, rfl⟩
              obtain ⟨d5, g5, i5⟩ : ∃ x : Nat, bits .xor .u32 (d3 : Int) (d4 : Int) = (x : Int) ∧ x = d3 ^^^ d4 := ⟨_, bitsN32_xor d3 d4 (by rw [i3]; exact Nat.xor_lt_two_pow (n := 32) ld1 ld2) ld4, rfl⟩
              obtain ⟨U, g6, i6⟩ : ∃ x : Nat, IntKind.u32.wrap ((q0 : Int) + (d5 : Int)) = (x : Int) ∧ x = (q0 + d5) % 4294967296 := ⟨_, wrap_add _ _, rfl⟩
              obtain ⟨X, g7, i7⟩ : ∃ x : Nat, IntKind.u32.wrap ((T : Int) + (U : Int)) = (x : Int) ∧ x = (T + U) % 4294967296 := ⟨_, wrap_add _ _, rfl⟩
              obtain ⟨Y, g8, i8⟩ : ∃ x : Nat, IntKind.u32.wrap ((ud : Int) + (T : Int)) = (x : Int) ∧ x = (ud + T) % 4294967296 := ⟨_, wrap_add _ _, rfl⟩
              have HNEW : Hid (v.steps (wordsN B 64) (i + 1) = ⟨X, ua, ub, uc, Y, ue, uf, ug⟩) := Lib.hid (by
                rw [HST.out]
                have hT : tOne ⟨ua, ub, uc, ud, ue, uf, ug, uh⟩ kd' wd = T := by rw [HT1.out, ← e1, ← e2, ← e3, ← e4]; omega
                have hU : tTwo ⟨ua, ub, uc, ud, ue, uf, ug, uh⟩ = U := by rw [HT2.out, ← i1, ← i2, ← i4, ← i3, ← i5]; omega
                unfold W8.step
                rw [hT, hU, ← i7, ← i8])
              have v0 := hcv 0 (by omega)
              have v1 := hcv 1 (by omega)
              have v2 := hcv 2 (by omega)
              have v3 := hcv 3 (by omega)
              have v4 := hcv 4 (by omega)
              have v5 := hcv 5 (by omega)
              have v6 := hcv 6 (by omega)
              have v7 := hcv 7 (by omega)
              simp only [W8.at, Nat.add_zero] at v0 v1 v2 v3 v4 v5 v6 v7
              have HBW := Lib.hid hb
              clear hcw hck hcv hvr hb hwd hkd hq1 hq0 y1 y3 e1 e2 e3 e4 e5 e6 e7 e8 i1 i2 i3 i4 i5 i6 i7 i8 HST HT1 HT2
              go_upto_region 20 with fail
              go_quiet ((go_at_call 58; first | (with_reducible exact Calls.quiet_of (C6.out _)) | (with_reducible exact Calls.quiet_of (C11.out _)) | (with_reducible exact Calls.quiet_of (C25.out _))))
              have v1 : (wr.drewN nq).cell? ⟨gv, ov + 1, none⟩ = _ := v1
              have v2 : (wr.drewN nq).cell? ⟨gv, ov + 2, none⟩ = _ := v2
              have v3 : (wr.drewN nq).cell? ⟨gv, ov + 3, none⟩ = _ := v3
              have v5 : (wr.drewN nq).cell? ⟨gv, ov + 5, none⟩ = _ := v5
              have v6 : (wr.drewN nq).cell? ⟨gv, ov + 6, none⟩ = _ := v6
              have HBW1 := Lib.hid (Below_dn HBW.out nq)
              obtain ⟨w5, hw5⟩ : ∃ W : World, wr.drewN nq = W := ⟨_, rfl⟩
              rw [hw5] at v1 v2 v3 v5 v6 HBW1 ⊢
              clear hw5 v0 v4 v7 wa wk
              go_upto_region 21 with fail
              go_quiet ((go_at_call 58; first | (with_reducible exact Calls.quiet_of (C2.out _)) | (with_reducible exact Calls.quiet_of (C13.out _)) | (with_reducible exact Calls.quiet_of (C22.out _))))
              have v1 : (w5.drewN nq).cell? ⟨gv, ov + 1, none⟩ = _ := v1
              have v2 : (w5.drewN nq).cell? ⟨gv, ov + 2, none⟩ = _ := v2
              have v3 : (w5.drewN nq).cell? ⟨gv, ov + 3, none⟩ = _ := v3
              have v5 : (w5.drewN nq).cell? ⟨gv, ov + 5, none⟩ = _ := v5
              have v6 : (w5.drewN nq).cell? ⟨gv, ov + 6, none⟩ = _ := v6
              have HBW2 := Lib.hid (Below_dn HBW1.out nq)
              obtain ⟨w6, hw6⟩ : ∃ W : World, w5.drewN nq = W := ⟨_, rfl⟩
              rw [hw6] at v1 v2 v3 v5 v6 HBW2 ⊢
              clear hw6
              have hbx := eight_ubox ⟨X, ua, ub, uc, Y, ue, uf, ug⟩ (World.alloc_heap_new w6 (.cells #[.int .u32 (X : Nat), .int .u32 (ua : Nat), .int .u32 (ub : Nat), .int .u32 (uc : Nat), .int .u32 (Y : Nat), .int .u32 (ue : Nat), .int .u32 (uf : Nat), .int .u32 (ug : Nat)] 77))
              have hal : Below w4.heap.size w4 (w6.alloc (.cells #[.int .u32 (X : Nat), .int .u32 (ua : Nat), .int .u32 (ub : Nat), .int .u32 (uc : Nat), .int .u32 (Y : Nat), .int .u32 (ue : Nat), .int .u32 (uf : Nat), .int .u32 (ug : Nat)] 77)) := HBW2.out.alloc HBW2.out.size _
              have HBX := Lib.hid hbx.reads
              have HAL := Lib.hid hal
              clear hbx hal
              go_upto_region 22 with fail
              go_region_held3 (fun W => W.cell? ⟨gv, ov + 1, none⟩ = some (.int .u32 (ub : Int)) ∧ W.cell? ⟨gv, ov + 2, none⟩ = some (.int .u32 (uc : Int)) ∧ W.cell? ⟨gv, ov + 3, none⟩ = some (.int .u32 (ud : Int)) ∧ W.cell? ⟨gv, ov + 5, none⟩ = some (.int .u32 (uf : Int)) ∧ W.cell? ⟨gv, ov + 6, none⟩ = some (.int .u32 (ug : Int)))
                (first | exact ⟨by assumption, by assumption, by assumption, by assumption, by assumption⟩ | exact ⟨(Below.cell_alloc' v1 _), (Below.cell_alloc' v2 _), (Below.cell_alloc' v3 _), (Below.cell_alloc' v5 _), (Below.cell_alloc' v6 _)⟩ | go_keep) (fail)
              go_wp2_with fail
              refine ⟨?_, by simp [intOf]; omega⟩
              exact ⟨i + 1, _, _, by omega, by go_num, rfl, by rw [HNEW.out]; exact HBX.out, HAL.out.drew⟩
            · obtain rfl : i = 64 := by omega
              obtain ⟨wz, rfl⟩ : ∃ W : World, W = wr := ⟨_, rfl⟩
              have HVF := Lib.hid hvr
              have HBZ := Lib.hid (HB4.out.trans (hb.mono HB4.out.size))
              have HXZ := Lib.hid (HX.out.below HBZ.out)
              clear hvr hb HV4 HK4 HW4 HB4
              go_wp2_with fail
              go_loopw [17, 18] (fun v17 v18 wr => ∃ i : Nat, i ≤ 8 ∧ v18 = .int .i64 i ∧ wr.ownsRow wz.heap.size 77 1 v17 i ((List.range i).map fun j => .int .u32 ((v.block B).at j : Nat)) ∧ Below wz.heap.size wz wr) (fun _ v18 _ => 8 - (intOf v18).toNat)
              case atStart => exact ⟨0, by omega, rfl, World.ownsRow_nil _ _ _ _, Below.refl _ _⟩
              case round =>
                obtain ⟨i, hi8, rfl, hrow, hb⟩ := hrel
                by_cases hlt : i < 8
                · have l0 : (i : Int) < 8 := by omega
                  have l1 : (0 : Int) ≤ (i : Int) := by omega
                  obtain ⟨gv, ov, rfl, hcv⟩ := HVF.out i hlt
                  obtain ⟨gh, oh, hgh, hch⟩ := HXZ.out i hlt
                  cases hgh
                  have HKS : Hid (∀ W, Below wz.heap.size wz W → W.cell? ⟨hb8, ho8 + i, none⟩ = some (.int .u32 ((v.at i : Nat) : Int)) ∧ W.cell? ⟨gv, ov + i, none⟩ = some (.int .u32 (((v.steps (wordsN B 64) 64).at i : Nat) : Int))) := Lib.hid (fun W h =>
                    ⟨(h.cell (p := ⟨hb8, ho8 + i, none⟩) (cell_lt' (hch i hlt))).trans (hch i hlt), (h.cell (p := ⟨gv, ov + i, none⟩) (cell_lt' (hcv i hlt))).trans (hcv i hlt)⟩)
                  have HWD : Hid ((v.block B).at i = (v.at i + (v.steps (wordsN B 64) 64).at i) % 4294967296) := Lib.hid (add_at _ _ hlt)
                  obtain ⟨ha, hha⟩ : ∃ x, v.at i = x := ⟨_, rfl⟩
                  obtain ⟨va, hva⟩ : ∃ x, (v.steps (wordsN B 64) 64).at i = x := ⟨_, rfl⟩
                  rw [hha, hva] at HKS HWD
                  obtain ⟨q, p1, hp1⟩ : ∃ x : Nat, IntKind.u32.wrap ((ha : Int) + (va : Int)) = (x : Int) ∧ x = (ha + va) % 4294967296 := ⟨_, wrap_add _ _, rfl⟩
                  rw [← hp1] at HWD
                  obtain ⟨c1, c2⟩ := HKS.out wr hb
                  have HROW := Lib.hid hrow
                  have HBW := Lib.hid hb
                  have hwr := hb.size
                  clear hrow hb hha hva hp1 hch hcv
                  go_upto_region 27 with fail
                  go_region_held3 (fun W => W.cell? ⟨hb8, ho8 + i, none⟩ = some (.int .u32 (ha : Int)) ∧ W.cell? ⟨gv, ov + i, none⟩ = some (.int .u32 (va : Int)))
                    (first | exact ⟨by assumption, by assumption⟩ | exact HKS.out _ (by assumption) | go_keep)
                    ((refine step_append_lies _ (by rfl) (.tmp 225) (.tmp 235) 78 (by rfl) wz.heap.size 77 i0 (.int .u32 0) 1 4 Tryd.underlying78 hi hz0 hz1 hz2 rfl (by decide) _ i _ (by rfl) ((HROW.out.alloc _).drew) ⟨wr.heap.size, 0, none⟩ 1 1 [.int .u32 _] (by rfl) rfl (cell_one_new wr _ _) (h1 := by simp [Value.oneCell']) (hm := by decide) (h63 := by unfold maxLen; omega) (hbytes := by omega) (hbase := Nat.le_trans hwr (by show wr.heap.size ≤ (wr.alloc _).heap.size; simp)) (H := wr.heap.size + 1) (hH := by show (wr.alloc _).heap.size = _; simp) ?_; intro g cp1 w7 hown1 hgrow1 hat1 hlt1; have hb7 := ((HBW.out.alloc hwr _).drew).grown hgrow1 (by simp; omega) (fun j ej => (HROW.out.lt j ej).1)))
                  go_wp2_with fail
                  refine ⟨?_, by simp [intOf]; omega⟩
                  (repeat apply Exists.intro)
                  refine ⟨⟨i + 1, by omega, by go_num, ?_, hb7⟩, rfl⟩
                  rw [List.range_succ, List.map_append]
                  have e : (List.map (fun j => Value.int .u32 ((v.block B).at j : Nat)) [i]) = [.int .u32 (q : Int)] := by rw [← HWD.out]; rfl
                  rw [e]
                  exact hown1
                · obtain rfl : i = 8 := by omega
                  obtain ⟨pf, cf, rfl, hrf⟩ := own_readsU hrow
                  have HRF := Lib.hid hrf
                  have HBF := Lib.hid (HBZ.out.trans (hb.mono HBZ.out.size))
                  clear hrow hrf hb
                  go_wp2_with fail
                  go_ret
                  exact ⟨⟨_, _, rfl, HRF.out⟩, HBF.out⟩
end Go.Proofs.YtcfplkbbgjiocaaDoor
