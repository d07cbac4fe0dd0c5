/- Package digest: a block. Conditions: a block of 64 bytes that can be read; the table holds its words. -/
import Derived.Test.YtcfplkbbgjiocaaDoorShaSched
import Derived.Deep.WholeRow
import Derived.Laws.CopyRow
import Derived.Laws.CopyOwn
namespace Go.Proofs.YtcfplkbbgjiocaaDoor
open Go Go.RowKit
/-- The table's words in memory. -/
def RoundOk (W : World) : Prop := ∀ i, i < 64 → W.cell? ⟨1, i, none⟩ = some (.int .u32 (kAt i : Nat))
theorem RoundOk.below {W W' : World} (h : RoundOk W) (hb : Below W.heap.size W W') : RoundOk W' := fun i hi => (hb.cell (p := ⟨1, i, none⟩) (cell_lt' (h i hi))).trans (h i hi)
def kCells : Array Value := ((List.range 64).map fun i => Value.int .u32 (kAt i : Nat)).toArray
theorem kCells_size : kCells.size = 64 := by simp [kCells]
theorem kCells_at (i : Nat) (hi : i < 64) : kCells[i]? = some (.int .u32 (kAt i : Nat)) := by
  unfold kCells
  simp [hi]
theorem load_round {W : World} (h : RoundOk W) : (Instr.loadAt 127 (.pointer (some ⟨1, 0, none⟩))).run Tryd.prog W = .ok (.agg kCells) W := by
  have hl := run_loadCells_list (P := Tryd.prog) W ⟨1, 0, none⟩ kCells.toList (fun j v hj => by
    have hj' : j < 64 := by
      have := (List.getElem?_eq_some_iff.1 hj).1
      simpa [kCells_size] using this
    have h2 := kCells_at j hj'
    rw [← Array.getElem?_toList, hj] at h2
    rw [show (⟨1, 0, none⟩ : Addr).add j = ⟨1, j, none⟩ by unfold Addr.add; split <;> simp_all]
    rw [h j hj', h2])
  rw [show kCells.toList.length = 64 by simp [kCells_size]] at hl
  have hu := Tryd.underlying127
  simp only [Instr.loadAt, Instr.sureAddr, Sem.run_bind, Sem.run_pure, Result.andThen]
  simp [loadVar, isAgg, run_underlying hu, hl]
theorem wpList_load_round {ops : Array Oper} {rest : List Oper} {o : Oper} {a : Act} {Q : Exit → Act → World → Prop} {w : World} (hgd : o.guard = none) (x : Operand) (ho : o.op = .load 127 x) (h : RoundOk w)
    (hx : a.eval x = .pointer (some ⟨1, 0, none⟩)) (hk : wpList Tryd.prog ops Q rest (a.put o.dst (.agg kCells)) w) : wpList Tryd.prog ops Q (o :: rest) a w :=
  wpList_plain hgd fun K hK => by
    have hr := load_round h
    unfold Oper.wp execOp
    simp only [ho, Sem.run_bind, Sem.run_pure, Result.andThen_ok, hx, hr]
    exact hK _ _ hk
theorem UBox.eight {W : World} {B : Nat} {v : W8} (h : UBox .u32 W B 8 v.at) : ∃ t, W.heap[B]? = some (.cells #[.int .u32 (v.a : Nat), .int .u32 (v.b : Nat), .int .u32 (v.c : Nat), .int .u32 (v.d : Nat), .int .u32 (v.e : Nat), .int .u32 (v.f : Nat), .int .u32 (v.g : Nat), .int .u32 (v.h : Nat)] t (0, 0)) := by
  obtain ⟨cs, t, h, hs, hc⟩ := h
  refine ⟨t, ?_⟩
  rw [h]
  congr 2
  apply Array.ext_getElem?
  intro i
  by_cases hi : i < 8
  · rw [hc i hi]
    rcases (show i = 0 ∨ i = 1 ∨ i = 2 ∨ i = 3 ∨ i = 4 ∨ i = 5 ∨ i = 6 ∨ i = 7 by omega) with rfl | rfl | rfl | rfl | rfl | rfl | rfl | rfl <;> rfl
  · rw [Array.getElem?_eq_none (by omega), Array.getElem?_eq_none (by simp; omega)]
theorem eight_ubox {W : World} {B : Nat} {t : TypeId} (v : W8) (h : W.heap[B]? = some (.cells #[.int .u32 (v.a : Nat), .int .u32 (v.b : Nat), .int .u32 (v.c : Nat), .int .u32 (v.d : Nat), .int .u32 (v.e : Nat), .int .u32 (v.f : Nat), .int .u32 (v.g : Nat), .int .u32 (v.h : Nat)] t (0, 0))) : UBox .u32 W B 8 v.at := by
  refine ⟨_, t, h, rfl, fun i hi => ?_⟩
  rcases (show i = 0 ∨ i = 1 ∨ i = 2 ∨ i = 3 ∨ i = 4 ∨ i = 5 ∨ i = 6 ∨ i = 7 by omega) with rfl | rfl | rfl | rfl | rfl | rfl | rfl | rfl <;> rfl
theorem add_at (v u : W8) {k : Nat} (hk : k < 8) : (v.add u).at k = (v.at k + u.at k) % 4294967296 := by
  rcases (show k = 0 ∨ k = 1 ∨ k = 2 ∨ k = 3 ∨ k = 4 ∨ k = 5 ∨ k = 6 ∨ k = 7 by omega) with rfl | rfl | rfl | rfl | rfl | rfl | rfl | rfl <;> rfl
theorem mixed_big1 (x b o c : Nat) (w : World) (hx : x < 4294967296) (h0 : w.cell? ⟨b, o, none⟩ = some (.int .i64 6)) (h1 : w.cell? ⟨b, o + 1, none⟩ = some (.int .i64 11)) (h2 : w.cell? ⟨b, o + 2, none⟩ = some (.int .i64 25)) :
    Calls Tryd.prog 78 #[.int .u32 (x : Int), .slice (some ⟨b, o, none⟩) 3 c] w fun e w' => e = .returned (.int .u32 (big1 x : Nat)) ∧ w = w' := mixed3_any x b o c 6 11 25 w hx (by omega) (by omega) (by omega) h0 h1 h2
theorem mixed_big0 (x b o c : Nat) (w : World) (hx : x < 4294967296) (h0 : w.cell? ⟨b, o, none⟩ = some (.int .i64 2)) (h1 : w.cell? ⟨b, o + 1, none⟩ = some (.int .i64 13)) (h2 : w.cell? ⟨b, o + 2, none⟩ = some (.int .i64 22)) :
    Calls Tryd.prog 78 #[.int .u32 (x : Int), .slice (some ⟨b, o, none⟩) 3 c] w fun e w' => e = .returned (.int .u32 (big0 x : Nat)) ∧ w = w' := mixed3_any x b o c 2 13 22 w hx (by omega) (by omega) (by omega) h0 h1 h2
theorem and_lt32 {a b : Nat} (ha : a < 4294967296) : a &&& b < 4294967296 := Nat.lt_of_le_of_lt Nat.and_le_left ha
theorem wrap_add (a b : Nat) : IntKind.u32.wrap ((a : Int) + (b : Int)) = (((a + b) % 4294967296 : Nat) : Int) := by rw [IntKind.wrap_u32]; omega
set_option maxRecDepth 100000 in
set_option maxHeartbeats 4000000 in
theorem add_block (H b o c : Nat) (v : W8) (B : Nat → Nat) (w : World) (hv : v.Ok) (hx : UBox .u32 w H 8 v.at) (hr : ReadsU .u8 w (some ⟨b, o, none⟩) 64 B) (hB : ∀ i, B i < 256) (hT : RoundOk w) :
    Calls Tryd.prog 74 #[.pointer (some ⟨H, 0, none⟩), .slice (some ⟨b, o, none⟩) 64 c] w fun e w' => (∃ v, e = .returned v) ∧ UBox .u32 w' H 8 (v.block B).at ∧ Below H w w' ∧ (∀ b, b < w.heap.size → b ≠ H → w'.heap[b]? = w.heap[b]?) := by
  have HX := Lib.hid hx
  have HT := Lib.hid hT
  have HS := Lib.hid (schedule_any b o c B w hr hB)
  have HB := Lib.hid hB
  clear hx hT hr hB
  go_enter Tryd.func74, Tryd.ntmps74
  go_wp2_with fail
  refine HS.out.mono ?_
  rintro e w1 ⟨⟨cs, rfl, hsz, hcs⟩, hb1⟩
  have HX1 := Lib.hid (HX.out.below hb1)
  have HT1 := Lib.hid (HT.out.below hb1)
  have HON := Lib.hid (u_one hsz hcs)
  have HSZ := Lib.hid hsz
  have HCS := Lib.hid hcs
  have HB1 := Lib.hid hb1
  clear hsz hcs hb1 HS
  go_upto_region 1 with (
    with_reducible refine wpList_store_row (t := 127) rfl _ _ rfl (b := w1.heap.size) (n := 64) (cs := cs) ?_ (World.alloc_heap_new _ _) ?_ HSZ.out HON.out ?_ ?_ ?_
    · kernel_rfl
    · rfl
    · rfl
    · rfl
    rw [World.setRow_alloc_new])
  have hwb := UBox.new (K := .u32) (n := 64) w1 cs 127 (wordAt B) HSZ.out HCS.out
  have hal2 : Below w1.heap.size w1 (w1.alloc (.cells cs 127)) := (Below.refl _ _).alloc (Nat.le_refl _) _
  obtain ⟨w2, hw2⟩ : ∃ w2, w1.alloc (.cells cs 127) = w2 := ⟨_, rfl⟩
  have hz2 : w2.heap.size = w1.heap.size + 1 := by rw [← hw2, World.size_alloc]
  rw [hw2] at hwb hal2 ⊢
  obtain ⟨A, hA⟩ : ∃ A, w1.heap.size = A := ⟨_, rfl⟩
  rw [hA] at hwb hal2 hz2 ⊢
  have hHA : H < A := by rw [← hA]; exact HX1.out.lt
  have HX2 := Lib.hid (HX1.out.low hal2 hHA)
  have HT2 := Lib.hid (HT1.out.below (by rw [hA]; exact hal2))
  have HWB2 := Lib.hid hwb
  have HB2 := Lib.hid (HB1.out.trans (hal2.mono (by rw [← hA]; exact HB1.out.size)))
  have HZ2 := Lib.hid hz2
  have HVW : Hid (w.heap.size ≤ A) := Lib.hid (by rw [← hA]; exact HB1.out.size)
  clear hw2 hwb hal2 hz2 hA HX1 HT1 HB1 HON HSZ HCS
  obtain ⟨t8, h8⟩ := HX2.out.eight
  have x0 := HX2.out.cell 0 (by omega)
  have x1 := HX2.out.cell 1 (by omega)
  have x2 := HX2.out.cell 2 (by omega)
  have x3 := HX2.out.cell 3 (by omega)
  have x4 := HX2.out.cell 4 (by omega)
  have x5 := HX2.out.cell 5 (by omega)
  have x6 := HX2.out.cell 6 (by omega)
  have x7 := HX2.out.cell 7 (by omega)
  simp only [W8.at] at x0 x1 x2 x3 x4 x5 x6 x7
  have hal3 : Below w2.heap.size w2 (w2.alloc (.cells #[.int .u32 (v.a : Nat), .int .u32 (v.b : Nat), .int .u32 (v.c : Nat), .int .u32 (v.d : Nat), .int .u32 (v.e : Nat), .int .u32 (v.f : Nat), .int .u32 (v.g : Nat), .int .u32 (v.h : Nat)] 120)) := (Below.refl _ _).alloc (Nat.le_refl _) _
  have hvb := eight_ubox v (World.alloc_heap_new w2 (.cells #[.int .u32 (v.a : Nat), .int .u32 (v.b : Nat), .int .u32 (v.c : Nat), .int .u32 (v.d : Nat), .int .u32 (v.e : Nat), .int .u32 (v.f : Nat), .int .u32 (v.g : Nat), .int .u32 (v.h : Nat)] 120))
  go_upto_region 2 with fail
  obtain ⟨w3, hw3⟩ : ∃ w3, w2.alloc (.cells #[.int .u32 (v.a : Nat), .int .u32 (v.b : Nat), .int .u32 (v.c : Nat), .int .u32 (v.d : Nat), .int .u32 (v.e : Nat), .int .u32 (v.f : Nat), .int .u32 (v.g : Nat), .int .u32 (v.h : Nat)] 120) = w3 := ⟨_, rfl⟩
  rw [hw3] at hal3 hvb ⊢
  obtain ⟨V, hV⟩ : ∃ V, w2.heap.size = V := ⟨_, rfl⟩
  rw [hV] at hal3 hvb ⊢
  have hAV : A < V := by have := HZ2.out; omega
  have HX3 := Lib.hid (HX2.out.low hal3 (by omega))
  have HT3 := Lib.hid (HT2.out.below (by rw [hV]; exact hal3))
  have HWB3 := Lib.hid (HWB2.out.low hal3 hAV)
  have HVB3 := Lib.hid hvb
  have HB3 := Lib.hid (HB2.out.trans (hal3.mono (by rw [← hV]; exact HB2.out.size)))
  clear hw3 hal3 hvb hV x0 x1 x2 x3 x4 x5 x6 x7 h8 HX2 HT2 HWB2 HB2
  go_wp2_with (
    with_reducible refine wpList_load_round rfl _ rfl HT3.out ?_ ?_
    · rfl)
  have HIX := Lib.hid (fun (k : Nat) (hk : k < 64) (W : World) => run_index_agg (w := W) Tryd.underlying127 hk (kCells_at k hk))
  obtain ⟨KC, hKC⟩ : ∃ KC, kCells = KC := ⟨_, rfl⟩
  rw [hKC] at HIX ⊢
  clear hKC
  go_loopw [19] (fun iv wr => ∃ i : Nat, i ≤ 64 ∧ iv = .int .i64 i ∧ UBox .u32 wr V 8 (v.steps (wordsN B 64) i).at ∧ Below V w3 wr) (fun iv _ => 64 - (intOf iv).toNat)
  case atStart => exact ⟨0, by omega, rfl, HVB3.out, Below.refl _ _⟩
  case round =>
    obtain ⟨i, hi, rfl, hvb, hb⟩ := hrel
    by_cases hlt : i < 64
    · have l0 : (i : Int) < 64 := by omega
      have l1 : (0 : Int) ≤ (i : Int) := by omega
      have ix := HIX.out i hlt
      have hok := W8.Ok.steps hv (wordsN B 64) i
      have HST : Hid (v.steps (wordsN B 64) (i + 1) = (v.steps (wordsN B 64) i).step (kAt i) (wordAt B i)) := Lib.hid (by
        show (v.steps (wordsN B 64) i).step (kAt i) ((wordsN B 64).getD i 0) = _
        rw [wordsN_at B hlt])
      generalize v.steps (wordsN B 64) i = u at hvb hok HST
      obtain ⟨ua, ub, uc, ud, ue, uf, ug, uh⟩ := u
      obtain ⟨ka, kb, kc, kd, ke, kf, kg, kh⟩ := hok
      simp only at ka kb kc kd ke kf kg kh
      have wa := (HWB3.out.low hb hAV).cell i hlt
      have kw := wordAt_lt HB.out i
      have kk := kAt_lt i
      obtain ⟨wd, hwd⟩ : ∃ x, wordAt B i = x := ⟨_, rfl⟩
      obtain ⟨kd', hkd⟩ : ∃ x, kAt i = x := ⟨_, rfl⟩
      rw [hwd] at wa kw HST
      rw [hkd] at ix kk HST
      have HM1 := Lib.hid (fun (b o c : Nat) (W : World) => mixed_big1 ue b o c W ke)
      have HM0 := Lib.hid (fun (b o c : Nat) (W : World) => mixed_big0 ua b o c W ka)
      have q1l := big1_lt ke
      have q0l := big0_lt ka
      have HT1 : Hid (tOne ⟨ua, ub, uc, ud, ue, uf, ug, uh⟩ kd' wd = (uh + big1 ue + ((ue &&& uf) ^^^ ((4294967295 - ue) &&& ug)) + kd' + wd) % 4294967296) := Lib.hid rfl
      have HT2 : Hid (tTwo ⟨ua, ub, uc, ud, ue, uf, ug, uh⟩ = (big0 ua + ((ua &&& ub) ^^^ (ua &&& uc) ^^^ (ub &&& uc))) % 4294967296) := Lib.hid rfl
      obtain ⟨q1, hq1⟩ : ∃ x, big1 ue = x := ⟨_, rfl⟩
      obtain ⟨q0, hq0⟩ : ∃ x, big0 ua = x := ⟨_, rfl⟩
      rw [hq1] at HM1 q1l HT1
      rw [hq0] at HM0 q0l HT2
      obtain ⟨c1, f1, e1⟩ : ∃ x : Nat, bits .and .u32 (ue : Int) (uf : Int) = (x : Int) ∧ x = ue &&& uf := ⟨_, bitsN32_and ue uf ke kf, rfl⟩
      obtain ⟨n1, f2, e2⟩ : ∃ x : Nat, bits .xor .u32 IntKind.u32.max (ue : Int) = (x : Int) ∧ x = 4294967295 - ue := ⟨_, not_u32 ue ke, rfl⟩
      have f2' : bits .xor .u32 (if IntKind.u32.signed = true then -1 else IntKind.u32.max) (ue : Int) = (n1 : Int) := f2
      obtain ⟨c2, f3, e3⟩ : ∃ x : Nat, bits .and .u32 (n1 : Int) (ug : Int) = (x : Int) ∧ x = n1 &&& ug := ⟨_, bitsN32_and n1 ug (by omega) kg, rfl⟩
      have lc1 : c1 < 4294967296 := by rw [e1]; exact and_lt32 ke
      have lc2 : c2 < 4294967296 := by rw [e3]; exact and_lt32 (by omega)
      obtain ⟨c3, f4, e4⟩ : ∃ x : Nat, bits .xor .u32 (c1 : Int) (c2 : Int) = (x : Int) ∧ x = c1 ^^^ c2 := ⟨_, bitsN32_xor c1 c2 lc1 lc2, rfl⟩
      obtain ⟨s1, f5, e5⟩ : ∃ x : Nat, IntKind.u32.wrap ((uh : Int) + (q1 : Int)) = (x : Int) ∧ x = (uh + q1) % 4294967296 := ⟨_, wrap_add _ _, rfl⟩
      obtain ⟨s2, f6, e6⟩ : ∃ x : Nat, IntKind.u32.wrap ((s1 : Int) + (c3 : Int)) = (x : Int) ∧ x = (s1 + c3) % 4294967296 := ⟨_, wrap_add _ _, rfl⟩
      obtain ⟨s3, f7, e7⟩ : ∃ x : Nat, IntKind.u32.wrap ((s2 : Int) + (kd' : Int)) = (x : Int) ∧ x = (s2 + kd') % 4294967296 := ⟨_, wrap_add _ _, rfl⟩
      obtain ⟨T, f8, e8⟩ : ∃ x : Nat, IntKind.u32.wrap ((s3 : Int) + (wd : Int)) = (x : Int) ∧ x = (s3 + wd) % 4294967296 := ⟨_, wrap_add _ _, rfl⟩
      obtain ⟨d1, g1, i1⟩ : ∃ x : Nat, bits .and .u32 (ua : Int) (ub : Int) = (x : Int) ∧ x = ua &&& ub := ⟨_, bitsN32_and ua ub ka kb, rfl⟩
      obtain ⟨d2, g2, i2⟩ : ∃ x : Nat, bits .and .u32 (ua : Int) (uc : Int) = (x : Int) ∧ x = ua &&& uc := ⟨_, bitsN32_and ua uc ka kc, rfl⟩
      obtain ⟨d4, g4, i4⟩ : ∃ x : Nat, bits .and .u32 (ub : Int) (uc : Int) = (x : Int) ∧ x = ub &&& uc := ⟨_, bitsN32_and ub uc kb kc, rfl⟩
      have ld1 : d1 < 4294967296 := by rw [i1]; exact and_lt32 ka
      have ld2 : d2 < 4294967296 := by rw [i2]; exact and_lt32 ka
      have ld4 : d4 < 4294967296 := by rw [i4]; exact and_lt32 kb
      obtain ⟨d3, g3, i3⟩ : ∃ x : Nat, bits .xor .u32 (d1 : Int) (d2 : Int) = (x : Int) ∧ x = d1 ^^^ d2 := ⟨_, bitsN32_xor d1 d2 ld1 ld2, rfl⟩
      obtain ⟨d5, g5, i5⟩ : ∃ x : Nat, bits .xor .u32 (d3 : Int) (d4 : Int) = (x : Int) ∧ x = d3 ^^^ d4 := ⟨_, bitsN32_xor d3 d4 (by rw [i3]; exact Nat.xor_lt_two_pow (n := 32) ld1 ld2) ld4, rfl⟩
      obtain ⟨U, g6, i6⟩ : ∃ x : Nat, IntKind.u32.wrap ((q0 : Int) + (d5 : Int)) = (x : Int) ∧ x = (q0 + d5) % 4294967296 := ⟨_, wrap_add _ _, rfl⟩
      obtain ⟨X, g7, i7⟩ : ∃ x : Nat, IntKind.u32.wrap ((T : Int) + (U : Int)) = (x : Int) ∧ x = (T + U) % 4294967296 := ⟨_, wrap_add _ _, rfl⟩
      obtain ⟨Y, g8, i8⟩ : ∃ x : Nat, IntKind.u32.wrap ((ud : Int) + (T : Int)) = (x : Int) ∧ x = (ud + T) % 4294967296 := ⟨_, wrap_add _ _, rfl⟩
      have HNEW : Hid (v.steps (wordsN B 64) (i + 1) = ⟨X, ua, ub, uc, Y, ue, uf, ug⟩) := Lib.hid (by
        rw [HST.out]
        have hT : tOne ⟨ua, ub, uc, ud, ue, uf, ug, uh⟩ kd' wd = T := by rw [HT1.out, ← e1, ← e2, ← e3, ← e4]; omega
        have hU : tTwo ⟨ua, ub, uc, ud, ue, uf, ug, uh⟩ = U := by rw [HT2.out, ← i1, ← i2, ← i4, ← i3, ← i5]; omega
        unfold W8.step
        rw [hT, hU, ← i7, ← i8])
      have HVB := Lib.hid hvb
      have HBV := Lib.hid hb
      have v0 := hvb.cell 0 (by omega)
      have v1 := hvb.cell 1 (by omega)
      have v2 := hvb.cell 2 (by omega)
      have v4 := hvb.cell 4 (by omega)
      have v5 := hvb.cell 5 (by omega)
      have v6 := hvb.cell 6 (by omega)
      have v7 := hvb.cell 7 (by omega)
      simp only [W8.at] at v0 v1 v2 v4 v5 v6 v7
      have HC5 := Lib.hid v5
      have HC6 := Lib.hid v6
      have HC7 := Lib.hid v7
      have HC1 := Lib.hid v1
      have HC2 := Lib.hid v2
      have HWA := Lib.hid wa
      clear hvb hb hwd hkd hq1 hq0 e1 e2 e3 e4 e5 e6 e7 e8 i1 i2 i3 i4 i5 i6 i7 i8 HST HT1 HT2 v1 v2 v5 v6 v7 wa
      go_upto_region 5 with fail
      go_quiet (fail)
      go_upto_region 6 with fail
      have hdn := Below_dn (Below.refl wr.heap.size wr) nq
      obtain ⟨w4, hw4⟩ : ∃ w4, wr.drewN nq = w4 := ⟨_, rfl⟩
      rw [hw4] at hdn ⊢
      have HKS : Hid (∀ W, Below w4.heap.size w4 W → W.cell? ⟨V, 1, none⟩ = some (.int .u32 (ub : Nat)) ∧ W.cell? ⟨V, 2, none⟩ = some (.int .u32 (uc : Nat)) ∧ W.cell? ⟨V, 5, none⟩ = some (.int .u32 (uf : Nat)) ∧ W.cell? ⟨V, 6, none⟩ = some (.int .u32 (ug : Nat)) ∧ W.cell? ⟨V, 7, none⟩ = some (.int .u32 (uh : Nat)) ∧ W.cell? ⟨A, i, none⟩ = some (.int .u32 (wd : Nat))) := Lib.hid (fun W hb => by
        have h := hdn.trans (hb.mono hdn.size)
        exact ⟨(h.cell (p := ⟨V, 1, none⟩) (cell_lt' HC1.out)).trans HC1.out, (h.cell (p := ⟨V, 2, none⟩) (cell_lt' HC2.out)).trans HC2.out, (h.cell (p := ⟨V, 5, none⟩) (cell_lt' HC5.out)).trans HC5.out, (h.cell (p := ⟨V, 6, none⟩) (cell_lt' HC6.out)).trans HC6.out, (h.cell (p := ⟨V, 7, none⟩) (cell_lt' HC7.out)).trans HC7.out, (h.cell (p := ⟨A, i, none⟩) (cell_lt' HWA.out)).trans HWA.out⟩)
      have HVB4 := Lib.hid (HVB.out.below hdn)
      have HBV4 := Lib.hid (HBV.out.trans (hdn.mono (Nat.le_of_lt HVB.out.lt)))
      clear hdn hw4 v0 v4
      refine wp_region_held_drew (S := (fun W => W.cell? ⟨V, 1, none⟩ = some (.int .u32 (ub : Nat)) ∧ W.cell? ⟨V, 2, none⟩ = some (.int .u32 (uc : Nat)) ∧ W.cell? ⟨V, 5, none⟩ = some (.int .u32 (uf : Nat)) ∧ W.cell? ⟨V, 6, none⟩ = some (.int .u32 (ug : Nat)) ∧ W.cell? ⟨V, 7, none⟩ = some (.int .u32 (uh : Nat)) ∧ W.cell? ⟨A, i, none⟩ = some (.int .u32 (wd : Nat)))) (by kernel_rfl) ?_ (fun hHeld => ?_)
      · exact HKS.out _ (Below.refl _ _).drew
      refine wpAnyH_take (i := 0) (v := ?_) rfl (by kernel_rfl) (by kernel_rfl) (by kernel_rfl) (fun _ _ _ h => h) (Or.inl ⟨by rfl, ?_⟩) (by assumption) ?_
      rotate_left
      · intro w hSw
        try dsimp only at hSw
        go_simp
        all_goals with_reducible rfl
      try simp only [Act.put, List.getElem_toArray, List.getElem_cons_zero, List.setIfInBounds_toArray, List.set_cons_zero, List.set_cons_succ]
      refine wpAnyH_take (i := 1) (v := ?_) rfl (by kernel_rfl) (by kernel_rfl) (by kernel_rfl) (fun _ _ _ h => h) (Or.inl ⟨by rfl, ?_⟩) (by assumption) ?_
      rotate_left
      · intro w hSw
        try dsimp only at hSw
        go_simp
        all_goals with_reducible rfl
      try simp only [Act.put, List.getElem_toArray, List.getElem_cons_succ, List.getElem_cons_zero, List.setIfInBounds_toArray, List.set_cons_zero, List.set_cons_succ]
      refine wpAnyH_take (i := 2) (v := ?_) rfl (by kernel_rfl) (by kernel_rfl) (by kernel_rfl) (fun _ _ _ h => h) (Or.inl ⟨by rfl, ?_⟩) (by assumption) ?_
      rotate_left
      · intro w hSw
        try dsimp only at hSw
        go_simp
        all_goals with_reducible rfl
      try simp only [Act.put, List.getElem_toArray, List.getElem_cons_succ, List.getElem_cons_zero, List.setIfInBounds_toArray, List.set_cons_zero, List.set_cons_succ]
      refine wpAnyH_take (i := 6) (v := ?_) rfl (by kernel_rfl) (by kernel_rfl) (by kernel_rfl) (fun _ _ _ h => h) (Or.inl ⟨by rfl, ?_⟩) (by assumption) ?_
      rotate_left
      · intro w hSw
        try dsimp only at hSw
        go_simp
        all_goals with_reducible rfl
      try simp only [Act.put, List.getElem_toArray, List.getElem_cons_succ, List.getElem_cons_zero, List.setIfInBounds_toArray, List.set_cons_zero, List.set_cons_succ]
      refine wpAnyH_take (i := 7) (v := ?_) rfl (by kernel_rfl) (by kernel_rfl) (by kernel_rfl) (fun _ _ _ h => h) (Or.inl ⟨by rfl, ?_⟩) (by assumption) ?_
      rotate_left
      · intro w hSw
        try dsimp only at hSw
        go_simp
        all_goals with_reducible rfl
      try simp only [Act.put, List.getElem_toArray, List.getElem_cons_succ, List.getElem_cons_zero, List.setIfInBounds_toArray, List.set_cons_zero, List.set_cons_succ]
      refine wpAnyH_take (i := 8) (v := ?_) rfl (by kernel_rfl) (by kernel_rfl) (by kernel_rfl) (fun _ _ _ h => h) (Or.inl ⟨by rfl, ?_⟩) (by assumption) ?_
      rotate_left
      · intro w hSw
        try dsimp only at hSw
        go_simp
        all_goals with_reducible rfl
      try simp only [Act.put, List.getElem_toArray, List.getElem_cons_succ, List.getElem_cons_zero, List.setIfInBounds_toArray, List.set_cons_zero, List.set_cons_succ]
      refine wpAnyH_take (i := 9) (v := ?_) rfl (by kernel_rfl) (by kernel_rfl) (by kernel_rfl) (fun _ _ _ h => h) (Or.inl ⟨by rfl, ?_⟩) (by assumption) ?_
      rotate_left
      · intro w hSw
        try dsimp only at hSw
        go_simp
        all_goals with_reducible rfl
      try simp only [Act.put, List.getElem_toArray, List.getElem_cons_succ, List.getElem_cons_zero, List.setIfInBounds_toArray, List.set_cons_zero, List.set_cons_succ]
      refine wpAnyH_take (i := 10) (v := ?_) rfl (by kernel_rfl) (by kernel_rfl) (by kernel_rfl) (fun _ _ _ h => h) (Or.inl ⟨by rfl, ?_⟩) (by assumption) ?_
      rotate_left
      · intro w hSw
        try dsimp only at hSw
        go_simp
        all_goals with_reducible rfl
      try simp only [Act.put, List.getElem_toArray, List.getElem_cons_succ, List.getElem_cons_zero, List.setIfInBounds_toArray, List.set_cons_zero, List.set_cons_succ]
      refine wpAnyH_take (i := 11) (v := ?_) rfl (by kernel_rfl) (by kernel_rfl) (by kernel_rfl) (fun _ _ _ h => h) (Or.inl ⟨by rfl, ?_⟩) (by assumption) ?_
      rotate_left
      · intro w hSw
        try dsimp only at hSw
        go_simp
        all_goals with_reducible rfl
      try simp only [Act.put, List.getElem_toArray, List.getElem_cons_succ, List.getElem_cons_zero, List.setIfInBounds_toArray, List.set_cons_zero, List.set_cons_succ]
      refine wpAnyH_take (i := 12) (v := ?_) rfl (by kernel_rfl) (by kernel_rfl) (by kernel_rfl) (fun _ _ _ h => h) (Or.inl ⟨by rfl, ?_⟩) (by assumption) ?_
      rotate_left
      · intro w hSw
        try dsimp only at hSw
        go_simp
        all_goals with_reducible rfl
      try simp only [Act.put, List.getElem_toArray, List.getElem_cons_succ, List.getElem_cons_zero, List.setIfInBounds_toArray, List.set_cons_zero, List.set_cons_succ]
      refine wpAnyH_take (i := 13) (v := ?_) rfl (by kernel_rfl) (by kernel_rfl) (by kernel_rfl) (fun _ _ _ h => h) (Or.inl ⟨by rfl, ?_⟩) (by assumption) ?_
      rotate_left
      · intro w hSw
        try dsimp only at hSw
        go_simp
        all_goals with_reducible rfl
      try simp only [Act.put, List.getElem_toArray, List.getElem_cons_succ, List.getElem_cons_zero, List.setIfInBounds_toArray, List.set_cons_zero, List.set_cons_succ]
      refine wpAnyH_take (i := 14) (v := ?_) rfl (by kernel_rfl) (by kernel_rfl) (by kernel_rfl) (fun _ _ _ h => h) (Or.inl ⟨by rfl, ?_⟩) (by assumption) ?_
      rotate_left
      · intro w hSw
        try dsimp only at hSw
        go_simp
        all_goals with_reducible rfl
      try simp only [Act.put, List.getElem_toArray, List.getElem_cons_succ, List.getElem_cons_zero, List.setIfInBounds_toArray, List.set_cons_zero, List.set_cons_succ]
      refine wpAnyH_take (i := 15) (v := ?_) rfl (by kernel_rfl) (by kernel_rfl) (by kernel_rfl) (fun _ _ _ h => h) (Or.inl ⟨by rfl, ?_⟩) (by assumption) ?_
      rotate_left
      · intro w hSw
        try dsimp only at hSw
        go_simp
        all_goals with_reducible rfl
      try simp only [Act.put, List.getElem_toArray, List.getElem_cons_succ, List.getElem_cons_zero, List.setIfInBounds_toArray, List.set_cons_zero, List.set_cons_succ]
      refine wpAnyH_take (i := 17) (v := ?_) rfl (by kernel_rfl) (by kernel_rfl) (by kernel_rfl) (fun _ _ _ h => h) (Or.inl ⟨by rfl, ?_⟩) (by assumption) ?_
      rotate_left
      · intro w hSw
        try dsimp only at hSw
        go_simp
        all_goals with_reducible rfl
      try simp only [Act.put, List.getElem_toArray, List.getElem_cons_succ, List.getElem_cons_zero, List.setIfInBounds_toArray, List.set_cons_zero, List.set_cons_succ]
      refine wpAnyH_take (i := 19) (v := ?_) rfl (by kernel_rfl) (by kernel_rfl) (by kernel_rfl) (fun _ _ _ h => h) (Or.inl ⟨by rfl, ?_⟩) (by assumption) ?_
      rotate_left
      · intro w hSw
        try dsimp only at hSw
        go_simp
        all_goals with_reducible rfl
      try simp only [Act.put, List.getElem_toArray, List.getElem_cons_succ, List.getElem_cons_zero, List.setIfInBounds_toArray, List.set_cons_zero, List.set_cons_succ]
      refine wpAnyH_take (i := 20) (v := ?_) rfl (by kernel_rfl) (by kernel_rfl) (by kernel_rfl) (fun _ _ _ h => h) (Or.inl ⟨by rfl, ?_⟩) (by assumption) ?_
      rotate_left
      · intro w hSw
        try dsimp only at hSw
        go_simp
        all_goals with_reducible rfl
      try simp only [Act.put, List.getElem_toArray, List.getElem_cons_succ, List.getElem_cons_zero, List.setIfInBounds_toArray, List.set_cons_zero, List.set_cons_succ]
      refine wpAnyH_take (i := 21) (v := ?_) rfl (by kernel_rfl) (by kernel_rfl) (by kernel_rfl) (fun _ _ _ h => h) (Or.inl ⟨by rfl, ?_⟩) (by assumption) ?_
      rotate_left
      · intro w hSw
        try dsimp only at hSw
        go_simp
        all_goals with_reducible rfl
      try simp only [Act.put, List.getElem_toArray, List.getElem_cons_succ, List.getElem_cons_zero, List.setIfInBounds_toArray, List.set_cons_zero, List.set_cons_succ]
      refine wpAnyH_ready (rs := [3]) (by kernel_rfl) (by simp) ?_
      refine AllReadyH.cons rfl (fun K hK => ?_) AllReadyH.nil
      go_simp
      refine hK.out _ _ ?_ (fun hHeld2 => ?_)
      · exact HKS.out _ ((Below.refl w4.heap.size w4).drew.alloc (Nat.le_refl _) _)
      clear hK K hHeld
      have hHeld := hHeld2
      clear hHeld2
      try simp only [Act.put, List.getElem_toArray, List.getElem_cons_succ, List.getElem_cons_zero, List.setIfInBounds_toArray, List.set_cons_zero, List.set_cons_succ]
      refine wpAnyH_ready (rs := [4]) (by kernel_rfl) (by simp) ?_
      refine AllReadyH.cons rfl (fun K hK => ?_) AllReadyH.nil
      go_simp
      go_at_call 78
      refine (HM1.out _ _ _ _ (by simp) (by simp) (by simp)).mono ?_
      rintro e w5 ⟨rfl, rfl⟩
      refine hK.out _ _ ?_ (fun hHeld2 => ?_)
      · exact HKS.out _ ((Below.refl w4.heap.size w4).drew.alloc (Nat.le_refl _) _)
      clear hK K hHeld
      have hHeld := hHeld2
      clear hHeld2
      try simp only [Act.put, List.getElem_toArray, List.getElem_cons_succ, List.getElem_cons_zero, List.setIfInBounds_toArray, List.set_cons_zero, List.set_cons_succ]
      refine wpAnyH_take (i := 5) (v := ?_) rfl (by kernel_rfl) (by kernel_rfl) (by kernel_rfl) (fun _ _ _ h => h) (Or.inl ⟨by rfl, ?_⟩) (by assumption) ?_
      rotate_left
      · intro w hSw
        try dsimp only at hSw
        go_simp
        all_goals with_reducible rfl
      try simp only [Act.put, List.getElem_toArray, List.getElem_cons_succ, List.getElem_cons_zero, List.setIfInBounds_toArray, List.set_cons_zero, List.set_cons_succ]
      refine wpAnyH_take (i := 16) (v := ?_) rfl (by kernel_rfl) (by kernel_rfl) (by kernel_rfl) (fun _ _ _ h => h) (Or.inl ⟨by rfl, ?_⟩) (by assumption) ?_
      rotate_left
      · intro w hSw
        try dsimp only at hSw
        go_simp
        all_goals with_reducible rfl
      try simp only [Act.put, List.getElem_toArray, List.getElem_cons_succ, List.getElem_cons_zero, List.setIfInBounds_toArray, List.set_cons_zero, List.set_cons_succ]
      refine wpAnyH_take (i := 18) (v := ?_) rfl (by kernel_rfl) (by kernel_rfl) (by kernel_rfl) (fun _ _ _ h => h) (Or.inl ⟨by rfl, ?_⟩) (by assumption) ?_
      rotate_left
      · intro w hSw
        try dsimp only at hSw
        go_simp
        all_goals with_reducible rfl
      try simp only [Act.put, List.getElem_toArray, List.getElem_cons_succ, List.getElem_cons_zero, List.setIfInBounds_toArray, List.set_cons_zero, List.set_cons_succ]
      refine wpAnyH_take (i := 22) (v := ?_) rfl (by kernel_rfl) (by kernel_rfl) (by kernel_rfl) (fun _ _ _ h => h) (Or.inl ⟨by rfl, ?_⟩) (by assumption) ?_
      rotate_left
      · intro w hSw
        try dsimp only at hSw
        go_simp
        all_goals with_reducible rfl
      try simp only [Act.put, List.getElem_toArray, List.getElem_cons_succ, List.getElem_cons_zero, List.setIfInBounds_toArray, List.set_cons_zero, List.set_cons_succ]
      refine wpAnyH_take (i := 23) (v := ?_) rfl (by kernel_rfl) (by kernel_rfl) (by kernel_rfl) (fun _ _ _ h => h) (Or.inl ⟨by rfl, ?_⟩) (by assumption) ?_
      rotate_left
      · intro w hSw
        try dsimp only at hSw
        go_simp
        all_goals with_reducible rfl
      try simp only [Act.put, List.getElem_toArray, List.getElem_cons_succ, List.getElem_cons_zero, List.setIfInBounds_toArray, List.set_cons_zero, List.set_cons_succ]
      refine wpAnyH_done (by kernel_rfl) ?_ _
      go_upto_region 7 with fail
      have hal : Below w4.heap.size w4 (w4.alloc (.cells #[.int .i64 6, .int .i64 11, .int .i64 25] 3)).drew := ((Below.refl _ _).alloc (Nat.le_refl _) _).drew
      obtain ⟨w5, hw5⟩ : ∃ w5, (w4.alloc (.cells #[.int .i64 6, .int .i64 11, .int .i64 25] 3)).drew = w5 := ⟨_, rfl⟩
      rw [hw5] at hal ⊢
      have HKS5 : Hid (∀ W, Below w5.heap.size w5 W → W.cell? ⟨V, 1, none⟩ = some (.int .u32 (ub : Nat)) ∧ W.cell? ⟨V, 2, none⟩ = some (.int .u32 (uc : Nat)) ∧ W.cell? ⟨V, 5, none⟩ = some (.int .u32 (uf : Nat)) ∧ W.cell? ⟨V, 6, none⟩ = some (.int .u32 (ug : Nat)) ∧ W.cell? ⟨V, 7, none⟩ = some (.int .u32 (uh : Nat)) ∧ W.cell? ⟨A, i, none⟩ = some (.int .u32 (wd : Nat))) := Lib.hid (fun W hb => HKS.out W (hal.trans (hb.mono hal.size)))
      have HVB5 := Lib.hid (HVB4.out.below hal)
      have HBV5 := Lib.hid (HBV4.out.trans (hal.mono (Nat.le_of_lt HVB4.out.lt)))
      clear hal hw5 hHeld HKS
      refine wp_region_held_drew (S := (fun W => W.cell? ⟨V, 1, none⟩ = some (.int .u32 (ub : Nat)) ∧ W.cell? ⟨V, 2, none⟩ = some (.int .u32 (uc : Nat)) ∧ W.cell? ⟨V, 5, none⟩ = some (.int .u32 (uf : Nat)) ∧ W.cell? ⟨V, 6, none⟩ = some (.int .u32 (ug : Nat)) ∧ W.cell? ⟨V, 7, none⟩ = some (.int .u32 (uh : Nat)) ∧ W.cell? ⟨A, i, none⟩ = some (.int .u32 (wd : Nat)))) (by kernel_rfl) ?_ (fun hHeld => ?_)
      · exact HKS5.out _ (Below.refl _ _).drew
      refine wpAnyH_take (i := 0) (v := ?_) rfl (by kernel_rfl) (by kernel_rfl) (by kernel_rfl) (fun _ _ _ h => h) (Or.inl ⟨by rfl, ?_⟩) (by assumption) ?_
      rotate_left
      · intro w hSw
        try dsimp only at hSw
        go_simp
        all_goals with_reducible rfl
      try simp only [Act.put, List.getElem_toArray, List.getElem_cons_zero, List.setIfInBounds_toArray, List.set_cons_zero, List.set_cons_succ]
      refine wpAnyH_take (i := 3) (v := ?_) rfl (by kernel_rfl) (by kernel_rfl) (by kernel_rfl) (fun _ _ _ h => h) (Or.inl ⟨by rfl, ?_⟩) (by assumption) ?_
      rotate_left
      · intro w hSw
        try dsimp only at hSw
        go_simp
        all_goals with_reducible rfl
      try simp only [Act.put, List.getElem_toArray, List.getElem_cons_succ, List.getElem_cons_zero, List.setIfInBounds_toArray, List.set_cons_zero, List.set_cons_succ]
      refine wpAnyH_take (i := 4) (v := ?_) rfl (by kernel_rfl) (by kernel_rfl) (by kernel_rfl) (fun _ _ _ h => h) (Or.inl ⟨by rfl, ?_⟩) (by assumption) ?_
      rotate_left
      · intro w hSw
        try dsimp only at hSw
        go_simp
        all_goals with_reducible rfl
      try simp only [Act.put, List.getElem_toArray, List.getElem_cons_succ, List.getElem_cons_zero, List.setIfInBounds_toArray, List.set_cons_zero, List.set_cons_succ]
      refine wpAnyH_take (i := 5) (v := ?_) rfl (by kernel_rfl) (by kernel_rfl) (by kernel_rfl) (fun _ _ _ h => h) (Or.inl ⟨by rfl, ?_⟩) (by assumption) ?_
      rotate_left
      · intro w hSw
        try dsimp only at hSw
        go_simp
        all_goals with_reducible rfl
      try simp only [Act.put, List.getElem_toArray, List.getElem_cons_succ, List.getElem_cons_zero, List.setIfInBounds_toArray, List.set_cons_zero, List.set_cons_succ]
      refine wpAnyH_take (i := 6) (v := ?_) rfl (by kernel_rfl) (by kernel_rfl) (by kernel_rfl) (fun _ _ _ h => h) (Or.inl ⟨by rfl, ?_⟩) (by assumption) ?_
      rotate_left
      · intro w hSw
        try dsimp only at hSw
        go_simp
        all_goals with_reducible rfl
      try simp only [Act.put, List.getElem_toArray, List.getElem_cons_succ, List.getElem_cons_zero, List.setIfInBounds_toArray, List.set_cons_zero, List.set_cons_succ]
      refine wpAnyH_take (i := 7) (v := ?_) rfl (by kernel_rfl) (by kernel_rfl) (by kernel_rfl) (fun _ _ _ h => h) (Or.inl ⟨by rfl, ?_⟩) (by assumption) ?_
      rotate_left
      · intro w hSw
        try dsimp only at hSw
        go_simp
        all_goals with_reducible rfl
      try simp only [Act.put, List.getElem_toArray, List.getElem_cons_succ, List.getElem_cons_zero, List.setIfInBounds_toArray, List.set_cons_zero, List.set_cons_succ]
      refine wpAnyH_take (i := 8) (v := ?_) rfl (by kernel_rfl) (by kernel_rfl) (by kernel_rfl) (fun _ _ _ h => h) (Or.inl ⟨by rfl, ?_⟩) (by assumption) ?_
      rotate_left
      · intro w hSw
        try dsimp only at hSw
        go_simp
        all_goals with_reducible rfl
      try simp only [Act.put, List.getElem_toArray, List.getElem_cons_succ, List.getElem_cons_zero, List.setIfInBounds_toArray, List.set_cons_zero, List.set_cons_succ]
      refine wpAnyH_take (i := 9) (v := ?_) rfl (by kernel_rfl) (by kernel_rfl) (by kernel_rfl) (fun _ _ _ h => h) (Or.inl ⟨by rfl, ?_⟩) (by assumption) ?_
      rotate_left
      · intro w hSw
        try dsimp only at hSw
        go_simp
        all_goals with_reducible rfl
      try simp only [Act.put, List.getElem_toArray, List.getElem_cons_succ, List.getElem_cons_zero, List.setIfInBounds_toArray, List.set_cons_zero, List.set_cons_succ]
      refine wpAnyH_take (i := 10) (v := ?_) rfl (by kernel_rfl) (by kernel_rfl) (by kernel_rfl) (fun _ _ _ h => h) (Or.inl ⟨by rfl, ?_⟩) (by assumption) ?_
      rotate_left
      · intro w hSw
        try dsimp only at hSw
        go_simp
        all_goals with_reducible rfl
      try simp only [Act.put, List.getElem_toArray, List.getElem_cons_succ, List.getElem_cons_zero, List.setIfInBounds_toArray, List.set_cons_zero, List.set_cons_succ]
      refine wpAnyH_take (i := 11) (v := ?_) rfl (by kernel_rfl) (by kernel_rfl) (by kernel_rfl) (fun _ _ _ h => h) (Or.inl ⟨by rfl, ?_⟩) (by assumption) ?_
      rotate_left
      · intro w hSw
        try dsimp only at hSw
        go_simp
        all_goals with_reducible rfl
      try simp only [Act.put, List.getElem_toArray, List.getElem_cons_succ, List.getElem_cons_zero, List.setIfInBounds_toArray, List.set_cons_zero, List.set_cons_succ]
      refine wpAnyH_take (i := 12) (v := ?_) rfl (by kernel_rfl) (by kernel_rfl) (by kernel_rfl) (fun _ _ _ h => h) (Or.inl ⟨by rfl, ?_⟩) (by assumption) ?_
      rotate_left
      · intro w hSw
        try dsimp only at hSw
        go_simp
        all_goals with_reducible rfl
      try simp only [Act.put, List.getElem_toArray, List.getElem_cons_succ, List.getElem_cons_zero, List.setIfInBounds_toArray, List.set_cons_zero, List.set_cons_succ]
      refine wpAnyH_take (i := 13) (v := ?_) rfl (by kernel_rfl) (by kernel_rfl) (by kernel_rfl) (fun _ _ _ h => h) (Or.inl ⟨by rfl, ?_⟩) (by assumption) ?_
      rotate_left
      · intro w hSw
        try dsimp only at hSw
        go_simp
        all_goals with_reducible rfl
      try simp only [Act.put, List.getElem_toArray, List.getElem_cons_succ, List.getElem_cons_zero, List.setIfInBounds_toArray, List.set_cons_zero, List.set_cons_succ]
      refine wpAnyH_take (i := 14) (v := ?_) rfl (by kernel_rfl) (by kernel_rfl) (by kernel_rfl) (fun _ _ _ h => h) (Or.inl ⟨by rfl, ?_⟩) (by assumption) ?_
      rotate_left
      · intro w hSw
        try dsimp only at hSw
        go_simp
        all_goals with_reducible rfl
      try simp only [Act.put, List.getElem_toArray, List.getElem_cons_succ, List.getElem_cons_zero, List.setIfInBounds_toArray, List.set_cons_zero, List.set_cons_succ]
      refine wpAnyH_take (i := 15) (v := ?_) rfl (by kernel_rfl) (by kernel_rfl) (by kernel_rfl) (fun _ _ _ h => h) (Or.inl ⟨by rfl, ?_⟩) (by assumption) ?_
      rotate_left
      · intro w hSw
        try dsimp only at hSw
        go_simp
        all_goals with_reducible rfl
      try simp only [Act.put, List.getElem_toArray, List.getElem_cons_succ, List.getElem_cons_zero, List.setIfInBounds_toArray, List.set_cons_zero, List.set_cons_succ]
      refine wpAnyH_take (i := 16) (v := ?_) rfl (by kernel_rfl) (by kernel_rfl) (by kernel_rfl) (fun _ _ _ h => h) (Or.inl ⟨by rfl, ?_⟩) (by assumption) ?_
      rotate_left
      · intro w hSw
        try dsimp only at hSw
        go_simp
        all_goals with_reducible rfl
      try simp only [Act.put, List.getElem_toArray, List.getElem_cons_succ, List.getElem_cons_zero, List.setIfInBounds_toArray, List.set_cons_zero, List.set_cons_succ]
      refine wpAnyH_take (i := 17) (v := ?_) rfl (by kernel_rfl) (by kernel_rfl) (by kernel_rfl) (fun _ _ _ h => h) (Or.inl ⟨by rfl, ?_⟩) (by assumption) ?_
      rotate_left
      · intro w hSw
        try dsimp only at hSw
        go_simp
        all_goals with_reducible rfl
      try simp only [Act.put, List.getElem_toArray, List.getElem_cons_succ, List.getElem_cons_zero, List.setIfInBounds_toArray, List.set_cons_zero, List.set_cons_succ]
      refine wpAnyH_ready (rs := [1]) (by kernel_rfl) (by simp) ?_
      refine AllReadyH.cons rfl (fun K hK => ?_) AllReadyH.nil
      go_simp
      refine hK.out _ _ ?_ (fun hHeld2 => ?_)
      · exact HKS5.out _ ((Below.refl w5.heap.size w5).drew.alloc (Nat.le_refl _) _)
      clear hK K hHeld
      have hHeld := hHeld2
      clear hHeld2
      try simp only [Act.put, List.getElem_toArray, List.getElem_cons_succ, List.getElem_cons_zero, List.setIfInBounds_toArray, List.set_cons_zero, List.set_cons_succ]
      refine wpAnyH_ready (rs := [2]) (by kernel_rfl) (by simp) ?_
      refine AllReadyH.cons rfl (fun K hK => ?_) AllReadyH.nil
      go_simp
      go_at_call 78
      refine (HM0.out _ _ _ _ (by simp) (by simp) (by simp)).mono ?_
      rintro e w6 ⟨rfl, rfl⟩
      refine hK.out _ _ ?_ (fun hHeld2 => ?_)
      · exact HKS5.out _ ((Below.refl w5.heap.size w5).drew.alloc (Nat.le_refl _) _)
      clear hK K hHeld
      have hHeld := hHeld2
      clear hHeld2
      try simp only [Act.put, List.getElem_toArray, List.getElem_cons_succ, List.getElem_cons_zero, List.setIfInBounds_toArray, List.set_cons_zero, List.set_cons_succ]
      refine wpAnyH_take (i := 18) (v := ?_) rfl (by kernel_rfl) (by kernel_rfl) (by kernel_rfl) (fun _ _ _ h => h) (Or.inl ⟨by rfl, ?_⟩) (by assumption) ?_
      rotate_left
      · intro w hSw
        try dsimp only at hSw
        go_simp
        all_goals with_reducible rfl
      try simp only [Act.put, List.getElem_toArray, List.getElem_cons_succ, List.getElem_cons_zero, List.setIfInBounds_toArray, List.set_cons_zero, List.set_cons_succ]
      refine wpAnyH_take (i := 19) (v := ?_) rfl (by kernel_rfl) (by kernel_rfl) (by kernel_rfl) (fun _ _ _ h => h) (Or.inl ⟨by rfl, ?_⟩) (by assumption) ?_
      rotate_left
      · intro w hSw
        try dsimp only at hSw
        go_simp
        all_goals with_reducible rfl
      try simp only [Act.put, List.getElem_toArray, List.getElem_cons_succ, List.getElem_cons_zero, List.setIfInBounds_toArray, List.set_cons_zero, List.set_cons_succ]
      refine wpAnyH_done (by kernel_rfl) ?_ _
      go_upto_region 8 with fail
      have hal : Below w5.heap.size w5 (w5.alloc (.cells #[.int .i64 2, .int .i64 13, .int .i64 22] 3)).drew := ((Below.refl _ _).alloc (Nat.le_refl _) _).drew
      obtain ⟨w6, hw6⟩ : ∃ w6, (w5.alloc (.cells #[.int .i64 2, .int .i64 13, .int .i64 22] 3)).drew = w6 := ⟨_, rfl⟩
      rw [hw6] at hal ⊢
      have HVB6 := Lib.hid (HVB5.out.below hal)
      have HBV6 := Lib.hid (HBV5.out.trans (hal.mono (Nat.le_of_lt HVB5.out.lt)))
      clear hal hw6 hHeld HKS5
      obtain ⟨t9, h9⟩ := HVB6.out.eight
      have hcp : (Builtin.copy_ #[78, 78] 3 #[.slice (some ⟨V, 1, none⟩) 7 7, .slice (some ⟨V, 0, none⟩) 7 8]).run Tryd.prog w6.drew = .ok (.int .i64 7) (w6.drew.setRow V #[.int .u32 (ua : Nat), .int .u32 (ua : Nat), .int .u32 (ub : Nat), .int .u32 (uc : Nat), .int .u32 (ud : Nat), .int .u32 (ue : Nat), .int .u32 (uf : Nat), .int .u32 (ug : Nat)]) := by
        have h := run_copy_row (P := Tryd.prog) w6.drew 78 78 3 77 V 1 7 7 ⟨V, 0, none⟩ 7 8 _ t9 [.int .u32 (ua : Nat), .int .u32 (ub : Nat), .int .u32 (uc : Nat), .int .u32 (ud : Nat), .int .u32 (ue : Nat), .int .u32 (uf : Nat), .int .u32 (ug : Nat)] Tryd.underlying78 (by kernel_rfl) h9 rfl (fun j u hj => by
          have hj7 : j < 7 := by have := (List.getElem?_eq_some_iff.1 hj).1; simpa using this
          rw [show (⟨V, 0, none⟩ : Addr).add j = ⟨V, j, none⟩ by unfold Addr.add; split <;> simp_all]
          show w6.cell? _ = _
          rw [HVB6.out.cell j (by omega), ← hj]
          rcases (show j = 0 ∨ j = 1 ∨ j = 2 ∨ j = 3 ∨ j = 4 ∨ j = 5 ∨ j = 6 by omega) with rfl | rfl | rfl | rfl | rfl | rfl | rfl <;> rfl) (by simp) (by simp [Value.oneCell'])
        exact h
      have h10 := setRow_heap w6.drew V _ #[.int .u32 (ua : Nat), .int .u32 (ua : Nat), .int .u32 (ub : Nat), .int .u32 (uc : Nat), .int .u32 (ud : Nat), .int .u32 (ue : Nat), .int .u32 (uf : Nat), .int .u32 (ug : Nat)] t9 (0, 0) h9
      have hb10 := Go.below_setRow (HBV6.out.drew) (Nat.le_refl V) #[.int .u32 (ua : Nat), .int .u32 (ua : Nat), .int .u32 (ub : Nat), .int .u32 (uc : Nat), .int .u32 (ud : Nat), .int .u32 (ue : Nat), .int .u32 (uf : Nat), .int .u32 (ug : Nat)]
      have h9' : w6.heap[V]? = some _ := h9
      clear h9
      go_region
      all_goals (try go_upto_region 9 with fail)
      obtain ⟨w7, hw7⟩ : ∃ w7, w6.drew.setRow V #[.int .u32 (ua : Nat), .int .u32 (ua : Nat), .int .u32 (ub : Nat), .int .u32 (uc : Nat), .int .u32 (ud : Nat), .int .u32 (ue : Nat), .int .u32 (uf : Nat), .int .u32 (ug : Nat)] = w7 := ⟨_, rfl⟩
      rw [hw7] at h10 hb10 ⊢
      have hub := eight_ubox ⟨ua, ua, ub, uc, ud, ue, uf, ug⟩ h10
      have z0 := hub.cell 0 (by omega)
      have z4 := hub.cell 4 (by omega)
      simp only [W8.at] at z0 z4
      have y0 := hub.free 0
      have y4 := hub.free 4
      have HUB := Lib.hid hub
      have HB10 := Lib.hid hb10
      clear hub h10 hb10 hw7 hcp h9'
      go_wp2_with fail
      go_roundw
      case rel =>
        exact ⟨i + 1, by omega, by go_num, ((HUB.out.set 0 (by omega) X).set 4 (by omega) Y).congr (fun j hj => by
          rw [HNEW.out]
          rcases (show j = 0 ∨ j = 1 ∨ j = 2 ∨ j = 3 ∨ j = 4 ∨ j = 5 ∨ j = 6 ∨ j = 7 by omega) with rfl | rfl | rfl | rfl | rfl | rfl | rfl | rfl <;> rfl), Below_set' (Below_set' HB10.out (Nat.le_refl _) _) (Nat.le_refl _) _⟩
      case measure => simp [intOf]; omega
    · obtain rfl : i = 64 := by omega
      have HVB := Lib.hid hvb
      have HBV := Lib.hid hb
      have HXr := Lib.hid (HX3.out.low hb (by omega))
      clear hvb hb
      have hok := W8.Ok.steps hv (wordsN B 64) 64
      have HBK : Hid (v.block B = v.add (v.steps (wordsN B 64) 64)) := Lib.hid rfl
      generalize v.steps (wordsN B 64) 64 = u at HVB hok HBK
      obtain ⟨wS, rfl⟩ : ∃ wS : World, wS = wr := ⟨_, rfl⟩
      go_wp2_with fail
      go_loopw [82] (fun kv wr => ∃ k : Nat, k ≤ 8 ∧ kv = .int .i64 k ∧ UBox .u32 wr H 8 (fun j => if j < k then (v.block B).at j else v.at j) ∧ Below H wS wr ∧ (∀ b, b ≠ H → wr.heap[b]? = wS.heap[b]?)) (fun kv _ => 8 - (intOf kv).toNat)
      case atStart => exact ⟨0, by omega, rfl, HXr.out.congr (fun j _ => if_neg (by omega)), Below.refl _ _, fun _ _ => rfl⟩
      case round =>
        obtain ⟨k, hk, rfl, hxb, hb, hot⟩ := hrel
        by_cases hk8 : k < 8
        · have l0 : (k : Int) < 8 := by omega
          have l1 : (0 : Int) ≤ (k : Int) := by omega
          have hvb : UBox .u32 wr V 8 u.at := by
            obtain ⟨cs, t, h, hs, hc⟩ := HVB.out
            exact ⟨cs, t, (hot V (by omega)).trans h, hs, hc⟩
          have cH : wr.cell? ⟨H, k, none⟩ = some (.int .u32 (v.at k : Nat)) := by rw [hxb.cell k hk8]; rw [if_neg (by omega)]
          have cV := hvb.cell k hk8
          have fH := hxb.free k
          obtain ⟨S, g1, e1⟩ : ∃ x : Nat, IntKind.u32.wrap ((v.at k : Int) + (u.at k : Int)) = (x : Int) ∧ x = (v.at k + u.at k) % 4294967296 := ⟨_, wrap_add _ _, rfl⟩
          have HSS : Hid (S = (v.block B).at k) := Lib.hid (by rw [e1, HBK.out, add_at v u hk8])
          obtain ⟨p, hp⟩ : ∃ x, v.at k = x := ⟨_, rfl⟩
          obtain ⟨q, hq⟩ : ∃ x, u.at k = x := ⟨_, rfl⟩
          rw [hp] at cH g1
          rw [hq] at cV g1
          have HXB := Lib.hid hxb
          have HBb := Lib.hid hb
          have HOT := Lib.hid hot
          clear hxb hb hot hvb e1 hp hq
          go_upto_region 14 with fail
          refine wp_region_held_drew (S := (fun W => W.cell? ⟨V, k, none⟩ = some (.int .u32 (q : Nat)))) (by kernel_rfl) ?_ (fun hHeld => ?_)
          · exact cV
          refine wpAnyH_take (i := 0) (v := ?_) rfl (by kernel_rfl) (by kernel_rfl) (by kernel_rfl) (fun _ _ _ h => h) (Or.inl ⟨by rfl, ?_⟩) (by assumption) ?_
          rotate_left
          · intro w hSw
            try dsimp only at hSw
            go_simp
            all_goals with_reducible rfl
          try simp only [Act.put, List.getElem_toArray, List.getElem_cons_zero, List.setIfInBounds_toArray, List.set_cons_zero, List.set_cons_succ]
          refine wpAnyH_take (i := 1) (v := ?_) rfl (by kernel_rfl) (by kernel_rfl) (by kernel_rfl) (fun _ _ _ h => h) (Or.inl ⟨by rfl, ?_⟩) (by assumption) ?_
          rotate_left
          · intro w hSw
            try dsimp only at hSw
            go_simp
            all_goals with_reducible rfl
          try simp only [Act.put, List.getElem_toArray, List.getElem_cons_succ, List.getElem_cons_zero, List.setIfInBounds_toArray, List.set_cons_zero, List.set_cons_succ]
          refine wpAnyH_take (i := 2) (v := ?_) rfl (by kernel_rfl) (by kernel_rfl) (by kernel_rfl) (fun _ _ _ h => h) (Or.inl ⟨by rfl, ?_⟩) (by assumption) ?_
          rotate_left
          · intro w hSw
            try dsimp only at hSw
            go_simp
            all_goals with_reducible rfl
          try simp only [Act.put, List.getElem_toArray, List.getElem_cons_succ, List.getElem_cons_zero, List.setIfInBounds_toArray, List.set_cons_zero, List.set_cons_succ]
          refine wpAnyH_take (i := 3) (v := ?_) rfl (by kernel_rfl) (by kernel_rfl) (by kernel_rfl) (fun _ _ _ h => h) (Or.inl ⟨by rfl, ?_⟩) (by assumption) ?_
          rotate_left
          · intro w hSw
            try dsimp only at hSw
            go_simp
            all_goals with_reducible rfl
          try simp only [Act.put, List.getElem_toArray, List.getElem_cons_succ, List.getElem_cons_zero, List.setIfInBounds_toArray, List.set_cons_zero, List.set_cons_succ]
          refine wpAnyH_take (i := 5) (v := ?_) rfl (by kernel_rfl) (by kernel_rfl) (by kernel_rfl) (fun _ _ _ h => h) (Or.inl ⟨by rfl, ?_⟩) (by assumption) ?_
          rotate_left
          · intro w hSw
            try dsimp only at hSw
            go_simp
            all_goals with_reducible rfl
          try simp only [Act.put, List.getElem_toArray, List.getElem_cons_succ, List.getElem_cons_zero, List.setIfInBounds_toArray, List.set_cons_zero, List.set_cons_succ]
          refine wpAnyH_take (i := 6) (v := ?_) rfl (by kernel_rfl) (by kernel_rfl) (by kernel_rfl) (fun _ _ _ h => h) (Or.inl ⟨by rfl, ?_⟩) (by assumption) ?_
          rotate_left
          · intro w hSw
            try dsimp only at hSw
            go_simp
            all_goals with_reducible rfl
          try simp only [Act.put, List.getElem_toArray, List.getElem_cons_succ, List.getElem_cons_zero, List.setIfInBounds_toArray, List.set_cons_zero, List.set_cons_succ]
          refine wpAnyH_take (i := 7) (v := ?_) rfl (by kernel_rfl) (by kernel_rfl) (by kernel_rfl) (fun _ _ _ h => h) (Or.inl ⟨by rfl, ?_⟩) (by assumption) ?_
          rotate_left
          · intro w hSw
            try dsimp only at hSw
            go_simp
            all_goals with_reducible rfl
          try simp only [Act.put, List.getElem_toArray, List.getElem_cons_succ, List.getElem_cons_zero, List.setIfInBounds_toArray, List.set_cons_zero, List.set_cons_succ]
          refine wpAnyH_take (i := 9) (v := ?_) rfl (by kernel_rfl) (by kernel_rfl) (by kernel_rfl) (fun _ _ _ h => h) (Or.inl ⟨by rfl, ?_⟩) (by assumption) ?_
          rotate_left
          · intro w hSw
            try dsimp only at hSw
            go_simp
            all_goals with_reducible rfl
          try simp only [Act.put, List.getElem_toArray, List.getElem_cons_succ, List.getElem_cons_zero, List.setIfInBounds_toArray, List.set_cons_zero, List.set_cons_succ]
          refine wpAnyH_ready (rs := [4]) (by kernel_rfl) (by simp) ?_
          refine AllReadyH.cons rfl (fun K hK => ?_) AllReadyH.nil
          go_simp
          refine hK.out _ _ ?_ (fun hHeld2 => ?_)
          · assumption
          clear hK K hHeld
          have hHeld := hHeld2
          clear hHeld2
          try simp only [Act.put, List.getElem_toArray, List.getElem_cons_succ, List.getElem_cons_zero, List.setIfInBounds_toArray, List.set_cons_zero, List.set_cons_succ]
          refine wpAnyH_take (i := 8) (v := ?_) rfl (by kernel_rfl) (by kernel_rfl) (by kernel_rfl) (fun _ _ _ h => h) (Or.inl ⟨by rfl, ?_⟩) (by assumption) ?_
          rotate_left
          · intro w hSw
            try dsimp only at hSw
            go_simp
            all_goals with_reducible rfl
          try simp only [Act.put, List.getElem_toArray, List.getElem_cons_succ, List.getElem_cons_zero, List.setIfInBounds_toArray, List.set_cons_zero, List.set_cons_succ]
          refine wpAnyH_take (i := 10) (v := ?_) rfl (by kernel_rfl) (by kernel_rfl) (by kernel_rfl) (fun _ _ _ h => h) (Or.inl ⟨by rfl, ?_⟩) (by assumption) ?_
          rotate_left
          · intro w hSw
            try dsimp only at hSw
            go_simp
            all_goals with_reducible rfl
          try simp only [Act.put, List.getElem_toArray, List.getElem_cons_succ, List.getElem_cons_zero, List.setIfInBounds_toArray, List.set_cons_zero, List.set_cons_succ]
          refine wpAnyH_ready (rs := [11]) (by kernel_rfl) (by simp) ?_
          refine AllReadyH.cons rfl (fun K hK => ?_) AllReadyH.nil
          go_simp
          refine hK.out _ _ ?_ (fun hHeld2 => ?_)
          · exact (World.cell?_setCell_far _ ⟨H, k, none⟩ ⟨V, k, none⟩ _ (by show H ≠ V; omega)).trans cV
          clear hK K hHeld
          have hHeld := hHeld2
          clear hHeld2
          try simp only [Act.put, List.getElem_toArray, List.getElem_cons_succ, List.getElem_cons_zero, List.setIfInBounds_toArray, List.set_cons_zero, List.set_cons_succ]
          refine wpAnyH_done (by kernel_rfl) ?_ _
          go_wp2_with fail
          go_roundw
          case rel =>
            (repeat apply Exists.intro)
            exact ⟨⟨k + 1, by omega, by go_num, (by
              rw [HSS.out]
              exact (HXB.out.next (by omega)).drew), (Below_set' HBb.out (Nat.le_refl _) _).drew, fun b hb => ((Below.heap_setCell _ _ _ _ (by show b ≠ H; exact hb)).trans (HOT.out b hb))⟩, rfl⟩
          case measure => simp [intOf]; omega
        · obtain rfl : k = 8 := by omega
          have HXB := Lib.hid (hxb.congr (f' := (v.block B).at) (fun j hj => (if_pos hj).symm))
          have HBb := Lib.hid hb
          have HOT := Lib.hid hot
          clear hxb hb hot
          go_wp2_with fail
          refine bodyPost_end (v := .tuple #[]) (by simp [results, Tryd.results74, go_sem]) rfl ?_
          have hHl := HX.out.lt
          have hvw := HVW.out
          exact ⟨⟨_, rfl⟩, HXB.out, ((HB3.out.mono (by omega)).trans (HBV.out.mono (by omega))).trans HBb.out, fun b hb hne => (HOT.out b hne).trans ((HBV.out.block b (by omega)).trans (HB3.out.block b hb))⟩
end Go.Proofs.YtcfplkbbgjiocaaDoor
