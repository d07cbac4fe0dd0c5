/- Package seed: Draw. Condition: the table holds its words. -/
import Derived.Test.YtfdmmobadmmhdaaDoorSeedTries
namespace Go.Proofs.YtfdmmobadmmhdaaDoor
open Go Go.RowKit Go.Shelf
attribute [local go_sem] Oper.semAt_some
/-- The first number that is accepted, of f tries from j on. -/
def drawAt (s : ByteArray) (i below : Int) (j : Nat) : Nat → Option Int
  | 0 => none
  | f + 1 => if reduceB (rawN s i (j : Int) : Nat) below = true then some (reduceF (rawN s i (j : Int) : Nat) below) else drawAt s i below (j + 1) f
theorem drawAt_none {s : ByteArray} {i below : Int} : ∀ (f j : Nat), (∀ k, j ≤ k → k < j + f → reduceB (rawN s i (k : Int) : Nat) below = false) → drawAt s i below j f = none
  | 0, _, _ => rfl
  | f + 1, j, h => by
    unfold drawAt
    rw [h j (Nat.le_refl _) (by omega), if_neg Bool.false_ne_true]
    exact drawAt_none f (j + 1) fun k h1 h2 => h k (by omega) (by omega)
theorem drawAt_some {s : ByteArray} {i below : Int} {n : Nat} (hn : reduceB (rawN s i (n : Int) : Nat) below = true) : ∀ (f j : Nat), j ≤ n → n < j + f → (∀ k, j ≤ k → k < n → reduceB (rawN s i (k : Int) : Nat) below = false) → drawAt s i below j f = some (reduceF (rawN s i (n : Int) : Nat) below)
  | 0, j, h1, h2, _ => by omega
  | f + 1, j, h1, h2, h => by
    unfold drawAt
    by_cases e : j = n
    · subst e
      rw [if_pos hn]
    · rw [h j (Nat.le_refl _) (by omega), if_neg Bool.false_ne_true]
      exact drawAt_some hn f (j + 1) (by omega) (by omega) fun k h1 h2 => h k (by omega) h2
def drawO (s : ByteArray) (i below : Int) : Option Int := if Named s i then drawAt s i below 0 64 else none
def drawV (s : ByteArray) (i below : Int) : Int := (drawO s i below).getD 0
def drawE (s : ByteArray) (i below : Int) : Int := if (drawO s i below).isSome = true then 0 else 60
theorem boxes5 (w : World) (t0 t1 t2 t3 t4 : TypeId) (v0 v1 v2 v3 v4 : Value) (W : World) (hW : ((((w.alloc (.cells #[v0] t0)).alloc (.cells #[v1] t1)).alloc (.cells #[v2] t2)).alloc (.cells #[v3] t3)).alloc (.cells #[v4] t4) = W) :
    W.heap.size = w.heap.size + 5 ∧ Boxed W w.heap.size t0 v0 ∧ Boxed W (w.heap.size + 1) t1 v1 ∧ Boxed W (w.heap.size + 2) t2 v2 ∧ Boxed W (w.heap.size + 3) t3 v3 ∧ Boxed W (w.heap.size + 4) t4 v4 ∧ Below w.heap.size w W := by
  have hb : Below w.heap.size w W := by
    rw [← hW]
    exact (((((Below.refl w.heap.size w).alloc (Nat.le_refl _) _).alloc (by simp) _).alloc (by simp; omega) _).alloc (by simp; omega) _).alloc (by simp; omega) _
  obtain ⟨w1, h1⟩ : ∃ w1, w.alloc (.cells #[v0] t0) = w1 := ⟨_, rfl⟩
  have b0 := Boxed.new w t0 v0
  rw [h1] at b0 hW
  have z1 : w1.heap.size = w.heap.size + 1 := by rw [← h1, World.size_alloc]
  obtain ⟨w2, h2⟩ : ∃ w2, w1.alloc (.cells #[v1] t1) = w2 := ⟨_, rfl⟩
  have b1 := Boxed.new w1 t1 v1
  have b0 := b0.alloc (.cells #[v1] t1)
  rw [h2] at b0 b1 hW
  have z2 : w2.heap.size = w.heap.size + 2 := by rw [← h2, World.size_alloc, z1]
  obtain ⟨w3, h3⟩ : ∃ w3, w2.alloc (.cells #[v2] t2) = w3 := ⟨_, rfl⟩
  have b2 := Boxed.new w2 t2 v2
  have b0 := b0.alloc (.cells #[v2] t2)
  have b1 := b1.alloc (.cells #[v2] t2)
  rw [h3] at b0 b1 b2 hW
  have z3 : w3.heap.size = w.heap.size + 3 := by rw [← h3, World.size_alloc, z2]
  obtain ⟨w4, h4⟩ : ∃ w4, w3.alloc (.cells #[v3] t3) = w4 := ⟨_, rfl⟩
  have b3 := Boxed.new w3 t3 v3
  have b0 := b0.alloc (.cells #[v3] t3)
  have b1 := b1.alloc (.cells #[v3] t3)
  have b2 := b2.alloc (.cells #[v3] t3)
  rw [h4] at b0 b1 b2 b3 hW
  have z4 : w4.heap.size = w.heap.size + 4 := by rw [← h4, World.size_alloc, z3]
  have b4 := Boxed.new w4 t4 v4
  have b0 := b0.alloc (.cells #[v4] t4)
  have b1 := b1.alloc (.cells #[v4] t4)
  have b2 := b2.alloc (.cells #[v4] t4)
  have b3 := b3.alloc (.cells #[v4] t4)
  rw [hW] at b0 b1 b2 b3 b4
  rw [z1] at b1
  rw [z2] at b2
  rw [z3] at b3
  rw [z4] at b4
  exact ⟨by rw [← hW, World.size_alloc, z4], b0, b1, b2, b3, b4, hb⟩
/-- Between two tries. -/
structure DrawJ (w wq : World) (D l : Nat) (r : Loop) (W : World) : Prop where
  below : Below w.heap.size w W
  size : wq.heap.size ≤ W.heap.size
  rest : ∀ b, b < wq.heap.size → W.heap[b]? = wq.heap[b]?
  loop : LoopAt W D l r .ready none
structure DrawOn (w wq : World) (W : World) : Prop where
  below : Below w.heap.size w W
  size : wq.heap.size ≤ W.heap.size
  rest : ∀ b, b < wq.heap.size → W.heap[b]? = wq.heap[b]?
structure DrawOut (w : World) (S : Nat) (v : Int) (W : World) : Prop where
  below : Below w.heap.size w W
  num : W.cell? ⟨S + 1, 0, none⟩ = some (.int .i64 v)
  err : W.cell? ⟨S + 2, 0, none⟩ = some (.int .i64 0)
theorem DrawJ.keep {w wq W W' : World} {D l : Nat} {r : Loop} (h : DrawJ w wq D l r W) (hb : Below W.heap.size W W') : DrawJ w wq D l r W' :=
  ⟨h.below.trans (hb.mono h.below.size), Nat.le_trans h.size hb.size, fun b hl => (hb.block b (Nat.lt_of_lt_of_le hl h.size)).trans (h.rest b hl),
    h.loop.keep (hb.block _ (Array.getElem?_eq_some_iff.1 h.loop.lrec).1) (hb.block _ (Array.getElem?_eq_some_iff.1 h.loop.ds).1)⟩
theorem LoopAt_set {W : World} {D l B : Nat} {r : Loop} {st : LoopState} {pe : Option Code} (h : LoopAt W D l r st pe) (h1 : B ≠ l) (h2 : B ≠ D) (u : Value) : LoopAt (W.setCell ⟨B, 0, none⟩ u) D l r st pe :=
  h.keep ((grownBy_setCell' W B u).block l (Array.getElem?_eq_some_iff.1 h.lrec).1 (by simpa using fun e => h1 e.symm)) ((grownBy_setCell' W B u).block D (Array.getElem?_eq_some_iff.1 h.ds).1 (by simpa using fun e => h2 e.symm))
set_option maxRecDepth 100000 in
set_option maxHeartbeats 4000000 in
theorem draw_in (s : ByteArray) (i below : Int) (w : World) (hT : RoundOk w) :
    CallsIn Fence.wide 9 Tryd.prog 17 #[.string s, .int .i64 i, .int .i64 below] w fun e w' => e = .returned (.tuple #[.int .i64 (drawV s i below), .int .i64 (drawE s i below)]) ∧ Below w.heap.size w w' := by
  have HT := Lib.hid hT
  clear hT
  refine callsIn_of_wp_marks Tryd.func17 rfl trivial ?_ rfl
  simp only [Tryd.ntmps17, List.size_toArray, List.length_cons, List.length_nil, Nat.reduceAdd, Nat.reduceSub, Array.replicate_succ, Array.replicate_zero, List.push_toArray, List.append_toArray, List.nil_append, List.cons_append]
  gi_wp2_with fail
  refine ⟨trivial, ?_⟩
  refine (callsIn_wide.2 (tries_any _ _ _)).mono ?_
  rintro e w' ⟨rfl, rfl⟩
  gi_wp2_with fail
  obtain ⟨wq, hwq⟩ : ∃ wq, ((((w.alloc (.cells #[.int .i64 below] 3)).alloc (.cells #[.int .i64 0] 3)).alloc (.cells #[.int .i64 0] 25)).alloc (.cells #[.string s] 9)).alloc (.cells #[.int .i64 i] 3) = wq := ⟨_, rfl⟩
  obtain ⟨hz, b0, b1, b2, b3, b4, hb⟩ := boxes5 w _ _ _ _ _ _ _ _ _ _ wq hwq
  rw [hwq]
  obtain ⟨S, hS⟩ : ∃ S, w.heap.size = S := ⟨_, rfl⟩
  have hT := HT.out.below hb
  rw [hS] at hz b0 b1 b2 b3 b4 hb
  have HB0 := Lib.hid b0
  have HB1 := Lib.hid b1
  have HB2 := Lib.hid b2
  have HB3 := Lib.hid b3
  have HB4 := Lib.hid b4
  have HBQ := Lib.hid hb
  have HTQ := Lib.hid hT
  have HS := Lib.hid hS
  clear hwq b0 b1 b2 b3 b4 hb hT
  have HZ := Lib.hid hz
  clear hz
  refine rangeFunc_open rfl (by omega) (gf := 45) (lb := #[.pointer (some ⟨S + 3, 0, none⟩), .pointer (some ⟨S + 3 + 1, 0, none⟩)]) (by simp [← hS]; rfl) trivial (enters_of Tryd.func45 (by kernel_rfl) rfl) (S + 5) (by rw [HZ.out]) ?_
  intro W1 rr _ hr hL ⟨o, o', hW1⟩
  have hW1b : Below (S + 5) wq W1 := by
    rw [hW1]
    exact ((Below.refl _ _).alloc (by have := HZ.out; omega) _).alloc (by have := HZ.out; simp; omega) _
  have hJ0 : DrawJ w wq (S + 5) (S + 6) rr W1 :=
    ⟨by rw [hS]; exact HBQ.out.trans (hW1b.mono (by omega)), by rw [hW1]; simp; omega, fun b hb => hW1b.block b (by have := HZ.out; omega), hL⟩
  have HCB : Hid (∀ W, DrawJ w wq (S + 5) (S + 6) rr W → W.cell? ⟨S + 3, 0, none⟩ = some (.string s) ∧ W.cell? ⟨S + 3 + 1, 0, none⟩ = some (.int .i64 i) ∧ RoundOk W) := Lib.hid (fun W h => by
    have hz := HZ.out
    refine ⟨(cell_of_heap (h.rest (S + 3) (by omega)) 0).trans HB3.out.cell, (cell_of_heap (h.rest (S + 4) (by omega)) 0).trans HB4.out.cell, fun j hj => (cell_of_heap (h.rest _ ?_) j).trans (HTQ.out j hj)⟩
    exact cell_lt' (HTQ.out j hj))
  clear hW1 hW1b
  refine (tries1_in 8 (S + 6) (S + 3) s i (by omega) (fun j => reduceB (rawN s i (j : Int) : Nat) below) (DrawJ w wq (S + 5) (S + 6) rr) (fun j W => LoopAt W (S + 5) (S + 6) rr .done (some .ret) ∧ DrawOut w S (reduceF (rawN s i (j : Int) : Nat) below) W) ?hY ?hN (fun W W' h hb => h.keep hb) HCB.out W1 hJ0).mono ?_
  case hY =>
    intro k W hk hn hJ hacc
    refine (yield_open (On := DrawOn w wq) (Out := fun _ _ => False) hJ.loop trivial hr rfl ?_).mono ?_
    · intro R hR
      have HR := Lib.hid hR
      clear hR
      have HJ := Lib.hid hJ
      have HBG := Lib.hid (hJ.loop.begin (P := Tryd.prog))
      clear hJ hJ0
      gi_wp2
      refine ⟨_, HBG.out, ?_⟩
      have hl2 := HJ.out.loop.put (st' := .busy) (pe' := none)
      have hrs2 : ∀ b, b < S + 5 → (W.putObj (S + 6) (.loop { rr with state := .busy, pending := none })).heap[b]? = wq.heap[b]? := fun b hb => (World.putObj_heap_other (by omega)).trans (HJ.out.rest b (by have := HZ.out; omega))
      have hbl2 : Below w.heap.size w (W.putObj (S + 6) (.loop { rr with state := .busy, pending := none })) := Below_put HJ.out.below (by rw [HS.out]; omega) HJ.out.below.size
      have hsz2 := putObj_size W (S + 6) (.loop { rr with state := .busy, pending := none })
      obtain ⟨W2, hW2⟩ : ∃ W2, W.putObj (S + 6) (.loop { rr with state := .busy, pending := none }) = W2 := ⟨_, rfl⟩
      rw [hW2] at hl2 hrs2 hbl2 hsz2 ⊢
      have c0 : W2.cell? ⟨S, 0, none⟩ = some (.int .i64 below) := (cell_of_heap (hrs2 S (by omega)) 0).trans HB0.out.cell
      have HRD := Lib.hid (reduce_any (rawN s i (k : Int) : Nat) below W2)
      rw [hacc] at HRD
      have HL2 := Lib.hid hl2
      have HRS2 := Lib.hid hrs2
      have HBL2 := Lib.hid hbl2
      have HSZ2 := Lib.hid hsz2
      clear hW2 hl2 hrs2 hbl2 hsz2 hacc hn
      obtain ⟨rv, hrv⟩ : ∃ v, reduceF (rawN s i (k : Int) : Nat) below = v := ⟨_, rfl⟩
      rw [hrv] at HRD
      clear hrv
      obtain ⟨rn, hrn⟩ : ∃ v, rawN s i (k : Int) = v := ⟨_, rfl⟩
      rw [hrn] at HRD ⊢
      clear hrn
      gi_wp2_with fail
      refine ⟨trivial, ?_⟩
      refine (callsIn_wide.2 HRD.out).mono ?_
      rintro e W3 ⟨rfl, rfl⟩
      gi_wp2_with fail
      rw [HR.out]
      have hj1 := HJ.out.size
      have hz := HZ.out
      have hs2 := HSZ2.out
      have hs := HS.out
      refine ⟨HL2.out, Below_put HBL2.out (by omega) (by omega), by rw [putObj_size]; omega, fun b hb => (World.putObj_heap_other (by omega)).trans (HRS2.out b (by omega))⟩
    · rintro e W' (⟨rfl, hL', hon⟩ | ⟨_, c, _, h⟩)
      · exact ⟨rfl, hon.below, hon.size, hon.rest, hL'⟩
      · exact h.elim
  case hN =>
    intro k W hk hn hJ hacc
    refine (yield_open (On := fun _ => False) (Out := fun c W' => c = .ret ∧ DrawOut w S (reduceF (rawN s i (k : Int) : Nat) below) W') hJ.loop trivial hr rfl ?_).mono ?_
    · intro R hR
      have HR := Lib.hid hR
      clear hR
      have HJ := Lib.hid hJ
      have HBG := Lib.hid (hJ.loop.begin (P := Tryd.prog))
      clear hJ hJ0
      gi_wp2
      refine ⟨_, HBG.out, ?_⟩
      have hl2 := HJ.out.loop.put (st' := .busy) (pe' := none)
      have hrs2 : ∀ b, b < S + 5 → (W.putObj (S + 6) (.loop { rr with state := .busy, pending := none })).heap[b]? = wq.heap[b]? := fun b hb => (World.putObj_heap_other (by omega)).trans (HJ.out.rest b (by have := HZ.out; omega))
      have hbl2 : Below w.heap.size w (W.putObj (S + 6) (.loop { rr with state := .busy, pending := none })) := Below_put HJ.out.below (by rw [HS.out]; omega) HJ.out.below.size
      have hsz2 := putObj_size W (S + 6) (.loop { rr with state := .busy, pending := none })
      obtain ⟨W2, hW2⟩ : ∃ W2, W.putObj (S + 6) (.loop { rr with state := .busy, pending := none }) = W2 := ⟨_, rfl⟩
      rw [hW2] at hl2 hrs2 hbl2 hsz2 ⊢
      have c0 : W2.cell? ⟨S, 0, none⟩ = some (.int .i64 below) := (cell_of_heap (hrs2 S (by omega)) 0).trans HB0.out.cell
      have HRD := Lib.hid (reduce_any (rawN s i (k : Int) : Nat) below W2)
      rw [hacc] at HRD
      have HB1' : Hid (Boxed W2 (S + 1) 3 (.int .i64 0)) := Lib.hid ((hrs2 (S + 1) (by omega)).trans HB1.out)
      have HB2' : Hid (Boxed W2 (S + 2) 25 (.int .i64 0)) := Lib.hid ((hrs2 (S + 2) (by omega)).trans HB2.out)
      have HL2 := Lib.hid hl2
      have HRS2 := Lib.hid hrs2
      have HBL2 := Lib.hid hbl2
      have HSZ2 := Lib.hid hsz2
      clear hW2 hl2 hrs2 hbl2 hsz2 hacc hn
      obtain ⟨rv, hrv⟩ : ∃ v, reduceF (rawN s i (k : Int) : Nat) below = v := ⟨_, rfl⟩
      rw [hrv] at HRD HR
      clear hrv
      obtain ⟨rn, hrn⟩ : ∃ v, rawN s i (k : Int) = v := ⟨_, rfl⟩
      rw [hrn] at HRD ⊢
      clear hrn
      gi_wp2_with fail
      refine ⟨trivial, ?_⟩
      refine (callsIn_wide.2 HRD.out).mono ?_
      rintro e W3 ⟨rfl, rfl⟩
      have c1 := HB1'.out.cell
      have f1 := HB1'.out.frozen
      have f2 : (W2.setCell ⟨S + 1, 0, none⟩ (.int .i64 rv)).frozen? ⟨S + 2, 0, none⟩ = false := (Boxed_other HB2'.out (by omega)).frozen
      have c2' : (W2.setCell ⟨S + 1, 0, none⟩ (.int .i64 rv)).cell? ⟨S + 2, 0, none⟩ = some (.int .i64 0) := (Boxed_other HB2'.out (by omega)).cell
      have HO1 : Hid (((W2.setCell ⟨S + 1, 0, none⟩ (.int .i64 rv)).setCell ⟨S + 2, 0, none⟩ (.int .i64 0)).cell? ⟨S + 1, 0, none⟩ = some (.int .i64 rv)) := Lib.hid (Boxed_other (HB1'.out.set _) (by omega)).cell
      have HO2 : Hid (((W2.setCell ⟨S + 1, 0, none⟩ (.int .i64 rv)).setCell ⟨S + 2, 0, none⟩ (.int .i64 0)).cell? ⟨S + 2, 0, none⟩ = some (.int .i64 0)) := Lib.hid ((Boxed_other HB2'.out (by omega)).set _).cell
      gi_wp2_with fail
      rw [HR.out]
      have hj1 := HJ.out.size
      have hz := HZ.out
      have hs2 := HSZ2.out
      have hs := HS.out
      refine ⟨LoopAt_set (LoopAt_set HL2.out (by omega) (by omega) _) (by omega) (by omega) _, rfl, Below_put (Below_set' (Below_set' HBL2.out (by omega) _) (by omega) _) (by omega) (Below_set' (Below_set' HBL2.out (by omega) _) (by omega) _).size, (cell_of_heap (World.putObj_heap_other (by omega)) 0).trans HO1.out, (cell_of_heap (World.putObj_heap_other (by omega)) 0).trans HO2.out⟩
    · rintro e W' (⟨_, _, h⟩ | ⟨rfl, c, hL', rfl, ho⟩)
      · exact h.elim
      · exact ⟨rfl, hL', ho⟩
  rintro e W3 ⟨⟨v, rfl⟩, ⟨j, hj, hn, hall, hacc, hL3, ho⟩ | ⟨hnone, hJ⟩⟩
  · refine rangePost_out hL3 fun hL4 => ?_
    have hbl : Below w.heap.size w (W3.putObj (S + 6) (.loop { rr with state := .exhausted, pending := some .ret })) := Below_put ho.below (by omega) ho.below.size
    have c1 : (W3.putObj (S + 6) (.loop { rr with state := .exhausted, pending := some .ret })).cell? ⟨S + 1, 0, none⟩ = some (.int .i64 (reduceF (rawN s i (j : Int) : Nat) below)) := (cell_of_heap (World.putObj_heap_other (by omega)) 0).trans ho.num
    have c2 : (W3.putObj (S + 6) (.loop { rr with state := .exhausted, pending := some .ret })).cell? ⟨S + 2, 0, none⟩ = some (.int .i64 0) := (cell_of_heap (World.putObj_heap_other (by omega)) 0).trans ho.err
    have hL5 : LoopAt (W3.putObj (S + 6) (.loop { rr with state := .exhausted, pending := some .ret })) (S + 5) (S + 6) rr .exhausted (some .ret) := hL4
    show Code.wpIn _ _ _ _ _ _ (W3.putObj (S + 6) (.loop { rr with state := .exhausted, pending := some .ret }))
    obtain ⟨W4, hW4⟩ : ∃ W4, W3.putObj (S + 6) (.loop { rr with state := .exhausted, pending := some .ret }) = W4 := ⟨_, rfl⟩
    rw [hW4] at c1 c2 hbl hL5 ⊢
    have HL5 := Lib.hid hL5
    have HBL := Lib.hid hbl
    have HV : Hid (drawO s i below = some (reduceF (rawN s i (j : Int) : Nat) below)) := Lib.hid (by
      unfold drawO
      rw [if_pos hn]
      exact drawAt_some hacc 64 0 (by omega) (by omega) (fun k _ h => hall k h))
    clear hL5 hbl hW4 hL4 ho hacc hall hJ0
    obtain ⟨rv, hrv⟩ : ∃ v, reduceF (rawN s i (j : Int) : Nat) below = v := ⟨_, rfl⟩
    rw [hrv] at HV c1
    clear hrv
    gi_wp2
    have r1 : (W4.putObj (S + 5) (.deferred none)).cell? ⟨S + 1, 0, none⟩ = some (.int .i64 rv) := (cell_of_heap (World.putObj_heap_other (by omega)) 0).trans c1
    have r2 : (W4.putObj (S + 5) (.deferred none)).cell? ⟨S + 2, 0, none⟩ = some (.int .i64 0) := (cell_of_heap (World.putObj_heap_other (by omega)) 0).trans c2
    refine ⟨by simp, .inl ⟨_, _, rfl, run_takeDeferred HL5.out.ds, ?_⟩⟩
    refine ⟨.tuple #[.int .i64 rv, .int .i64 0], by simp [results, Tryd.results17, go_sem, r1, r2], ?_⟩
    exact ⟨by rw [drawV, drawE, HV.out]; rfl, by rw [← hS]; exact Below_put HBL.out (by omega) HBL.out.size⟩
  · refine rangePost_done hJ.loop fun hL4 => ?_
    have hbl : Below w.heap.size w (W3.putObj (S + 6) (.loop { rr with state := .exhausted, pending := none })) := Below_put hJ.below (by omega) hJ.below.size
    have hrs : ∀ b, b < S + 5 → (W3.putObj (S + 6) (.loop { rr with state := .exhausted, pending := none })).heap[b]? = wq.heap[b]? := fun b hb => (World.putObj_heap_other (by omega)).trans (hJ.rest b (by have := HZ.out; omega))
    have hL5 : LoopAt (W3.putObj (S + 6) (.loop { rr with state := .exhausted, pending := none })) (S + 5) (S + 6) rr .exhausted none := hL4
    show Exit.inBlock 0 _ .normal _ (W3.putObj (S + 6) (.loop { rr with state := .exhausted, pending := none }))
    obtain ⟨W4, hW4⟩ : ∃ W4, W3.putObj (S + 6) (.loop { rr with state := .exhausted, pending := none }) = W4 := ⟨_, rfl⟩
    rw [hW4] at hrs hbl hL5 ⊢
    have HB1' : Hid (Boxed W4 (S + 1) 3 (.int .i64 0)) := Lib.hid ((hrs (S + 1) (by omega)).trans HB1.out)
    have HB2' : Hid (Boxed W4 (S + 2) 25 (.int .i64 0)) := Lib.hid ((hrs (S + 2) (by omega)).trans HB2.out)
    have HL5 := Lib.hid hL5
    have HBL := Lib.hid hbl
    have HV : Hid (drawO s i below = none) := Lib.hid (by
      unfold drawO
      by_cases hn : Named s i
      · rw [if_pos hn]
        exact drawAt_none 64 0 (fun k _ h => hnone hn k (by omega))
      · rw [if_neg hn])
    clear hL5 hbl hW4 hL4 hJ hnone hJ0 hrs
    have f1 := HB1'.out.frozen
    have c1 := HB1'.out.cell
    have f2 : (W4.setCell ⟨S + 1, 0, none⟩ (.int .i64 0)).frozen? ⟨S + 2, 0, none⟩ = false := (Boxed_other HB2'.out (by omega)).frozen
    have c2 : (W4.setCell ⟨S + 1, 0, none⟩ (.int .i64 0)).cell? ⟨S + 2, 0, none⟩ = some (.int .i64 0) := (Boxed_other HB2'.out (by omega)).cell
    have o1 : ((W4.setCell ⟨S + 1, 0, none⟩ (.int .i64 0)).setCell ⟨S + 2, 0, none⟩ (.int .i64 60)).cell? ⟨S + 1, 0, none⟩ = some (.int .i64 0) := (Boxed_other (HB1'.out.set _) (by omega)).cell
    have o2 : ((W4.setCell ⟨S + 1, 0, none⟩ (.int .i64 0)).setCell ⟨S + 2, 0, none⟩ (.int .i64 60)).cell? ⟨S + 2, 0, none⟩ = some (.int .i64 60) := ((Boxed_other HB2'.out (by omega)).set _).cell
    gi_wp2
    have hl6 := LoopAt_set (LoopAt_set HL5.out (B := S + 1) (by omega) (by omega) (.int .i64 0)) (B := S + 2) (by omega) (by omega) (.int .i64 60)
    have hb6 := Below_set' (Below_set' HBL.out (b := S + 1) (i := 0) (by omega) (.int .i64 0)) (b := S + 2) (i := 0) (by omega) (.int .i64 60)
    obtain ⟨W6, hW6⟩ : ∃ W6, (W4.setCell ⟨S + 1, 0, none⟩ (.int .i64 0)).setCell ⟨S + 2, 0, none⟩ (.int .i64 60) = W6 := ⟨_, rfl⟩
    rw [hW6] at o1 o2 hl6 hb6
    rw [show S + 1 + 1 = S + 2 from rfl, hW6]
    have r1 : (W6.putObj (S + 5) (.deferred none)).cell? ⟨S + 1, 0, none⟩ = some (.int .i64 0) := (cell_of_heap (World.putObj_heap_other (by omega)) 0).trans o1
    have r2 : (W6.putObj (S + 5) (.deferred none)).cell? ⟨S + 2, 0, none⟩ = some (.int .i64 60) := (cell_of_heap (World.putObj_heap_other (by omega)) 0).trans o2
    refine ⟨by simp, .inl ⟨_, _, rfl, run_takeDeferred hl6.ds, ?_⟩⟩
    refine ⟨.tuple #[.int .i64 0, .int .i64 60], by simp [results, Tryd.results17, go_sem, r1, r2], ?_⟩
    exact ⟨by rw [drawV, drawE, HV.out]; rfl, by rw [← hS]; exact Below_put hb6 (by omega) hb6.size⟩
theorem draw_any (s : ByteArray) (i below : Int) (w : World) (hT : RoundOk w) :
    Calls Tryd.prog 17 #[.string s, .int .i64 i, .int .i64 below] w fun e w' => e = .returned (.tuple #[.int .i64 (drawV s i below), .int .i64 (drawE s i below)]) ∧ Below w.heap.size w w' := callsIn_wide.1 (draw_in s i below w hT)
end Go.Proofs.YtfdmmobadmmhdaaDoor
