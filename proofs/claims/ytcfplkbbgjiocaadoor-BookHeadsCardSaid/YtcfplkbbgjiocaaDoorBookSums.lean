/- Chapter 27: Statement and Owed of package book. Conditions: those of the theorems. -/
import Derived.Test.YtcfplkbbgjiocaaDoorBookSpecs
import Derived.Test.YtcfplkbbgjiocaaDoorIter
import Derived.LoopIn
import Derived.LoopNIn
import Derived.TacticsInMore
namespace Go.Proofs.YtcfplkbbgjiocaaDoor
open Go Go.RowKit Go.Shelf
attribute [local go_sem] Oper.semAt_some
theorem those_any (p : Option Addr) (fi : Nat) (lb : Array Value) (w : World) :
    Calls Tryd.prog 42 #[.pointer p, .func (.func fi) #[] lb] w fun e w' => e = .returned (.func (.func 60) #[] #[.pointer (some ⟨w.heap.size, 0, none⟩), .pointer (some ⟨w.heap.size + 1, 0, none⟩)]) ∧ (w.alloc (.cells #[.pointer p] 68)).alloc (.cells #[.func (.func fi) #[] lb] 88) = w' := by
  go_enter Tryd.func42, Tryd.ntmps42
  go_wp2
  go_ret
  exact ⟨rfl, rfl⟩
set_option maxHeartbeats 1000000 in
theorem those1_in (fu l Bl Bi B : Nat) (fi : Nat) (lb : Array Value) (teams closed : Int) (q : Option Addr) (n cap : Nat) (g : Nat → Pst) (bk : Nat → Bool) (d : Nat → Bool) (hfu : 1 ≤ fu) (hn : n ≤ 1000) (heg : ∀ args w, (callFunc fi args).run Tryd.prog w = .ok (.enter fi args) w) (J : Nat → World → Prop)
    (hY : ∀ k W, k < n → J k W → d k = true → YieldAt Fence.wide (fu - 1) Tryd.prog l #[.agg (g k).cells] W fun e W' => e = .returned (.bool true) ∧ J (k + 1) W')
    (hN : ∀ k W, k < n → J k W → d k = false → J (k + 1) W)
    (hJ : ∀ k W W', J k W → Below W.heap.size W W' → J k W')
    (hb : ∀ k W, J k W → W.cell? ⟨Bl, 0, none⟩ = some (.pointer (some ⟨B, 0, none⟩)) ∧ W.cell? ⟨Bi, 0, none⟩ = some (.func (.func fi) #[] lb) ∧ LBox W B teams (.slice q n cap) closed bk ∧ ReadsP W q n g)
    (hI : ∀ k W, k < n → J k W → Calls Tryd.prog fi (#[.int .i64 k, .agg (g k).cells] ++ lb) W fun e W' => e = .returned (.bool (d k)) ∧ Below W.heap.size W W')
    (W : World) (h0 : J 0 W) :
    CallsIn Fence.wide fu Tryd.prog 60 #[.func (.yield l) #[] #[], .pointer (some ⟨Bl, 0, none⟩), .pointer (some ⟨Bi, 0, none⟩)] W fun e W' => (∃ v, e = .returned v) ∧ J n W' := by
  have HB := Lib.hid hb
  have HY := Lib.hid hY
  have HN := Lib.hid hN
  have HJ := Lib.hid hJ
  have HI := Lib.hid hI
  obtain ⟨c1, c2, hx, hr⟩ := hb 0 W h0
  obtain ⟨x0, x1, x2, _⟩ := hx.cells
  clear hb hY hN hJ hI hx hr
  refine callsIn_of_wp Tryd.func60 rfl trivial ?_ rfl
  simp only [Tryd.ntmps60, List.size_toArray, List.length_cons, List.length_nil, Nat.reduceAdd, Nat.reduceSub, Array.replicate_succ, Array.replicate_zero, List.push_toArray, List.append_toArray, List.nil_append, List.cons_append]
  gi_wp2_with fail
  gi_loopw [12] (fun i wr => ∃ k : Nat, k ≤ n ∧ i = .int .i64 k ∧ J k wr) (fun i _ => n - (intOf i).toNat)
  case atStart => exact ⟨0, by omega, rfl, h0⟩
  case round =>
    obtain ⟨k, hk, rfl, hJ⟩ := hrel
    obtain ⟨c1, c2, hx, hr⟩ := HB.out k wr hJ
    by_cases hlt : k < n
    · obtain ⟨b, o, rfl, hcs⟩ := hr k hlt
      obtain ⟨p0, p1, p2, p3, p4, p5, p6⟩ := pcells_of (hcs k hlt)
      have v0 : (0 : Int) ≤ (k : Int) := by omega
      have v1 : (k : Int) < (n : Int) := by omega
      have hal : Below wr.heap.size wr (wr.alloc (.cells #[.int .i64 (g k).kind, .int .i64 (g k).day, .int .i64 (g k).deb, .int .i64 (g k).cre, .int .i64 (g k).amt, .int .i64 (g k).sub, .int .i64 (g k).of] 27)) := (Below.refl _ _).alloc (Nat.le_refl _) _
      have c3 := (hal.cell (p := ⟨Bi, 0, none⟩) (cell_lt c2)).trans c2
      have hJ2 := HJ.out k _ _ hJ hal
      have HI2 := Lib.hid (HI.out k _ hlt hJ2)
      have HJ2 := Lib.hid hJ2
      clear hcs hr hx hal hJ2
      gi_wp2_with fail
      refine ⟨trivial, ?_⟩
      refine (callsIn_wide.2 HI2.out).mono ?_
      rintro e w2 ⟨rfl, hb2⟩
      have hJ3 := HJ.out k _ _ HJ2.out hb2
      have z : ∀ o, w2.cell? ⟨wr.heap.size, o, none⟩ = _ := fun o => hb2.cell (p := ⟨wr.heap.size, o, none⟩) (by rw [World.size_alloc]; exact Nat.lt_succ_self _)
      have z0 := (z 0).trans (by simp; rfl)
      have z1 := (z 1).trans (by simp; rfl)
      have z2 := (z 2).trans (by simp; rfl)
      have z3 := (z 3).trans (by simp; rfl)
      have z4 := (z 4).trans (by simp; rfl)
      have z5 := (z 5).trans (by simp; rfl)
      have z6 := (z 6).trans (by simp; rfl)
      clear z
      cases hd : d k with
      | true =>
        obtain ⟨fn, tmps, assign, body, hy1, hR⟩ := HY.out k w2 hlt hJ3 hd
        clear p0 p1 p2 p3 p4 p5 p6 c1 c2 c3
        unfold Pst.cells at hy1
        gi_wp2_with fail
        refine hR.mono ?_
        rintro e W3 ⟨rfl, hJ4⟩
        gi_wp2
        go_roundw
        case rel => exact ⟨k + 1, by omega, by go_num, hJ4⟩
        case measure => simp [intOf]; omega
      | false =>
        have hJ4 := HN.out k w2 hlt hJ3 hd
        clear p0 p1 p2 p3 p4 p5 p6 c1 c2 c3
        gi_wp2_with fail
        refine ⟨nofun, ?_⟩
        gi_wp2
        go_roundw
        case rel => exact ⟨k + 1, by omega, by go_num, hJ4⟩
        case measure => simp [intOf]; omega
    · obtain rfl : k = n := by omega
      clear c1 c2 hx hr
      gi_wp2
      refine bodyPost_end (results_none rfl _ _ _) rfl ?_
      exact ⟨⟨_, rfl⟩, hJ⟩
end Go.Proofs.YtcfplkbbgjiocaaDoor
namespace Go.Proofs.YtcfplkbbgjiocaaDoor
open Go Go.RowKit Go.Shelf
attribute [local go_sem] Oper.semAt_some
theorem stat1_any (k M : Nat) (p : Pst) (month : Int) (w : World) (hM : w.cell? ⟨M, 0, none⟩ = some (.int .i64 month)) (h0 : 0 ≤ p.day) (h1 : p.day ≤ 359) :
    Calls Tryd.prog 43 #[.int .i64 k, .agg p.cells, .pointer (some ⟨M, 0, none⟩)] w fun e w' => e = .returned (.bool (decide (p.day / 30 = month))) ∧ Below w.heap.size w w' := by
  have hal : Below w.heap.size w (w.alloc (.cells p.cells 27)) := (Below.refl _ _).alloc (Nat.le_refl _) _
  have hp := PCells.new w p 27
  have c1 := (hal.cell (p := ⟨M, 0, none⟩) (cell_lt hM)).trans hM
  have hq : p.day.tdiv 30 = p.day / 30 := Int.tdiv_eq_ediv_of_nonneg h0
  obtain ⟨w1, hw1⟩ : ∃ w1, w.alloc (.cells p.cells 27) = w1 := ⟨_, rfl⟩
  rw [hw1] at hal hp c1
  obtain ⟨q0, q1, q2, q3, q4, q5, q6⟩ := hp
  obtain ⟨m, hm⟩ : ∃ m, p.day / 30 = m := ⟨_, rfl⟩
  have m0 : 0 ≤ m := by omega
  have m1 : m ≤ 12 := by omega
  rw [hm] at hq ⊢
  have HW := Lib.hid hw1
  have HAL := Lib.hid hal
  clear hw1 hal hM hm
  go_enter Tryd.func43, Tryd.ntmps43
  go_upto_region 1 with fail
  rw [HW.out]
  go_wp2_with fail
  go_ret
  exact ⟨by first | rfl | simp [beq_eq_decide], HAL.out⟩
theorem owed1_any (k X L B : Nat) (p : Pst) (teams closed : Int) (v : Value) (bk : Nat → Bool) (sub : Int) (w : World) (hk : k < 200) (hX : w.cell? ⟨X, 0, none⟩ = some (.int .i64 sub)) (hL : w.cell? ⟨L, 0, none⟩ = some (.pointer (some ⟨B, 0, none⟩))) (hx : LBox w B teams v closed bk) :
    Calls Tryd.prog 46 #[.int .i64 k, .agg p.cells, .pointer (some ⟨X, 0, none⟩), .pointer (some ⟨L, 0, none⟩)] w fun e w' => e = .returned (.bool (decide (p.kind = 1 ∧ p.sub = sub ∧ bk k = false))) ∧ Below w.heap.size w w' := by
  have hal : Below w.heap.size w (w.alloc (.cells p.cells 27)) := (Below.refl _ _).alloc (Nat.le_refl _) _
  have hp := PCells.new w p 27
  have c1 := (hal.cell (p := ⟨X, 0, none⟩) (cell_lt hX)).trans hX
  have c2 := (hal.cell (p := ⟨L, 0, none⟩) (cell_lt hL)).trans hL
  have c3 := (hx.below hal).cells.2.2.2 k hk
  obtain ⟨w1, hw1⟩ : ∃ w1, w.alloc (.cells p.cells 27) = w1 := ⟨_, rfl⟩
  rw [hw1] at hal hp c1 c2 c3
  obtain ⟨q0, q1, q2, q3, q4, q5, q6⟩ := hp
  have v0 : (0 : Int) ≤ (k : Int) := by omega
  have v1 : (k : Int) < 200 := by omega
  have HW := Lib.hid hw1
  have HAL := Lib.hid hal
  clear hw1 hal hX hL hx
  by_cases e1 : p.kind = 1
  · have d1 : (p.kind == 1) = true := by simp [e1]
    by_cases e2 : p.sub = sub
    · have d2 : (p.sub == sub) = true := by simp [e2]
      have HE : Hid ((!bk k) = decide (p.kind = 1 ∧ p.sub = sub ∧ bk k = false)) := Lib.hid (by simp [e1, e2])
      clear e1 e2
      go_enter Tryd.func46, Tryd.ntmps46
      go_upto_region 1 with fail
      rw [HW.out]
      go_wp2_with fail
      go_ret
      exact ⟨by rw [← HE.out] <;> rfl, HAL.out⟩
    · have d2 : (p.sub == sub) = false := by simp [e2]
      have HE : Hid (false = decide (p.kind = 1 ∧ p.sub = sub ∧ bk k = false)) := Lib.hid (by simp [e2])
      clear e1 e2
      go_enter Tryd.func46, Tryd.ntmps46
      go_upto_region 1 with fail
      rw [HW.out]
      go_wp2_with fail
      go_ret
      exact ⟨by rw [← HE.out] <;> rfl, HAL.out⟩
  · have d1 : (p.kind == 1) = false := by simp [e1]
    have HE : Hid (false = decide (p.kind = 1 ∧ p.sub = sub ∧ bk k = false)) := Lib.hid (by simp [e1])
    clear e1
    go_enter Tryd.func46, Tryd.ntmps46
    go_upto_region 1 with fail
    rw [HW.out]
    go_wp2_with fail
    go_ret
    exact ⟨by rw [← HE.out] <;> rfl, HAL.out⟩
/-- The sum of what the postings of a kind book for a team. -/
def sumD (d : Nat → Bool) (g : Nat → Pst) (t : Int) : Nat → Int
  | 0 => 0
  | k + 1 => sumD d g t k + if d k = true then eff (g k) t else 0
theorem balF_sumD (g : Nat → Pst) (month t : Int) : ∀ k, balF g month t k = sumD (fun j => decide ((g j).day / 30 = month)) g t k
  | 0 => rfl
  | k + 1 => by
    show balF g month t k + _ = sumD _ g t k + _
    rw [balF_sumD g month t k]
    simp
theorem sumD_bd {d : Nat → Bool} {g : Nat → Pst} {team top : Int} : ∀ k, (∀ i, i < k → Formed (g i) top) → -(k * 1000000000 : Int) ≤ sumD d g team k ∧ sumD d g team k ≤ (k * 1000000000 : Int)
  | 0, _ => by simp [sumD]
  | k + 1, h => by
    have h1 := sumD_bd (d := d) (team := team) k (fun i hi => h i (by omega))
    have h2 := eff_bd (team := team) (h k (by omega))
    unfold sumD
    split <;> omega
/-- Between two rounds of a sum over postings. -/
structure SumAt (w W0 : World) (G : Nat) (f : Nat → Int) (r : Loop) (st : LoopState) (W : World) : Prop where
  below : Below w.heap.size w W
  size : W0.heap.size + 2 ≤ W.heap.size
  box : ABox W G f
  rest : ∀ b, b < W0.heap.size → b ≠ G → W.heap[b]? = W0.heap[b]?
  loop : LoopAt W W0.heap.size (W0.heap.size + 1) r st none
theorem SumAt.keep {w W0 W W' : World} {G : Nat} {f : Nat → Int} {r : Loop} {st : LoopState} (h : SumAt w W0 G f r st W) (hb : Below W.heap.size W W') : SumAt w W0 G f r st W' :=
  ⟨h.below.trans (hb.mono h.below.size), Nat.le_trans h.size hb.size, h.box.below hb, fun b hl hne => (hb.block b (by have := h.size; omega)).trans (h.rest b hl hne),
    h.loop.keep (hb.block _ (by have := h.size; omega)) (hb.block _ (by have := h.size; omega))⟩
theorem SumAt.put {w W0 W : World} {G : Nat} {f : Nat → Int} {r : Loop} {st st' : LoopState} (h : SumAt w W0 G f r st W) (hw : w.heap.size ≤ W0.heap.size) (hG : G < W0.heap.size) : SumAt w W0 G f r st' (W.putObj (W0.heap.size + 1) (.loop { r with state := st', pending := none })) := by
  refine ⟨Below_put h.below (by omega) h.below.size, Nat.le_trans h.size (Below_put (Below.refl 0 W) (Nat.zero_le _) (Nat.zero_le _)).size, ?_, fun b hl hne => (World.putObj_heap_other (by omega)).trans (h.rest b hl hne), h.loop.put⟩
  obtain ⟨cs, t, h1, h2⟩ := h.box
  exact ⟨cs, t, (World.putObj_heap_other (by omega)).trans h1, h2⟩
theorem SumAt.add {w W0 W W' : World} {G : Nat} {f f' : Nat → Int} {r : Loop} {st : LoopState} (h : SumAt w W0 G f r st W) (hw : w.heap.size ≤ G) (hG : G < W0.heap.size) (hA : ABox W' G f') (hb : Below G W W') (hs : ∀ b, b < W.heap.size → b ≠ G → W'.heap[b]? = W.heap[b]?) : SumAt w W0 G f' r st W' :=
  ⟨h.below.trans (hb.mono hw), Nat.le_trans h.size hb.size, hA, fun b hl hne => (hs b (by have := h.size; omega) hne).trans (h.rest b hl hne),
    h.loop.keep (hs _ (by have := h.size; omega) (by omega)) (hs _ (by have := h.size; omega) (by omega))⟩
theorem SumAt.congr {w W0 W : World} {G : Nat} {f f' : Nat → Int} {r : Loop} {st : LoopState} (h : SumAt w W0 G f r st W) (e : ∀ i, i < 4 → f' i = f i) : SumAt w W0 G f' r st W := ⟨h.below, h.size, h.box.congr e, h.rest, h.loop⟩
theorem SumAt.low {w W0 W W4 : World} {G : Nat} {f : Nat → Int} {r : Loop} {st : LoopState} (h : SumAt w W0 G f r st W) (hG : W4.heap.size = G) (hb : Below G W4 W0) : ∀ b, b < W4.heap.size → W.heap[b]? = W4.heap[b]? := fun b hl =>
  (h.rest b (by have := hb.size; omega) (by omega)).trans (hb.block b (by omega))
theorem low_reads {W4 W : World} {p : Option Addr} {n : Nat} {g : Nat → Pst} (h : ∀ b, b < W4.heap.size → W.heap[b]? = W4.heap[b]?) (hr : ReadsP W4 p n g) : ReadsP W p n g := fun i hi => by
  obtain ⟨b, off, hp, hc⟩ := hr i hi
  exact ⟨b, off, hp, fun j hj c hc' => (World.cell?_of_block (w := W4) (w' := W) (a := ⟨b, off + j * 7 + c, none⟩) (h b (cell_lt (hc j hj c hc')))).trans (hc j hj c hc')⟩
theorem low_cell {W4 W : World} {b o : Nat} {v : Value} (h : ∀ b, b < W4.heap.size → W.heap[b]? = W4.heap[b]?) (hc : W4.cell? ⟨b, o, none⟩ = some v) : W.cell? ⟨b, o, none⟩ = some v :=
  (World.cell?_of_block (w := W4) (w' := W) (a := ⟨b, o, none⟩) (h b (cell_lt hc))).trans hc
theorem low_lbox {W4 W : World} {B : Nat} {teams closed : Int} {v : Value} {bk : Nat → Bool} (h : ∀ b, b < W4.heap.size → W.heap[b]? = W4.heap[b]?) (hx : LBox W4 B teams v closed bk) : LBox W B teams v closed bk := by
  have hl := hx.lt
  obtain ⟨cs, h1, hh⟩ := hx
  exact ⟨cs, (h B hl).trans h1, hh⟩
theorem readsI_put {W : World} {p : Option Addr} {n D : Nat} {f : Nat → Int} {o : Obj} (h : ReadsI W p n f) (hp : ∀ a, p = some a → D < a.block) : ReadsI (W.putObj D o) p n f := fun i hi => by
  obtain ⟨b, off, he, hc⟩ := h i hi
  have := hp _ he
  exact ⟨b, off, he, fun j hj => (World.cell?_of_block (w := W) (w' := W.putObj D o) (a := ⟨b, off + j, none⟩) (World.putObj_heap_other (by show b ≠ D; have : D < b := this; omega))).trans (hc j hj)⟩
theorem formed_teams {p : Pst} {tn : Nat} (h : Formed p ((tn : Int) - 1)) (h4 : tn ≤ 4) : ∃ c d : Nat, p.cre = (c : Int) ∧ p.deb = (d : Int) ∧ c < 4 ∧ d < 4 ∧ c ≠ d ∧ c < tn ∧ d < tn ∧ 0 ≤ p.amt ∧ p.amt ≤ 1000000000 := by
  obtain ⟨_, h1, h2, h3, h5, _⟩ := h
  unfold within at h1 h2 h5
  exact ⟨p.cre.toNat, p.deb.toNat, by omega, by omega, by omega, by omega, by omega, by omega, by omega, by omega, by omega⟩
/-- A call that answers numbers, which may be written, and an error. -/
def IsIntsW (w : World) (Spec : Nat → (Nat → Int) → Int → Prop) (e : Ending) (w' : World) : Prop :=
  ∃ (p : Option Addr) (k kc : Nat) (f : Nat → Int) (er : Int), e = .returned (.tuple #[.slice p k kc, .int .i64 er]) ∧ Spec k f er ∧ ReadsI w' p k f ∧ (∀ a, p = some a → w.heap.size ≤ a.block) ∧ FreeAt w' p ∧ Below w.heap.size w w'
theorem IsIntsW.ints {w w' : World} {Spec : Nat → (Nat → Int) → Int → Prop} {e : Ending} (h : IsIntsW w Spec e w') : IsInts w Spec e w' := by
  obtain ⟨p, k, kc, f, er, h1, h2, h3, h4, _, h6⟩ := h
  exact ⟨p, k, kc, f, er, h1, h2, h3, h4, h6⟩
set_option maxRecDepth 100000 in
set_option maxHeartbeats 8000000 in
theorem Statement_in (teams closed month : Int) (q : Option Addr) (n c : Nat) (g : Nat → Pst) (w : World) (hn : n ≤ maxLen) (hr : ReadsP w q n g) :
    CallsIn Fence.wide 9 Tryd.prog 18 #[.agg #[.int .i64 teams, .slice q n c, .int .i64 closed], .int .i64 month] w (IsIntsW w (StatSpec teams closed n g month)) := by
  have hb1 := BkBox.new w teams closed (.slice q n c)
  have hal1 : Below w.heap.size w (w.alloc (.cells #[.int .i64 teams, .slice q n c, .int .i64 closed] 24)) := (Below.refl _ _).alloc (Nat.le_refl _) _
  obtain ⟨w1, hw1⟩ : ∃ w1, w.alloc (.cells #[.int .i64 teams, .slice q n c, .int .i64 closed] 24) = w1 := ⟨_, rfl⟩
  have hz1 : w1.heap.size = w.heap.size + 1 := by rw [← hw1, World.size_alloc]
  rw [hw1] at hb1 hal1
  have hal3 : Below w1.heap.size w1 (w1.alloc (.cells #[.int .i64 month] 3)) := (Below.refl _ _).alloc (Nat.le_refl _) _
  have hm3 := World.alloc_heap_new w1 (.cells #[.int .i64 month] 3)
  obtain ⟨w3, hw3⟩ : ∃ w3, w1.alloc (.cells #[.int .i64 month] 3) = w3 := ⟨_, rfl⟩
  have hz3 : w3.heap.size = w.heap.size + 2 := by rw [← hw3, World.size_alloc, hz1]
  rw [hw3] at hal3 hm3
  rw [hz1] at hm3
  have hc3 : w3.cell? ⟨w.heap.size + 1, 0, none⟩ = some (.int .i64 month) := by
    unfold World.cell?
    rw [hm3]
    rfl
  have hb3 := hb1.below hal3
  have hB3 : Below w.heap.size w w3 := hal1.trans (hal3.mono hal1.size)
  have HW := Lib.hid (show (w.alloc (.cells #[.int .i64 teams, .slice q n c, .int .i64 closed] 24)).alloc (.cells #[.int .i64 month] 3) = w3 by rw [hw1, hw3])
  have hr3 := hr.below hB3
  have HRD := Lib.hid hr3
  have HO := Lib.hid (open_any teams closed q n c g w3 hn hr3)
  have HB3 := Lib.hid hB3
  have HZ3 := Lib.hid hz3
  have HBK3 := Lib.hid hb3
  have HC3 := Lib.hid hc3
  obtain ⟨b0, b1, b2⟩ := hb3.cells
  unfold maxLen at hn
  clear hr hb1 hal1 hw1 hz1 hal3 hm3 hw3 hz3 hc3 hb3 hB3 hr3
  refine callsIn_of_wp_marks Tryd.func18 rfl trivial ?_ rfl
  simp only [Tryd.ntmps18, List.size_toArray, List.length_cons, List.length_nil, Nat.reduceAdd, Nat.reduceSub, Array.replicate_succ, Array.replicate_zero, List.push_toArray, List.append_toArray, List.nil_append, List.cons_append]
  gi_wp2_with fail
  refine ⟨trivial, ?_⟩
  rw [HW.out]
  obtain ⟨S, hS⟩ : ∃ S, w.heap.size = S := ⟨_, rfl⟩
  have HS := Lib.hid hS
  rw [hS] at HBK3 HZ3 HC3 b0 b1 b2
  rw [hS]
  clear hS HW
  refine (callsIn_wide.2 HO.out).mono ?_
  rintro e w4 ⟨qq, r, rfl, hiff, hb4, hst⟩
  have HB4 := Lib.hid (HB3.out.trans (hb4.mono HB3.out.size))
  have HBK4 := Lib.hid (HBK3.out.below hb4)
  have c4 := (hb4.cell (p := ⟨S + 1, 0, none⟩) (cell_lt HC3.out)).trans HC3.out
  have HC4 := Lib.hid c4
  have HIFF := Lib.hid hiff
  clear b0 b1 b2 hb4 hiff
  cases r with
  | false =>
    have HNO : Hid (¬ StatGood teams closed n g month) := Lib.hid (fun h => by have := HIFF.out.2 h.1; simp at this)
    clear hst
    gi_wp2_with fail
    refine ⟨trivial, ?_⟩
    gi_wp2_with fail
    refine ⟨.tuple #[.slice none 0 0, .int .i64 270], by simp [results, Tryd.results18, go_sem], ?_⟩
    exact ⟨none, 0, 0, fun _ => 0, 270, rfl, .inr ⟨HNO.out, rfl, rfl⟩, fun i hi => by omega, nofun, nofun, HB4.out⟩
  | true =>
    obtain ⟨B, base, v, rfl, hBb, hbs, hBl, hx, hrow⟩ := hst rfl
    have HOK : Hid (BookOk teams closed n g) := Lib.hid (HIFF.out.1 (by trivial))
    have HX := Lib.hid hx
    have HROW := Lib.hid hrow
    clear hst hx hrow HIFF
    by_cases hm : within month 0 11
    · have d1 : decide (within month 0 11) = true := decide_eq_true hm
      have HG : Hid (StatGood teams closed n g month) := Lib.hid ⟨HOK.out, hm⟩
      clear hm
      gi_wp2_with fail
      refine ⟨trivial, ?_⟩
      refine (callsIn_wide.2 (isIn_any _ _ _ _)).mono ?_
      rintro e w5 ⟨rfl, rfl⟩
      have hal5 : Below w4.heap.size w4 (w4.alloc (.cells #[.int .i64 0, .int .i64 0, .int .i64 0, .int .i64 0] 85)) := (Below.refl _ _).alloc (Nat.le_refl _) _
      have ha5 : ABox (w4.alloc (.cells #[.int .i64 0, .int .i64 0, .int .i64 0, .int .i64 0] 85)) w4.heap.size (fun _ => 0) := ⟨_, _, World.alloc_heap_new w4 _, fun i hi => by
        rcases (show i = 0 ∨ i = 1 ∨ i = 2 ∨ i = 3 by omega) with rfl | rfl | rfl | rfl <;> rfl⟩
      obtain ⟨w5, hw5⟩ : ∃ w5, w4.alloc (.cells #[.int .i64 0, .int .i64 0, .int .i64 0, .int .i64 0] 85) = w5 := ⟨_, rfl⟩
      have hz5 : w5.heap.size = w4.heap.size + 1 := by rw [← hw5, World.size_alloc]
      have HW5 := Lib.hid hw5
      rw [hw5] at hal5 ha5
      have HA5 := Lib.hid ha5
      have HAL5 := Lib.hid hal5
      have HZ5 := Lib.hid hz5
      clear ha5 hal5 hz5 hw5
      gi_wp2_with fail
      refine ⟨trivial, ?_⟩
      rw [HW5.out]
      refine (callsIn_wide.2 (those_any _ _ _ _)).mono ?_
      rintro e W0 ⟨rfl, hW0⟩
      gi_wp2_with fail
      obtain ⟨G, hG⟩ : ∃ G, w4.heap.size = G := ⟨_, rfl⟩
      have HG4 := Lib.hid hG
      rw [hG] at HZ5 HA5
      have hal6 : Below w5.heap.size w5 ((w5.alloc (.cells #[.pointer (some ⟨B, 0, none⟩)] 68)).alloc (.cells #[.func (.func 43) #[] #[.pointer (some ⟨S + 1, 0, none⟩)]] 88)) := ((Below.refl _ _).alloc (Nat.le_refl _) _).alloc (by simp) _
      have hx0 : ((w5.alloc (.cells #[.pointer (some ⟨B, 0, none⟩)] 68)).alloc (.cells #[.func (.func 43) #[] #[.pointer (some ⟨S + 1, 0, none⟩)]] 88)).cell? ⟨G + 1, 0, none⟩ = some (.pointer (some ⟨B, 0, none⟩)) := by
        rw [← HZ5.out]
        exact (((Below.refl (w5.heap.size + 1) _).alloc (by simp) _).cell (p := ⟨w5.heap.size, 0, none⟩) (by show w5.heap.size < w5.heap.size + 1; omega)).trans (by simp)
      have hx1 : ((w5.alloc (.cells #[.pointer (some ⟨B, 0, none⟩)] 68)).alloc (.cells #[.func (.func 43) #[] #[.pointer (some ⟨S + 1, 0, none⟩)]] 88)).cell? ⟨G + 2, 0, none⟩ = some (.func (.func 43) #[] #[.pointer (some ⟨S + 1, 0, none⟩)]) := by
        have h := World.alloc_heap_new (w5.alloc (.cells #[.pointer (some ⟨B, 0, none⟩)] 68)) (.cells #[.func (.func 43) #[] #[.pointer (some ⟨S + 1, 0, none⟩)]] 88)
        rw [World.size_alloc, HZ5.out] at h
        unfold World.cell?
        rw [show G + 2 = G + 1 + 1 by omega, h]
        rfl
      have hz0 : ((w5.alloc (.cells #[.pointer (some ⟨B, 0, none⟩)] 68)).alloc (.cells #[.func (.func 43) #[] #[.pointer (some ⟨S + 1, 0, none⟩)]] 88)).heap.size = G + 3 := by rw [World.size_alloc, World.size_alloc, HZ5.out]
      rw [hW0] at hal6 hx0 hx1 hz0
      have hb40 : Below G w4 W0 := by
        have h := HAL5.out.trans (hal6.mono HAL5.out.size)
        rwa [hG] at h
      have hA0 := HA5.out.below hal6
      obtain ⟨pp, cc, rfl, hrd, hpb⟩ := own_readsP HROW.out
      have HRD4 := Lib.hid hrd
      have HB0 : Hid (Below w.heap.size w W0) := Lib.hid (HB4.out.trans (hb40.mono (by have := HB4.out.size; omega)))
      have HB40 := Lib.hid hb40
      have HX0 := Lib.hid hx0
      have HX1 := Lib.hid hx1
      have HZ0 := Lib.hid hz0
      have HA0 := Lib.hid hA0
      have hwG : w.heap.size ≤ G := by have := HB4.out.size; omega
      have hSG : S + 2 ≤ G := by have := HBK4.out.lt; have := cell_lt HC4.out; omega
      clear hG hal6 hx0 hx1 hz0 hb40 hA0 hrd hpb hW0 c4
      have hts := HOK.out.1.1
      unfold within at hts
      obtain ⟨tn, rfl⟩ : ∃ tn : Nat, teams = (tn : Int) := ⟨teams.toNat, by omega⟩
      have htn : 2 ≤ tn ∧ tn ≤ 4 := by omega
      obtain ⟨htn1, htn2⟩ := htn
      clear hts
      have hn200 := HOK.out.small
      refine rangeFunc_open rfl (by omega) (gf := 60) (lb := #[.pointer (some ⟨w5.heap.size, 0, none⟩), .pointer (some ⟨w5.heap.size + 1, 0, none⟩)]) rfl trivial (enters_of Tryd.func60 (by kernel_rfl) rfl) (G + 3) HZ0.out ?_
      intro W1 rr _ hrr hL ⟨o, o', hW1⟩
      rw [show w5.heap.size = G + 1 from HZ5.out]
      have hJ0 : SumAt w W0 G (fun t : Nat => sumD (fun j => decide ((g j).day / 30 = month)) g (t : Int) 0) rr .ready W1 := by
        have hb1 : Below W0.heap.size W0 W1 := by rw [hW1]; exact ((Below.refl _ _).alloc (Nat.le_refl _) _).alloc (by simp) _
        refine ⟨HB0.out.trans (hb1.mono HB0.out.size), by rw [hW1, World.size_alloc, World.size_alloc]; exact Nat.le_refl _, HA0.out.below hb1, fun b hl _ => hb1.block b hl, ?_⟩
        rw [HZ0.out]
        exact hL
      have HJ0 := Lib.hid hJ0
      clear hJ0 hW1 hL
      refine (those1_in 8 (G + 3 + 1) (G + 1) (G + 1 + 1) B 43 #[.pointer (some ⟨S + 1, 0, none⟩)] (tn : Int) closed pp n cc g (bkOf g n) (fun j => decide ((g j).day / 30 = month)) (by omega) (by omega) (enters_of Tryd.func43 (by kernel_rfl) rfl)
        (fun k W => SumAt w W0 G (fun t : Nat => sumD (fun j => decide ((g j).day / 30 = month)) g (t : Int) k) rr .ready W) ?hY ?hN ?hJ ?hb ?hI W1 HJ0.out).mono ?_
      case hJ => exact fun k W W' h hb => h.keep hb
      case hN =>
        intro k W hk h hd
        refine h.congr fun i _ => ?_
        show sumD _ g (i : Int) k + _ = _
        rw [if_neg (fun e => Bool.noConfusion (hd.symm.trans e))]
        omega
      case hb =>
        intro k W h
        have hlow := h.low HG4.out HB40.out
        refine ⟨?_, ?_, low_lbox hlow HX.out, low_reads hlow HRD4.out⟩
        · exact (World.cell?_of_block (w := W0) (w' := W) (a := ⟨G + 1, 0, none⟩) (h.rest (G + 1) (by have := HZ0.out; omega) (by omega))).trans HX0.out
        · exact (World.cell?_of_block (w := W0) (w' := W) (a := ⟨G + 2, 0, none⟩) (h.rest (G + 2) (by have := HZ0.out; omega) (by omega))).trans HX1.out
      case hI =>
        intro k W hk h
        have hlow := h.low HG4.out HB40.out
        have hday := (HOK.out.2 k hk).2.1.1
        unfold within at hday
        exact stat1_any k (S + 1) (g k) month W (low_cell hlow HC4.out) hday.1 hday.2
      case hY =>
        intro k W hk hJ hd
        have hf := (HOK.out.2 k hk).2.1
        obtain ⟨cn, dn, e1, e2, e3, e4, e5, _, _, e6, e7⟩ := formed_teams hf htn2
        refine (yield_open (On := fun W' => SumAt w W0 G (fun t : Nat => sumD (fun j => decide ((g j).day / 30 = month)) g (t : Int) (k + 1)) rr .ready W') (Out := fun _ _ => False) (D := G + 3) (l := G + 3 + 1) (by have h := hJ.loop; rwa [HZ0.out] at h) trivial hrr rfl ?_).mono ?_
        · intro R hR
          have HR := Lib.hid hR
          have HD := Lib.hid hd
          have HJ := Lib.hid hJ
          have HF := Lib.hid hf
          have HE1 := Lib.hid e1
          have HE2 := Lib.hid e2
          have HE6 := Lib.hid (And.intro e6 e7)
          clear hR hd hJ hf e1 e2 e6 e7
          unfold Pst.cells
          gi_wp2_with fail
          have hal : Below W.heap.size W (W.alloc (.cells (g k).cells 27)) := (Below.refl _ _).alloc (Nat.le_refl _) _
          have hp := PCells.new W (g k) 27
          have hJ2 := HJ.out.keep hal
          have hl2 := hJ2.loop
          have hJ3 := hJ2.put (st' := .busy) (by have := HB0.out.size; omega) (by have := HZ0.out; omega)
          rw [HZ0.out] at hl2 hJ3
          refine ⟨_, hl2.begin, ?_⟩
          have hPG : W.heap.size ≠ G + 3 + 1 := by have := HJ.out.size; have := HZ0.out; omega
          have hpc : ∀ c v, (W.alloc (.cells (g k).cells 27)).cell? ⟨W.heap.size, c, none⟩ = some v → ((W.alloc (.cells (g k).cells 27)).putObj (G + 3 + 1) (.loop { rr with state := .busy, pending := none })).cell? ⟨W.heap.size, c, none⟩ = some v := fun c v h =>
            (World.cell?_of_block (w := W.alloc (.cells (g k).cells 27)) (a := ⟨W.heap.size, c, none⟩) (World.putObj_heap_other hPG)).trans h
          obtain ⟨q0, q1, q2, q3, q4, q5, q6⟩ := hp
          have q0 := hpc _ _ q0
          have q1 := hpc _ _ q1
          have q2 := hpc _ _ q2
          have q3 := hpc _ _ q3
          have q4 := hpc _ _ q4
          have q5 := hpc _ _ q5
          have q6 := hpc _ _ q6
          obtain ⟨W3, hW3⟩ : ∃ W3, (W.alloc (.cells (g k).cells 27)).putObj (G + 3 + 1) (.loop { rr with state := .busy, pending := none }) = W3 := ⟨_, rfl⟩
          rw [hW3] at q0 q1 q2 q3 q4 q5 q6 hJ3
          rw [hW3]
          obtain ⟨P, hP⟩ : ∃ P, W.heap.size = P := ⟨_, rfl⟩
          rw [hP] at q0 q1 q2 q3 q4 q5 q6
          rw [hP, HG4.out]
          have HADD := Lib.hid (add_any G (fun t : Nat => sumD (fun j => decide ((g j).day / 30 = month)) g (t : Int) k) (g k) cn dn W3 hJ3.box HE1.out HE2.out e3 e4 e5 (fun i _ => by
            have h := sumD_bd (d := fun j => decide ((g j).day / 30 = month)) (team := (i : Int)) k (fun i hi => (HOK.out.2 i (by omega)).2.1)
            constructor
            · exact Int.le_trans (by omega) h.1
            · exact Int.le_trans h.2 (by omega)) HE6.out)
          have HJ3 := Lib.hid hJ3
          clear hal hJ2 hl2 hJ3 hPG hpc hW3 hP
          gi_wp2_with fail
          refine ⟨trivial, ?_⟩
          refine (callsIn_wide.2 HADD.out).mono ?_
          rintro e W4 ⟨⟨v, rfl⟩, hA4, hB4, hS4⟩
          have hJ4 := HJ3.out.add hwG (by have := HZ0.out; omega) hA4 hB4 hS4
          have hJ5 : SumAt w W0 G (fun t : Nat => sumD (fun j => decide ((g j).day / 30 = month)) g (t : Int) (k + 1)) rr .busy W4 := hJ4.congr fun i _ => by
            show sumD _ g (i : Int) k + _ = _
            rw [if_pos HD.out]
          have hl5 := hJ5.loop
          have hJ6 := hJ5.put (st' := .ready) (by have := HB0.out.size; omega) (by have := HZ0.out; omega)
          rw [HZ0.out] at hl5 hJ6
          have HL5 := Lib.hid hl5
          have HJ6 := Lib.hid hJ6
          clear hJ4 hJ5 hl5 hJ6 q0 q1 q2 q3 q4 q5 q6
          gi_wp2
          rw [HR.out]
          exact ⟨HL5.out, HJ6.out⟩
        · rintro e W' (⟨rfl, _, h⟩ | ⟨_, c, _, h⟩)
          · exact ⟨rfl, h⟩
          · exact h.elim
      rintro e W2 ⟨⟨v, rfl⟩, hJ⟩
      have hl := hJ.loop
      rw [HZ0.out] at hl
      refine rangePost_done hl fun hL2 => ?_
      have hJ2 := hJ.put (st' := .exhausted) (by have := HB0.out.size; omega) (by have := HZ0.out; omega)
      rw [HZ0.out] at hJ2
      have HL2 := Lib.hid hL2
      obtain ⟨W3, hW3⟩ : ∃ W3, W2.putObj (G + 3 + 1) (.loop { rr with state := .exhausted, pending := none }) = W3 := ⟨_, rfl⟩
      have HW3 := Lib.hid hW3
      rw [hW3] at hJ2 HL2
      rw [hW3]
      have hlow := hJ2.low HG4.out HB40.out
      have b0 := low_cell hlow HBK4.out.cells.1
      have x0 := hJ2.box.cell 0 (by omega)
      have x1 := hJ2.box.cell 1 (by omega)
      have x2 := hJ2.box.cell 2 (by omega)
      have x3 := hJ2.box.cell 3 (by omega)
      have HLI := Lib.hid (list_any (fun t : Nat => sumD (fun j => decide ((g j).day / 30 = month)) g (t : Int) n) tn W3 (by omega) htn2)
      have HJ2 := Lib.hid hJ2
      rw [HG4.out]
      clear hJ hl hL2 hJ2 hW3 HW3 hlow
      gi_wp2_with fail
      refine ⟨trivial, ?_⟩
      refine (callsIn_wide.2 HLI.out).mono ?_
      rintro e W4 ⟨p4, c4, rfl, hrd4, hp4, hfr4, hb4⟩
      have HFR := Lib.hid hfr4
      have hJ4 := HJ2.out.keep hb4
      have hds := hJ4.loop.ds
      rw [HZ0.out] at hds
      have HDS := Lib.hid hds
      have HJ4 := Lib.hid hJ4
      have HRD := Lib.hid hrd4
      have HP4 : Hid (∀ a, p4 = some a → G + 3 < a.block) := Lib.hid (fun a h => by have := hp4 a h; have := HJ2.out.size; have := HZ0.out; omega)
      clear b0 x0 x1 x2 x3 hrd4 hp4 hfr4 hb4 hJ4 hds
      gi_wp2
      refine ⟨by simp, .inl ⟨_, _, rfl, run_takeDeferred HDS.out, ?_⟩⟩
      refine ⟨.tuple #[.slice p4 tn c4, .int .i64 0], by simp [results, Tryd.results18, go_sem], ?_⟩
      refine ⟨p4, tn, c4, _, 0, rfl, .inl ⟨HG.out, rfl, rfl, fun i _ => ?_⟩, readsI_put HRD.out HP4.out, fun a h => by have := HP4.out a h; omega, FreeAt.put HFR.out HP4.out, Below_put HJ4.out.below (by omega) HJ4.out.below.size⟩
      exact (balF_sumD g month i n).symm
    · have d1 : decide (within month 0 11) = false := decide_eq_false hm
      have HNO : Hid (¬ StatGood teams closed n g month) := Lib.hid (fun h => hm h.2)
      clear hm
      gi_wp2_with fail
      refine ⟨trivial, ?_⟩
      refine (callsIn_wide.2 (isIn_any _ _ _ _)).mono ?_
      rintro e w5 ⟨rfl, rfl⟩
      gi_wp2_with fail
      refine ⟨.tuple #[.slice none 0 0, .int .i64 270], by simp [results, Tryd.results18, go_sem], ?_⟩
      exact ⟨none, 0, 0, fun _ => 0, 270, rfl, .inr ⟨HNO.out, rfl, rfl⟩, fun i hi => by omega, nofun, nofun, HB4.out⟩
theorem Statement_w (teams closed month : Int) (q : Option Addr) (n c : Nat) (g : Nat → Pst) (w : World) (hn : n ≤ maxLen) (hr : ReadsP w q n g) :
    Calls Tryd.prog 18 #[.agg #[.int .i64 teams, .slice q n c, .int .i64 closed], .int .i64 month] w (IsIntsW w (StatSpec teams closed n g month)) :=
  callsIn_wide.1 (Statement_in teams closed month q n c g w hn hr)
theorem Statement_any (teams closed month : Int) (q : Option Addr) (n c : Nat) (g : Nat → Pst) (w : World) (hn : n ≤ maxLen) (hr : ReadsP w q n g) :
    Calls Tryd.prog 18 #[.agg #[.int .i64 teams, .slice q n c, .int .i64 closed], .int .i64 month] w (IsInts w (StatSpec teams closed n g month)) :=
  (Statement_w teams closed month q n c g w hn hr).mono fun _ _ h => h.ints
set_option maxHeartbeats 2000000 in
theorem Balance_any (teams closed team month : Int) (q : Option Addr) (n c : Nat) (g : Nat → Pst) (w : World) (hn : n ≤ maxLen) (hr : ReadsP w q n g) :
    Calls Tryd.prog 22 #[.agg #[.int .i64 teams, .slice q n c, .int .i64 closed], .int .i64 team, .int .i64 month] w fun e w' => (∃ x er, e = .returned (.tuple #[.int .i64 x, .int .i64 er]) ∧ BalSpec teams closed n g team month x er) ∧ Below w.heap.size w w' := by
  have hb1 := BkBox.new w teams closed (.slice q n c)
  have hal1 : Below w.heap.size w (w.alloc (.cells #[.int .i64 teams, .slice q n c, .int .i64 closed] 24)) := (Below.refl _ _).alloc (Nat.le_refl _) _
  obtain ⟨w1, hw1⟩ : ∃ w1, w.alloc (.cells #[.int .i64 teams, .slice q n c, .int .i64 closed] 24) = w1 := ⟨_, rfl⟩
  rw [hw1] at hb1 hal1
  have HW := Lib.hid hw1
  have HO := Lib.hid (Statement_any teams closed month q n c g w1 hn (hr.below hal1))
  have HB1 := Lib.hid hal1
  obtain ⟨b0, b1, b2⟩ := hb1.cells
  clear hr hb1 hal1 hw1
  go_enter Tryd.func22, Tryd.ntmps22
  go_upto_region 1 with fail
  rw [HW.out]
  go_wp2_with fail
  refine HO.out.mono ?_
  rintro e w2 ⟨p, k, kc, f, er, rfl, hsp, hrd, _, hb⟩
  have HB2 := Lib.hid (HB1.out.trans (hb.mono HB1.out.size))
  have HRD := Lib.hid hrd
  have HSP := Lib.hid hsp
  clear hsp hrd hb b0 b1 b2
  by_cases hg : StatGood teams closed n g month
  · have hx : er = 0 ∧ (k : Int) = teams ∧ ∀ i, i < k → f i = balF g month i n := by
      rcases HSP.out with h | h
      · exact ⟨h.2.1, h.2.2.1, h.2.2.2⟩
      · exact absurd hg h.1
    obtain ⟨rfl, rfl, hf⟩ := hx
    have HF := Lib.hid hf
    have HG := Lib.hid hg
    clear hf hg HSP
    by_cases h0 : 0 ≤ team
    · by_cases h1 : team < k
      · obtain ⟨j, rfl⟩ : ∃ j : Nat, team = (j : Int) := ⟨team.toNat, by omega⟩
        obtain ⟨b, o, rfl, hc⟩ := HRD.out j (by omega)
        have c1 := hc j (by omega)
        rw [HF.out j (by omega)] at c1
        have d1 : decide ((j : Int) < 0) = false := decide_eq_false (by omega)
        have d2 : decide (k ≤ j) = false := decide_eq_false (by omega)
        have d3 : decide ((k : Int) ≤ (j : Int)) = false := decide_eq_false (by omega)
        have HBG : Hid (BalGood (k : Int) closed n g (j : Int) month) := Lib.hid ⟨HG.out.1, ⟨by omega, by omega⟩, HG.out.2⟩
        clear hc
        go_wp2_with fail
        refine bodyPost_ret (v := .tuple #[.int .i64 (balF g month (j : Int) n), .int .i64 0]) (by simp [results, Tryd.results22, go_sem]) rfl ?_
        exact ⟨⟨_, 0, rfl, .inl ⟨HBG.out, rfl, rfl⟩⟩, HB2.out⟩
      · have d1 : decide (team < 0) = false := decide_eq_false (by omega)
        have d2 : decide ((k : Int) ≤ team) = true := decide_eq_true (by omega)
        have HNO : Hid (¬ BalGood (k : Int) closed n g team month) := Lib.hid (fun h => by have := h.2.1; unfold within at this; omega)
        clear h0 h1
        go_wp2_with fail
        refine bodyPost_ret (v := .tuple #[.int .i64 0, .int .i64 270]) (by simp [results, Tryd.results22, go_sem]) rfl ?_
        exact ⟨⟨0, 270, rfl, .inr ⟨HNO.out, rfl, rfl⟩⟩, HB2.out⟩
    · have d1 : decide (team < 0) = true := decide_eq_true (by omega)
      have HNO : Hid (¬ BalGood (k : Int) closed n g team month) := Lib.hid (fun h => by have := h.2.1; unfold within at this; omega)
      clear h0
      go_wp2_with fail
      refine bodyPost_ret (v := .tuple #[.int .i64 0, .int .i64 270]) (by simp [results, Tryd.results22, go_sem]) rfl ?_
      exact ⟨⟨0, 270, rfl, .inr ⟨HNO.out, rfl, rfl⟩⟩, HB2.out⟩
  · have hx : er = 270 := by
      rcases HSP.out with h | h
      · exact absurd h.1 hg
      · exact h.2.1
    subst hx
    have HNO : Hid (¬ BalGood teams closed n g team month) := Lib.hid (fun h => hg ⟨h.1, h.2.2⟩)
    clear hg
    go_wp2_with fail
    refine bodyPost_ret (v := .tuple #[.int .i64 0, .int .i64 270]) (by simp [results, Tryd.results22, go_sem]) rfl ?_
    exact ⟨⟨0, 270, rfl, .inr ⟨HNO.out, rfl, rfl⟩⟩, HB2.out⟩
end Go.Proofs.YtcfplkbbgjiocaaDoor
namespace Go.Proofs.YtcfplkbbgjiocaaDoor
open Go Go.RowKit Go.Shelf
attribute [local go_sem] Oper.semAt_some
/-- Which postings stand for a subject. -/
def owedD (g : Nat → Pst) (n : Nat) (sub : Int) : Nat → Bool := fun j => decide ((g j).kind = 1 ∧ (g j).sub = sub ∧ bkOf g n j = false)
def OwedGood (teams closed : Int) (n : Nat) (g : Nat → Pst) (sub : Int) : Prop := BookOk teams closed n g ∧ within sub 0 999
/-- What Owed answers. -/
def OwedSpec (teams closed : Int) (n : Nat) (g : Nat → Pst) (sub : Int) (k : Nat) (f : Nat → Int) (er : Int) : Prop :=
  (OwedGood teams closed n g sub ∧ er = 0 ∧ (k : Int) = teams ∧ ∀ i, i < k → f i = sumD (owedD g n sub) g i n) ∨ (¬ OwedGood teams closed n g sub ∧ er = 270 ∧ k = 0)
theorem OwedSpec.unique {teams closed sub : Int} {n : Nat} {g : Nat → Pst} {k k' : Nat} {f f' : Nat → Int} {e e' : Int} (h : OwedSpec teams closed n g sub k f e) (h' : OwedSpec teams closed n g sub k' f' e') : e = e' ∧ k = k' ∧ ∀ j, j < k → f j = f' j := by
  rcases h with ⟨a, rfl, hk, hf⟩ | ⟨a, rfl, rfl⟩
  · rcases h' with ⟨_, rfl, hk', hf'⟩ | ⟨b, _⟩
    · obtain rfl : k = k' := by omega
      exact ⟨rfl, rfl, fun j hj => by rw [hf j hj, hf' j hj]⟩
    · exact absurd a b
  · rcases h' with ⟨b, _⟩ | ⟨_, rfl, rfl⟩
    · exact absurd b a
    · exact ⟨rfl, rfl, fun j hj => by omega⟩
set_option maxRecDepth 100000 in
set_option maxHeartbeats 8000000 in
theorem Owed_in (teams closed sub : Int) (q : Option Addr) (n c : Nat) (g : Nat → Pst) (w : World) (hn : n ≤ maxLen) (hr : ReadsP w q n g) :
    CallsIn Fence.wide 9 Tryd.prog 20 #[.agg #[.int .i64 teams, .slice q n c, .int .i64 closed], .int .i64 sub] w (IsIntsW w (OwedSpec teams closed n g sub)) := by
  have hb1 := BkBox.new w teams closed (.slice q n c)
  have hal1 : Below w.heap.size w (w.alloc (.cells #[.int .i64 teams, .slice q n c, .int .i64 closed] 24)) := (Below.refl _ _).alloc (Nat.le_refl _) _
  obtain ⟨w1, hw1⟩ : ∃ w1, w.alloc (.cells #[.int .i64 teams, .slice q n c, .int .i64 closed] 24) = w1 := ⟨_, rfl⟩
  have hz1 : w1.heap.size = w.heap.size + 1 := by rw [← hw1, World.size_alloc]
  rw [hw1] at hb1 hal1
  have hal3 : Below w1.heap.size w1 (w1.alloc (.cells #[.int .i64 sub] 3)) := (Below.refl _ _).alloc (Nat.le_refl _) _
  have hm3 := World.alloc_heap_new w1 (.cells #[.int .i64 sub] 3)
  obtain ⟨w3, hw3⟩ : ∃ w3, w1.alloc (.cells #[.int .i64 sub] 3) = w3 := ⟨_, rfl⟩
  have hz3 : w3.heap.size = w.heap.size + 2 := by rw [← hw3, World.size_alloc, hz1]
  rw [hw3] at hal3 hm3
  rw [hz1] at hm3
  have hc3 : w3.cell? ⟨w.heap.size + 1, 0, none⟩ = some (.int .i64 sub) := by
    unfold World.cell?
    rw [hm3]
    rfl
  have hb3 := hb1.below hal3
  have hB3 : Below w.heap.size w w3 := hal1.trans (hal3.mono hal1.size)
  have HW := Lib.hid (show (w.alloc (.cells #[.int .i64 teams, .slice q n c, .int .i64 closed] 24)).alloc (.cells #[.int .i64 sub] 3) = w3 by rw [hw1, hw3])
  have hr3 := hr.below hB3
  have HRD := Lib.hid hr3
  have HO := Lib.hid (open_any teams closed q n c g w3 hn hr3)
  have HB3 := Lib.hid hB3
  have HZ3 := Lib.hid hz3
  have HBK3 := Lib.hid hb3
  have HC3 := Lib.hid hc3
  obtain ⟨b0, b1, b2⟩ := hb3.cells
  unfold maxLen at hn
  clear hr hb1 hal1 hw1 hz1 hal3 hm3 hw3 hz3 hc3 hb3 hB3 hr3
  refine callsIn_of_wp_marks Tryd.func20 rfl trivial ?_ rfl
  simp only [Tryd.ntmps20, List.size_toArray, List.length_cons, List.length_nil, Nat.reduceAdd, Nat.reduceSub, Array.replicate_succ, Array.replicate_zero, List.push_toArray, List.append_toArray, List.nil_append, List.cons_append]
  gi_wp2_with fail
  refine ⟨trivial, ?_⟩
  rw [HW.out]
  obtain ⟨S, hS⟩ : ∃ S, w.heap.size = S := ⟨_, rfl⟩
  have HS := Lib.hid hS
  rw [hS] at HBK3 HZ3 HC3 b0 b1 b2
  rw [hS]
  clear hS HW
  refine (callsIn_wide.2 HO.out).mono ?_
  rintro e w2 ⟨qq, r, rfl, hiff, hb2, hst⟩
  have halL : Below w2.heap.size w2 (w2.alloc (.cells #[.pointer qq] 68)) := (Below.refl _ _).alloc (Nat.le_refl _) _
  have hcL : (w2.alloc (.cells #[.pointer qq] 68)).cell? ⟨w2.heap.size, 0, none⟩ = some (.pointer qq) := by simp
  obtain ⟨w4, hw4⟩ : ∃ w4, w2.alloc (.cells #[.pointer qq] 68) = w4 := ⟨_, rfl⟩
  have HW4 := Lib.hid hw4
  rw [hw4] at halL hcL
  have hb4 := hb2.trans (halL.mono hb2.size)
  have HB4 := Lib.hid (HB3.out.trans (hb4.mono HB3.out.size))
  have HBK4 := Lib.hid (HBK3.out.below hb4)
  have c4 := (hb4.cell (p := ⟨S + 1, 0, none⟩) (cell_lt HC3.out)).trans HC3.out
  have HC4 := Lib.hid c4
  have HCL := Lib.hid hcL
  have HALL := Lib.hid halL
  have HIFF := Lib.hid hiff
  clear b0 b1 b2 hb4 hiff hb2 hw4 halL
  cases r with
  | false =>
    have HNO : Hid (¬ OwedGood teams closed n g sub) := Lib.hid (fun h => by have := HIFF.out.2 h.1; simp at this)
    clear hst
    gi_wp2_with fail
    refine ⟨trivial, ?_⟩
    gi_wp2_with fail
    rw [HW4.out]
    refine ⟨.tuple #[.slice none 0 0, .int .i64 270], by simp [results, Tryd.results20, go_sem], ?_⟩
    exact ⟨none, 0, 0, fun _ => 0, 270, rfl, .inr ⟨HNO.out, rfl, rfl⟩, fun i hi => by omega, nofun, nofun, HB4.out⟩
  | true =>
    obtain ⟨B, base, v, rfl, hBb, hbs, hBl, hx, hrow⟩ := hst rfl
    have HOK : Hid (BookOk teams closed n g) := Lib.hid (HIFF.out.1 (by trivial))
    have HX := Lib.hid (hx.below HALL.out)
    have HROW := Lib.hid (ownP_below hrow HALL.out)
    replace hbs := Nat.le_trans hbs HALL.out.size
    clear hst hx hrow HIFF
    by_cases hm : within sub 0 999
    · have d1 : decide (within sub 0 999) = true := decide_eq_true hm
      have HG : Hid (OwedGood teams closed n g sub) := Lib.hid ⟨HOK.out, hm⟩
      clear hm
      have c5 := c4
      rw [← HW4.out] at c5
      gi_wp2_with fail
      clear c5
      refine ⟨trivial, ?_⟩
      refine (callsIn_wide.2 (isIn_any _ _ _ _)).mono ?_
      rintro e w5 ⟨rfl, rfl⟩
      rw [HW4.out]
      have hal5 : Below w4.heap.size w4 (w4.alloc (.cells #[.int .i64 0, .int .i64 0, .int .i64 0, .int .i64 0] 85)) := (Below.refl _ _).alloc (Nat.le_refl _) _
      have ha5 : ABox (w4.alloc (.cells #[.int .i64 0, .int .i64 0, .int .i64 0, .int .i64 0] 85)) w4.heap.size (fun _ => 0) := ⟨_, _, World.alloc_heap_new w4 _, fun i hi => by
        rcases (show i = 0 ∨ i = 1 ∨ i = 2 ∨ i = 3 by omega) with rfl | rfl | rfl | rfl <;> rfl⟩
      obtain ⟨w5, hw5⟩ : ∃ w5, w4.alloc (.cells #[.int .i64 0, .int .i64 0, .int .i64 0, .int .i64 0] 85) = w5 := ⟨_, rfl⟩
      have hz5 : w5.heap.size = w4.heap.size + 1 := by rw [← hw5, World.size_alloc]
      have HW5 := Lib.hid hw5
      have c6 := (hal5.cell (p := ⟨w2.heap.size, 0, none⟩) (cell_lt HCL.out)).trans HCL.out
      rw [hw5] at hal5 ha5
      have HA5 := Lib.hid ha5
      have HAL5 := Lib.hid hal5
      have HZ5 := Lib.hid hz5
      clear ha5 hal5 hz5 hw5
      gi_wp2_with fail
      clear c6
      refine ⟨trivial, ?_⟩
      rw [HW5.out]
      refine (callsIn_wide.2 (those_any _ _ _ _)).mono ?_
      rintro e W0 ⟨rfl, hW0⟩
      gi_wp2_with fail
      obtain ⟨G, hG⟩ : ∃ G, w4.heap.size = G := ⟨_, rfl⟩
      have HG4 := Lib.hid hG
      rw [hG] at HZ5 HA5
      have hal6 : Below w5.heap.size w5 ((w5.alloc (.cells #[.pointer (some ⟨B, 0, none⟩)] 68)).alloc (.cells #[.func (.func 46) #[] #[.pointer (some ⟨S + 1, 0, none⟩), .pointer (some ⟨w2.heap.size, 0, none⟩)]] 88)) := ((Below.refl _ _).alloc (Nat.le_refl _) _).alloc (by simp) _
      have hx0 : ((w5.alloc (.cells #[.pointer (some ⟨B, 0, none⟩)] 68)).alloc (.cells #[.func (.func 46) #[] #[.pointer (some ⟨S + 1, 0, none⟩), .pointer (some ⟨w2.heap.size, 0, none⟩)]] 88)).cell? ⟨G + 1, 0, none⟩ = some (.pointer (some ⟨B, 0, none⟩)) := by
        rw [← HZ5.out]
        exact (((Below.refl (w5.heap.size + 1) _).alloc (by simp) _).cell (p := ⟨w5.heap.size, 0, none⟩) (by show w5.heap.size < w5.heap.size + 1; omega)).trans (by simp)
      have hx1 : ((w5.alloc (.cells #[.pointer (some ⟨B, 0, none⟩)] 68)).alloc (.cells #[.func (.func 46) #[] #[.pointer (some ⟨S + 1, 0, none⟩), .pointer (some ⟨w2.heap.size, 0, none⟩)]] 88)).cell? ⟨G + 2, 0, none⟩ = some (.func (.func 46) #[] #[.pointer (some ⟨S + 1, 0, none⟩), .pointer (some ⟨w2.heap.size, 0, none⟩)]) := by
        have h := World.alloc_heap_new (w5.alloc (.cells #[.pointer (some ⟨B, 0, none⟩)] 68)) (.cells #[.func (.func 46) #[] #[.pointer (some ⟨S + 1, 0, none⟩), .pointer (some ⟨w2.heap.size, 0, none⟩)]] 88)
        rw [World.size_alloc, HZ5.out] at h
        unfold World.cell?
        rw [show G + 2 = G + 1 + 1 by omega, h]
        rfl
      have hz0 : ((w5.alloc (.cells #[.pointer (some ⟨B, 0, none⟩)] 68)).alloc (.cells #[.func (.func 46) #[] #[.pointer (some ⟨S + 1, 0, none⟩), .pointer (some ⟨w2.heap.size, 0, none⟩)]] 88)).heap.size = G + 3 := by rw [World.size_alloc, World.size_alloc, HZ5.out]
      rw [hW0] at hal6 hx0 hx1 hz0
      have hb40 : Below G w4 W0 := by
        have h := HAL5.out.trans (hal6.mono HAL5.out.size)
        rwa [hG] at h
      have hA0 := HA5.out.below hal6
      obtain ⟨pp, cc, rfl, hrd, hpb⟩ := own_readsP HROW.out
      have HRD4 := Lib.hid hrd
      have HB0 : Hid (Below w.heap.size w W0) := Lib.hid (HB4.out.trans (hb40.mono (by have := HB4.out.size; omega)))
      have HB40 := Lib.hid hb40
      have HX0 := Lib.hid hx0
      have HX1 := Lib.hid hx1
      have HZ0 := Lib.hid hz0
      have HA0 := Lib.hid hA0
      have hwG : w.heap.size ≤ G := by have := HB4.out.size; omega
      have hSG : S + 2 ≤ G := by have := HBK4.out.lt; have := cell_lt HC4.out; omega
      clear hG hal6 hx0 hx1 hz0 hb40 hA0 hrd hpb hW0 c4
      have hts := HOK.out.1.1
      unfold within at hts
      obtain ⟨tn, rfl⟩ : ∃ tn : Nat, teams = (tn : Int) := ⟨teams.toNat, by omega⟩
      have htn : 2 ≤ tn ∧ tn ≤ 4 := by omega
      obtain ⟨htn1, htn2⟩ := htn
      clear hts
      have hn200 := HOK.out.small
      refine rangeFunc_open rfl (by omega) (gf := 60) (lb := #[.pointer (some ⟨w5.heap.size, 0, none⟩), .pointer (some ⟨w5.heap.size + 1, 0, none⟩)]) rfl trivial (enters_of Tryd.func60 (by kernel_rfl) rfl) (G + 3) HZ0.out ?_
      intro W1 rr _ hrr hL ⟨o, o', hW1⟩
      rw [show w5.heap.size = G + 1 from HZ5.out]
      have hJ0 : SumAt w W0 G (fun t : Nat => sumD (owedD g n sub) g (t : Int) 0) rr .ready W1 := by
        have hb1 : Below W0.heap.size W0 W1 := by rw [hW1]; exact ((Below.refl _ _).alloc (Nat.le_refl _) _).alloc (by simp) _
        refine ⟨HB0.out.trans (hb1.mono HB0.out.size), by rw [hW1, World.size_alloc, World.size_alloc]; exact Nat.le_refl _, HA0.out.below hb1, fun b hl _ => hb1.block b hl, ?_⟩
        rw [HZ0.out]
        exact hL
      have HJ0 := Lib.hid hJ0
      clear hJ0 hW1 hL
      refine (those1_in 8 (G + 3 + 1) (G + 1) (G + 1 + 1) B 46 #[.pointer (some ⟨S + 1, 0, none⟩), .pointer (some ⟨w2.heap.size, 0, none⟩)] (tn : Int) closed pp n cc g (bkOf g n) (owedD g n sub) (by omega) (by omega) (enters_of Tryd.func46 (by kernel_rfl) rfl)
        (fun k W => SumAt w W0 G (fun t : Nat => sumD (owedD g n sub) g (t : Int) k) rr .ready W) ?hY ?hN ?hJ ?hb ?hI W1 HJ0.out).mono ?_
      case hJ => exact fun k W W' h hb => h.keep hb
      case hN =>
        intro k W hk h hd
        refine h.congr fun i _ => ?_
        show sumD _ g (i : Int) k + _ = _
        rw [if_neg (fun e => Bool.noConfusion (hd.symm.trans e))]
        omega
      case hb =>
        intro k W h
        have hlow := h.low HG4.out HB40.out
        refine ⟨?_, ?_, low_lbox hlow HX.out, low_reads hlow HRD4.out⟩
        · exact (World.cell?_of_block (w := W0) (w' := W) (a := ⟨G + 1, 0, none⟩) (h.rest (G + 1) (by have := HZ0.out; omega) (by omega))).trans HX0.out
        · exact (World.cell?_of_block (w := W0) (w' := W) (a := ⟨G + 2, 0, none⟩) (h.rest (G + 2) (by have := HZ0.out; omega) (by omega))).trans HX1.out
      case hI =>
        intro k W hk h
        have hlow := h.low HG4.out HB40.out
        have hday := (HOK.out.2 k hk).2.1.1
        unfold within at hday
        exact owed1_any k (S + 1) w2.heap.size B (g k) (tn : Int) closed _ (bkOf g n) sub W (by omega) (low_cell hlow HC4.out) (low_cell hlow HCL.out) (low_lbox hlow HX.out)
      case hY =>
        intro k W hk hJ hd
        have hf := (HOK.out.2 k hk).2.1
        obtain ⟨cn, dn, e1, e2, e3, e4, e5, _, _, e6, e7⟩ := formed_teams hf htn2
        refine (yield_open (On := fun W' => SumAt w W0 G (fun t : Nat => sumD (owedD g n sub) g (t : Int) (k + 1)) rr .ready W') (Out := fun _ _ => False) (D := G + 3) (l := G + 3 + 1) (by have h := hJ.loop; rwa [HZ0.out] at h) trivial hrr rfl ?_).mono ?_
        · intro R hR
          have HR := Lib.hid hR
          have HD := Lib.hid hd
          have HJ := Lib.hid hJ
          have HF := Lib.hid hf
          have HE1 := Lib.hid e1
          have HE2 := Lib.hid e2
          have HE6 := Lib.hid (And.intro e6 e7)
          clear hR hd hJ hf e1 e2 e6 e7
          unfold Pst.cells
          gi_wp2_with fail
          have hal : Below W.heap.size W (W.alloc (.cells (g k).cells 27)) := (Below.refl _ _).alloc (Nat.le_refl _) _
          have hp := PCells.new W (g k) 27
          have hJ2 := HJ.out.keep hal
          have hl2 := hJ2.loop
          have hJ3 := hJ2.put (st' := .busy) (by have := HB0.out.size; omega) (by have := HZ0.out; omega)
          rw [HZ0.out] at hl2 hJ3
          refine ⟨_, hl2.begin, ?_⟩
          have hPG : W.heap.size ≠ G + 3 + 1 := by have := HJ.out.size; have := HZ0.out; omega
          have hpc : ∀ c v, (W.alloc (.cells (g k).cells 27)).cell? ⟨W.heap.size, c, none⟩ = some v → ((W.alloc (.cells (g k).cells 27)).putObj (G + 3 + 1) (.loop { rr with state := .busy, pending := none })).cell? ⟨W.heap.size, c, none⟩ = some v := fun c v h =>
            (World.cell?_of_block (w := W.alloc (.cells (g k).cells 27)) (a := ⟨W.heap.size, c, none⟩) (World.putObj_heap_other hPG)).trans h
          obtain ⟨q0, q1, q2, q3, q4, q5, q6⟩ := hp
          have q0 := hpc _ _ q0
          have q1 := hpc _ _ q1
          have q2 := hpc _ _ q2
          have q3 := hpc _ _ q3
          have q4 := hpc _ _ q4
          have q5 := hpc _ _ q5
          have q6 := hpc _ _ q6
          obtain ⟨W3, hW3⟩ : ∃ W3, (W.alloc (.cells (g k).cells 27)).putObj (G + 3 + 1) (.loop { rr with state := .busy, pending := none }) = W3 := ⟨_, rfl⟩
          rw [hW3] at q0 q1 q2 q3 q4 q5 q6 hJ3
          rw [hW3]
          obtain ⟨P, hP⟩ : ∃ P, W.heap.size = P := ⟨_, rfl⟩
          rw [hP] at q0 q1 q2 q3 q4 q5 q6
          rw [hP, HG4.out]
          have HADD := Lib.hid (add_any G (fun t : Nat => sumD (owedD g n sub) g (t : Int) k) (g k) cn dn W3 hJ3.box HE1.out HE2.out e3 e4 e5 (fun i _ => by
            have h := sumD_bd (d := owedD g n sub) (team := (i : Int)) k (fun i hi => (HOK.out.2 i (by omega)).2.1)
            have hk2 : (k : Int) ≤ 200 := by omega
            exact ⟨Int.le_trans (show (-300000000000 : Int) ≤ -(k * 1000000000 : Int) by omega) h.1, Int.le_trans h.2 (show (k * 1000000000 : Int) ≤ 300000000000 by omega)⟩) HE6.out)
          have HJ3 := Lib.hid hJ3
          clear hal hJ2 hl2 hJ3 hPG hpc hW3 hP
          gi_wp2_with fail
          refine ⟨trivial, ?_⟩
          refine (callsIn_wide.2 HADD.out).mono ?_
          rintro e W4 ⟨⟨v, rfl⟩, hA4, hB4, hS4⟩
          have hJ4 := HJ3.out.add hwG (by have := HZ0.out; omega) hA4 hB4 hS4
          have hJ5 : SumAt w W0 G (fun t : Nat => sumD (owedD g n sub) g (t : Int) (k + 1)) rr .busy W4 := hJ4.congr fun i _ => by
            show sumD _ g (i : Int) k + _ = _
            rw [if_pos HD.out]
          have hl5 := hJ5.loop
          have hJ6 := hJ5.put (st' := .ready) (by have := HB0.out.size; omega) (by have := HZ0.out; omega)
          rw [HZ0.out] at hl5 hJ6
          have HL5 := Lib.hid hl5
          have HJ6 := Lib.hid hJ6
          clear hJ4 hJ5 hl5 hJ6 q0 q1 q2 q3 q4 q5 q6
          gi_wp2
          rw [HR.out]
          exact ⟨HL5.out, HJ6.out⟩
        · rintro e W' (⟨rfl, _, h⟩ | ⟨_, c, _, h⟩)
          · exact ⟨rfl, h⟩
          · exact h.elim
      rintro e W2 ⟨⟨v, rfl⟩, hJ⟩
      have hl := hJ.loop
      rw [HZ0.out] at hl
      refine rangePost_done hl fun hL2 => ?_
      have hJ2 := hJ.put (st' := .exhausted) (by have := HB0.out.size; omega) (by have := HZ0.out; omega)
      rw [HZ0.out] at hJ2
      have HL2 := Lib.hid hL2
      obtain ⟨W3, hW3⟩ : ∃ W3, W2.putObj (G + 3 + 1) (.loop { rr with state := .exhausted, pending := none }) = W3 := ⟨_, rfl⟩
      have HW3 := Lib.hid hW3
      rw [hW3] at hJ2 HL2
      rw [hW3]
      have hlow := hJ2.low HG4.out HB40.out
      have b0 := low_cell hlow HBK4.out.cells.1
      have x0 := hJ2.box.cell 0 (by omega)
      have x1 := hJ2.box.cell 1 (by omega)
      have x2 := hJ2.box.cell 2 (by omega)
      have x3 := hJ2.box.cell 3 (by omega)
      have HLI := Lib.hid (list_any (fun t : Nat => sumD (owedD g n sub) g (t : Int) n) tn W3 (by omega) htn2)
      have HJ2 := Lib.hid hJ2
      rw [HG4.out]
      clear hJ hl hL2 hJ2 hW3 HW3 hlow
      gi_wp2_with fail
      refine ⟨trivial, ?_⟩
      refine (callsIn_wide.2 HLI.out).mono ?_
      rintro e W4 ⟨p4, c4, rfl, hrd4, hp4, hfr4, hb4⟩
      have HFR := Lib.hid hfr4
      have hJ4 := HJ2.out.keep hb4
      have hds := hJ4.loop.ds
      rw [HZ0.out] at hds
      have HDS := Lib.hid hds
      have HJ4 := Lib.hid hJ4
      have HRD := Lib.hid hrd4
      have HP4 : Hid (∀ a, p4 = some a → G + 3 < a.block) := Lib.hid (fun a h => by have := hp4 a h; have := HJ2.out.size; have := HZ0.out; omega)
      clear b0 x0 x1 x2 x3 hrd4 hp4 hfr4 hb4 hJ4 hds
      gi_wp2
      refine ⟨by simp, .inl ⟨_, _, rfl, run_takeDeferred HDS.out, ?_⟩⟩
      refine ⟨.tuple #[.slice p4 tn c4, .int .i64 0], by simp [results, Tryd.results20, go_sem], ?_⟩
      refine ⟨p4, tn, c4, _, 0, rfl, .inl ⟨HG.out, rfl, rfl, fun i _ => ?_⟩, readsI_put HRD.out HP4.out, fun a h => by have := HP4.out a h; omega, FreeAt.put HFR.out HP4.out, Below_put HJ4.out.below (by omega) HJ4.out.below.size⟩
      rfl
    · have d1 : decide (within sub 0 999) = false := decide_eq_false hm
      have HNO : Hid (¬ OwedGood teams closed n g sub) := Lib.hid (fun h => hm h.2)
      clear hm
      have c5 := c4
      rw [← HW4.out] at c5
      gi_wp2_with fail
      clear c5
      refine ⟨trivial, ?_⟩
      refine (callsIn_wide.2 (isIn_any _ _ _ _)).mono ?_
      rintro e w5 ⟨rfl, rfl⟩
      rw [HW4.out]
      gi_wp2_with fail
      refine ⟨.tuple #[.slice none 0 0, .int .i64 270], by simp [results, Tryd.results20, go_sem], ?_⟩
      exact ⟨none, 0, 0, fun _ => 0, 270, rfl, .inr ⟨HNO.out, rfl, rfl⟩, fun i hi => by omega, nofun, nofun, HB4.out⟩
theorem Owed_w (teams closed sub : Int) (q : Option Addr) (n c : Nat) (g : Nat → Pst) (w : World) (hn : n ≤ maxLen) (hr : ReadsP w q n g) :
    Calls Tryd.prog 20 #[.agg #[.int .i64 teams, .slice q n c, .int .i64 closed], .int .i64 sub] w (IsIntsW w (OwedSpec teams closed n g sub)) :=
  callsIn_wide.1 (Owed_in teams closed sub q n c g w hn hr)
theorem Owed_any (teams closed sub : Int) (q : Option Addr) (n c : Nat) (g : Nat → Pst) (w : World) (hn : n ≤ maxLen) (hr : ReadsP w q n g) :
    Calls Tryd.prog 20 #[.agg #[.int .i64 teams, .slice q n c, .int .i64 closed], .int .i64 sub] w (IsInts w (OwedSpec teams closed n g sub)) :=
  (Owed_w teams closed sub q n c g w hn hr).mono fun _ _ h => h.ints
end Go.Proofs.YtcfplkbbgjiocaaDoor
namespace Go.Proofs.YtcfplkbbgjiocaaDoor
open Go Go.RowKit Go.Shelf
/-- Numbers in a block that may be written. -/
def NBox (W : World) (G n : Nat) (f : Nat → Int) : Prop := ∃ (cs : Array Value) (t : TypeId), W.heap[G]? = some (.cells cs t (0, 0)) ∧ ∀ i, i < n → cs[i]? = some (.int .i64 (f i))
section
variable {W W' : World} {G n : Nat} {f : Nat → Int}
theorem NBox.lt (h : NBox W G n f) : G < W.heap.size := by
  obtain ⟨cs, t, h, _⟩ := h
  exact (Array.getElem?_eq_some_iff.1 h).1
theorem NBox.cell (h : NBox W G n f) (i : Nat) (hi : i < n) : W.cell? ⟨G, i, none⟩ = some (.int .i64 (f i)) := by
  obtain ⟨cs, t, h, hc⟩ := h
  unfold World.cell?
  simp only [h]
  exact hc i hi
theorem NBox.free (h : NBox W G n f) (i : Nat) : W.frozen? ⟨G, i, none⟩ = false := by
  obtain ⟨cs, t, h, _⟩ := h
  unfold World.frozen?
  rw [h]
  simp
theorem NBox.below (h : NBox W G n f) (hb : Below W.heap.size W W') : NBox W' G n f := by
  have hl := h.lt
  obtain ⟨cs, t, h, hc⟩ := h
  exact ⟨cs, t, (hb.block _ hl).trans h, hc⟩
theorem NBox.drew (h : NBox W G n f) : NBox W.drew G n f := h
theorem NBox.set (h : NBox W G n f) (j : Nat) (hj : j < n) (x : Int) : NBox (W.setCell ⟨G, j, none⟩ (.int .i64 x)) G n (fun i => if i = j then x else f i) := by
  obtain ⟨cs, t, h, hc⟩ := h
  have hl := (Array.getElem?_eq_some_iff.1 (hc j hj)).1
  refine ⟨_, t, heap_set h _, fun i hi => ?_⟩
  by_cases e : i = j
  · subst e
    rw [Array.getElem?_setIfInBounds_self_of_lt hl]
    simp
  · rw [Array.getElem?_setIfInBounds_ne (by omega), hc i hi]
    simp [e]
theorem NBox.congr {f' : Nat → Int} (h : NBox W G n f) (e : ∀ i, i < n → f' i = f i) : NBox W G n f' := by
  obtain ⟨cs, t, h, hc⟩ := h
  exact ⟨cs, t, h, fun i hi => by rw [hc i hi, e i hi]⟩
theorem NBox.reads (h : NBox W G n f) : ReadsI W (some ⟨G, 0, none⟩) n f := fun i _ => ⟨G, 0, rfl, fun j hj => by rw [Nat.zero_add]; exact h.cell j hj⟩
end
theorem make_ints (n : Nat) (hn : n ≤ 1000) : ∃ o : Obj, (∀ W : World, (Instr.makeSlice 46 (.int .i64 (n : Nat)) (.int .i64 (n : Nat))).run Tryd.prog W = .ok (.slice (some ⟨W.heap.size, 0, none⟩) n n) (W.alloc o)) ∧ ∀ W : World, NBox (W.alloc o) W.heap.size n (fun _ => 0) := by
  obtain ⟨i0, hi0, hj0, hj1, hj2⟩ := infoInt
  refine ⟨.cells (madeCells (Value.int .i64 0).cells (n * i0.size)) 3, fun W => ?_, fun W => ⟨_, _, World.alloc_heap_new W _, fun i hi => ?_⟩⟩
  · have h := run_make (P := Tryd.prog) W 46 3 i0 (.int .i64 0) Tryd.underlying46 hi0 hj0 .i64 .i64 (n : Int) (n : Int) (by omega) (by omega) (by rw [hj2]; omega) (by omega)
    simp only [Int.toNat_natCast] at h
    exact h
  · have hm : (madeCells (Value.int .i64 0).cells (n * i0.size)).toList = List.replicate n (.int .i64 0) := by
      rw [hj1]
      exact made_one (.int .i64 0) rfl n
    rw [← Array.getElem?_toList, hm, List.getElem?_replicate, if_pos hi]
/-- Whether a posting stands, as far as the ones before the m-th tell. -/
def stdP (g : Nat → Pst) (sub : Int) (i m : Nat) : Prop := (g i).kind = 1 ∧ (g i).sub = sub ∧ ∀ k, i < k → k < m → (g k).of ≠ (i : Int)
theorem bkOf_iff {teams closed : Int} {g : Nat → Pst} {top : Int} : ∀ n, (∀ i, i < n → TakesOk g i (bkOf g i) top (g i)) → ∀ i, i < n → (bkOf g n i = true ↔ ∃ k, i < k ∧ k < n ∧ (g k).of = (i : Int))
  | 0, _, i, hi => by omega
  | n + 1, h, i, hi => by
    have hT := h n (by omega)
    show (bkNext (bkOf g n) (g n) i = true) ↔ _
    unfold bkNext
    by_cases hin : i < n
    · have ih := bkOf_iff (teams := teams) (closed := closed) n (fun j hj => h j (by omega)) i hin
      by_cases hk : (g n).kind = 2 ∧ i = (g n).of.toNat
      · rw [if_pos hk]
        have hf := hT.2.1.2.2.2.2.2.2
        unfold within at hf
        exact ⟨fun _ => ⟨n, hin, by omega, by omega⟩, fun _ => rfl⟩
      · rw [if_neg hk, ih]
        constructor
        · rintro ⟨k, h1, h2, h3⟩
          exact ⟨k, h1, by omega, h3⟩
        · rintro ⟨k, h1, h2, h3⟩
          by_cases e : k = n
          · subst e
            exfalso
            have hf := hT.2.1.2.2.2.2.2.2
            unfold within at hf
            apply hk
            omega
          · exact ⟨k, h1, by omega, h3⟩
    · obtain rfl : i = n := by omega
      have hnot : ∀ m, m ≤ i → bkOf g m i = false := by
        intro m
        induction m with
        | zero => intro _; rfl
        | succ m ih =>
          intro hm
          show bkNext (bkOf g m) (g m) i = false
          unfold bkNext
          rw [if_neg (fun e => by
            have h2 := ((h m (by omega)).2.2.2 e.1).1
            have := (h m (by omega)).2.1.2.2.2.2.2.2
            unfold within at this
            omega)]
          exact ih (by omega)
      rw [hnot i (Nat.le_refl _), if_neg (fun e => by
        have h2 := (hT.2.2.2 e.1).1
        have := hT.2.1.2.2.2.2.2.2
        unfold within at this
        omega)]
      constructor
      · intro h; cases h
      · rintro ⟨k, h1, h2, _⟩
        omega
theorem stdP_owed {teams closed sub : Int} {n : Nat} {g : Nat → Pst} (h : BookOk teams closed n g) (i : Nat) (hi : i < n) : stdP g sub i n ↔ owedD g n sub i = true := by
  have hb := bkOf_iff (teams := teams) (closed := closed) n h.2 i hi
  unfold stdP owedD
  rw [decide_eq_true_iff]
  constructor
  · rintro ⟨a, b, c⟩
    refine ⟨a, b, ?_⟩
    cases hx : bkOf g n i with
    | false => rfl
    | true =>
      obtain ⟨k, h1, h2, h3⟩ := hb.1 hx
      exact absurd h3 (c k h1 h2)
  · rintro ⟨a, b, c⟩
    refine ⟨a, b, fun k h1 h2 h3 => ?_⟩
    rw [hb.2 ⟨k, h1, h2, h3⟩] at c
    cases c
end Go.Proofs.YtcfplkbbgjiocaaDoor
