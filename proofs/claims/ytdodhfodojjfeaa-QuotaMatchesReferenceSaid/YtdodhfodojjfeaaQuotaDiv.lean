/- Package quota: what Divide keeps in memory. No program walk. -/
import Derived.Test.YtdodhfodojjfeaaQuotaCircle
import Derived.Test.YtdodhfodojjfeaaQuotaGive
import Derived.Laws.MakeOwn
namespace Go.Proofs.Ytdodhfodojjfeaa
open Go Go.RowKit Go.Shelf
attribute [local go_sem] Oper.semAt_some
theorem Try.info3 : (Try.prog.info? 3).map (fun i => (i.zero, i.size, i.bytes)) = some (some (.int .i64 0), 1, 8) := by kernel_rfl
/-- A block of integers of the call's own. -/
def RowAt (W : World) (G n : Nat) (a : Nat → Nat) : Prop := W.heap[G]? = some (.cells ((List.range n).map fun i => Value.int .i64 ((a i : Nat) : Int)).toArray 3 (0, 0))
theorem RowAt.lt {W : World} {G n : Nat} {a : Nat → Nat} (h : RowAt W G n a) : G < W.heap.size := (Array.getElem?_eq_some_iff.1 h).1
theorem RowAt.cell {W : World} {G n i : Nat} {a : Nat → Nat} (h : RowAt W G n a) (hi : i < n) : W.cell? ⟨G, i, none⟩ = some (.int .i64 ((a i : Nat) : Int)) := by
  simp [World.cell?, show W.heap[G]? = _ from h, hi]
theorem RowAt.frozen {W : World} {G n i : Nat} {a : Nat → Nat} (h : RowAt W G n a) : W.frozen? ⟨G, i, none⟩ = false := by
  simp [World.frozen?, show W.heap[G]? = _ from h]
theorem RowAt.kept {W W' : World} {row : Option Nat} {G n : Nat} {a : Nat → Nat} (h : RowAt W G n a) (hg : W.grownBy W' row) (hne : some G ≠ row) : RowAt W' G n a := by
  have hb := hg.block G h.lt hne
  unfold RowAt at h ⊢
  rw [hb]; exact h
theorem RowAt.set {W : World} {G n i x : Nat} {a : Nat → Nat} (h : RowAt W G n a) : RowAt (W.setCell ⟨G, i, none⟩ (.int .i64 ((x : Nat) : Int))) G n (fun j => if j = i then x else a j) := by
  have hlt := h.lt
  unfold RowAt at h ⊢
  unfold World.setCell
  simp only [Array.getElem?_modify, if_true, h, Option.map_some, Option.isSome_none, Bool.false_eq_true, if_false]
  congr 2
  apply Array.ext
  · simp
  · intro j h1 h2
    by_cases e : i = j
    · subst e; simp
    · have e' : ¬ j = i := fun x => e x.symm
      simp [e, e']
theorem row_new (W : World) (n : Nat) : RowAt (W.alloc (.cells ((List.range n).map fun _ => Value.int .i64 0).toArray 3)) W.heap.size n (fun _ => 0) := World.alloc_heap_new W _
theorem make_row (W : World) (n : Nat) (hn : n ≤ 1000) : ∃ o : Obj, (Instr.makeSlice 22 (.int .i64 (n : Nat)) (.int .i64 (n : Nat))).run Try.prog W = .ok (.slice (some ⟨W.heap.size, 0, none⟩) n n) (W.alloc o) ∧ RowAt (W.alloc o) W.heap.size n (fun _ => 0) := by
  obtain ⟨i0, hi, hz0, hz1, hz2⟩ := info_parts Try.info3
  have h := run_make (P := Try.prog) W 22 3 i0 (.int .i64 0) Try.underlying22 hi hz0 .i64 .i64 (n : Int) (n : Int) (by omega) (by omega) (by rw [hz2]; omega) (by omega)
  simp only [Int.toNat_natCast] at h
  refine ⟨_, h, ?_⟩
  have e : madeCells (Value.int .i64 0).cells (n * i0.size) = ((List.range n).map fun _ => Value.int .i64 0).toArray := by
    rw [hz1]
    apply Array.toList_inj.1
    rw [made_one _ rfl]
    apply List.ext_getElem <;> simp
  rw [e]
  exact row_new W n
/-- Divide's memory: the boxes of capacity, demands and out, and out's block. -/
structure DivW (w : World) (n cp : Nat) (p : Option Addr) (a : Nat → Nat) (cap : Nat) (W : World) : Prop where
  capB : Boxed W w.heap.size 3 (.int .i64 (cap : Nat))
  demB : Boxed W (w.heap.size + 1) 22 (.slice p n cp)
  row : RowAt W (w.heap.size + 2) n a
  outB : Boxed W (w.heap.size + 3) 22 (.slice (some ⟨w.heap.size + 2, 0, none⟩) n n)
  below : Below w.heap.size w W
variable {w W W' : World} {n cp cap : Nat} {p : Option Addr} {a : Nat → Nat}
theorem DivW.kept {row : Option Nat} (h : DivW w n cp p a cap W) (hg : W.grownBy W' row) (hrow : ∀ j, row = some j → w.heap.size + 4 ≤ j) : DivW w n cp p a cap W' := by
  have hne : ∀ k, k < 4 → some (w.heap.size + k) ≠ row := fun k hk e => by have := hrow _ e.symm; omega
  exact ⟨h.capB.kept hg (hne 0 (by omega)), h.demB.kept hg (hne 1 (by omega)), h.row.kept hg (hne 2 (by omega)), h.outB.kept hg (hne 3 (by omega)), h.below.grown hg h.below.size (fun j e => by have := hrow _ e; omega)⟩
theorem DivW.size (h : DivW w n cp p a cap W) : w.heap.size + 4 ≤ W.heap.size := h.outB.lt
theorem DivW.onward (h : DivW w n cp p a cap W) (hb : Below W.heap.size W W') : DivW w n cp p a cap W' := by
  have hk : ∀ k, k < 4 → W'.heap[w.heap.size + k]? = W.heap[w.heap.size + k]? := fun k hk => hb.block _ (by have := h.size; omega)
  exact ⟨(hk 0 (by omega)).trans h.capB, (hk 1 (by omega)).trans h.demB, (hk 2 (by omega)).trans h.row, (hk 3 (by omega)).trans h.outB, h.below.trans (hb.mono h.below.size)⟩
theorem DivW.alloc (h : DivW w n cp p a cap W) (o : Obj) : DivW w n cp p a cap (W.alloc o) := h.kept (World.grownBy_alloc W o none) (fun j e => by cases e)
theorem DivW.put (h : DivW w n cp p a cap W) {l : Nat} (hl : w.heap.size + 4 ≤ l) (o : Obj) : DivW w n cp p a cap (W.putObj l o) := h.kept (grownBy_putObj' W l o) (fun j e => by cases e; exact hl)
theorem DivW.box (h : DivW w n cp p a cap W) {l : Nat} (hl : w.heap.size + 4 ≤ l) (v : Value) : DivW w n cp p a cap (W.setCell ⟨l, 0, none⟩ v) := h.kept (grownBy_setCell' W l v) (fun j e => by cases e; exact hl)
theorem DivW.congr {b : Nat → Nat} {cap' : Nat} (h : DivW w n cp p a cap W) (e : ∀ i, i < n → b i = a i) (ec : cap' = cap) : DivW w n cp p b cap' W := by
  subst ec
  refine ⟨h.capB, h.demB, ?_, h.outB, h.below⟩
  have hr := h.row
  unfold RowAt at hr ⊢
  rw [hr]
  congr 3
  refine List.map_congr_left fun i hi => ?_
  rw [e i (List.mem_range.1 hi)]
theorem DivW.drew (h : DivW w n cp p a cap W) : DivW w n cp p a cap W.drew := ⟨h.capB, h.demB, h.row, h.outB, h.below.drew⟩
theorem DivW.setCap (h : DivW w n cp p a cap W) (x : Nat) : DivW w n cp p a x (W.setCell ⟨w.heap.size, 0, none⟩ (.int .i64 (x : Nat))) :=
  ⟨h.capB.set _, Boxed_other h.demB (by omega), h.row.kept (grownBy_setCell' W _ _) (by simp), Boxed_other h.outB (by omega), h.below.grown (grownBy_setCell' W _ _) h.below.size (fun j e => by cases e; exact Nat.le_refl _)⟩
theorem grownBy_setCell_at (W : World) (b i : Nat) (v : Value) : W.grownBy (W.setCell ⟨b, i, none⟩ v) (some b) :=
  ⟨rfl, rfl, rfl, (KeepsWalks.setCell W _ v).size, fun k _ hk => Below.heap_setCell _ _ _ k (fun e => hk (by rw [e]))⟩
theorem DivW.setRow (h : DivW w n cp p a cap W) (i x : Nat) : DivW w n cp p (fun j => if j = i then x else a j) cap (W.setCell ⟨w.heap.size + 2, i, none⟩ (.int .i64 (x : Nat))) :=
  ⟨h.capB.kept (grownBy_setCell_at W _ _ _) (by simp), h.demB.kept (grownBy_setCell_at W _ _ _) (by simp), h.row.set, h.outB.kept (grownBy_setCell_at W _ _ _) (by simp), h.below.grown (grownBy_setCell_at W _ _ _) h.below.size (fun j e => by cases e; omega)⟩
theorem countB_sum (f : Nat → Bool) : ∀ n, countB f n = sumTo (fun i => if f i = true then 1 else 0) n
  | 0 => rfl
  | n + 1 => by simp only [countB, sumTo]; rw [countB_sum f n]
theorem countB_cnt {d a : Nat → Nat} {n t L : Nat} (hn : 0 < n) (ha : ∀ i, i < n → a i = min (d i) L) : countB (fun i => decide (a i < d i)) n = cnt d n t L n := by
  rw [countB_sum, cnt_all d n t L hn]
  refine sumTo_congr n fun i hi => ?_
  have := ha i hi
  by_cases h : L < d i
  · rw [if_pos h, if_pos (by simp; omega)]
  · rw [if_neg h, if_neg (by simp; omega)]
theorem countB_zero {f : Nat → Bool} : ∀ n, countB f n = 0 → ∀ i, i < n → f i = false
  | n + 1, h, i, hi => by
    simp only [countB] at h
    by_cases e : i = n
    · subst e
      cases hf : f i with
      | false => rfl
      | true => simp [hf] at h
    · exact countB_zero n (by omega) i (by omega)
/-- What a range over a function leaves among the deferred calls. -/
def mark (D : Nat) : Deferred := { target := .collected D, args := #[] }
def MarksAt (l : List Nat) (W : World) : Prop := ∀ D, D ∈ l → W.heap[D]? = some (.deferred (some []))
theorem MarksAt.others {l : List Nat} (h : MarksAt l W) (hk : KeepsOthers W W') : MarksAt l W' := fun D hD => hk.same _ _ (h D hD) rfl
theorem MarksAt.put {l : List Nat} {x : Nat} {r : Loop} {o : Obj} (h : MarksAt l W) (hx : W.heap[x]? = some (.loop r)) : MarksAt l (W.putObj x o) := fun D hD => by
  have h1 := h D hD
  rw [World.putObj_heap_other (fun e => by rw [e, hx] at h1; cases h1)]
  exact h1
theorem MarksAt.lt {l : List Nat} (h : MarksAt l W) : ∀ D, D ∈ l → D < W.heap.size := fun D hD => (Array.getElem?_eq_some_iff.1 (h D hD)).1
theorem MarksAt.below {l : List Nat} (h : MarksAt l W) (hb : Below W.heap.size W W') : MarksAt l W' := fun D hD => (hb.block _ (h.lt D hD)).trans (h D hD)
theorem leaves_marks {F : Fence} {n : Nat} {P : Program} {fn : Func} {tmps : Array Value} {R : Ending → World → Prop} {I : World → Prop} :
    ∀ (l : List Nat) (W : World), l.Pairwise (· > ·) → MarksAt l W → (∀ W D, D ∈ l → W.heap[D]? = some (.deferred (some [])) → I W → I (W.putObj D (.deferred none))) → I W →
      (∀ W, I W → LeavesIn F n P fn tmps R [] .returning W) → LeavesInM F n P fn tmps R (l.map mark) .returning W
  | [], W, _, _, _, hI, h => h W hI
  | D :: l, W, hp, hm, hk, hI, h => by
    have h1 := hm D (by simp)
    refine ⟨by simp, .inl ⟨D, _, rfl, run_takeDeferred h1, leaves_marks l _ (List.pairwise_cons.1 hp).2 (fun D' hD' => ?_) (fun W D' hD' => hk W D' (by simp [hD'])) (hk W D (by simp) h1 hI) h⟩⟩
    have h2 := (List.pairwise_cons.1 hp).1 D' hD'
    rw [World.putObj_heap_other (fun e => by omega)]
    exact hm D' (by simp [hD'])
/-- Between two tenants of the circle. -/
structure GiveAt (w : World) (n cp : Nat) (p : Option Addr) (d : Nat → Nat) (t L s M cap S X : Nat) (st : Nat) (r : Loop) (ml : List Nat) (k : Nat) (W : World) : Prop where
  marks : MarksAt ml W
  mem : DivW w n cp p (give d n t L s M k) (capAt d n t L s M cap k) W
  step : Boxed W S 3 (.int .i64 (st : Nat))
  frm : Boxed W X 3 (.int .i64 (t : Nat))
  num : Boxed W (X + 1) 3 (.int .i64 (n : Nat))
  loop : LoopAt W (X + 2) (X + 3) r .ready none
/-- In a tenant's round: the row and the capacity as they stand. -/
structure BusyAt (w : World) (n cp : Nat) (p : Option Addr) (b : Nat → Nat) (y t S X st : Nat) (r : Loop) (ml : List Nat) (W : World) : Prop where
  marks : MarksAt ml W
  mem : DivW w n cp p b y W
  step : Boxed W S 3 (.int .i64 (st : Nat))
  frm : Boxed W X 3 (.int .i64 (t : Nat))
  num : Boxed W (X + 1) 3 (.int .i64 (n : Nat))
  loop : LoopAt W (X + 2) (X + 3) r .busy none
  hS : w.heap.size + 4 ≤ S
  hX : S < X
variable {d b : Nat → Nat} {t L s M S X st k y : Nat} {r : Loop} {ml : List Nat}
theorem GiveAt.busy (h : GiveAt w n cp p d t L s M cap S X st r ml k W) (hS : w.heap.size + 4 ≤ S) (hX : S < X) :
    BusyAt w n cp p (give d n t L s M k) (capAt d n t L s M cap k) t S X st r ml (W.putObj (X + 3) (.loop { r with state := .busy, pending := none })) :=
  ⟨h.marks.put h.loop.lrec, h.mem.put (by omega) _, Boxed_put h.step h.loop.lrec rfl, Boxed_put h.frm h.loop.lrec rfl, Boxed_put h.num h.loop.lrec rfl, h.loop.put, hS, hX⟩
theorem BusyAt.setRow (h : BusyAt w n cp p b y t S X st r ml W) (i x : Nat) : BusyAt w n cp p (fun j => if j = i then x else b j) y t S X st r ml (W.setCell ⟨w.heap.size + 2, i, none⟩ (.int .i64 (x : Nat))) := by
  have h1 := h.hS
  have h2 := h.hX
  exact ⟨h.marks.others (KeepsOthers.setCell _ _ _), h.mem.setRow i x, h.step.kept (grownBy_setCell_at W _ _ _) (by simp; omega), h.frm.kept (grownBy_setCell_at W _ _ _) (by simp; omega), h.num.kept (grownBy_setCell_at W _ _ _) (by simp; omega), h.loop.others (KeepsOthers.setCell _ _ _), h1, h2⟩
theorem BusyAt.setCap (h : BusyAt w n cp p b y t S X st r ml W) (x : Nat) : BusyAt w n cp p b x t S X st r ml (W.setCell ⟨w.heap.size, 0, none⟩ (.int .i64 (x : Nat))) := by
  have h1 := h.hS
  have h2 := h.hX
  exact ⟨h.marks.others (KeepsOthers.setCell _ _ _), h.mem.setCap x, Boxed_other h.step (by omega), Boxed_other h.frm (by omega), Boxed_other h.num (by omega), h.loop.others (KeepsOthers.setCell _ _ _), h1, h2⟩
theorem BusyAt.drew (h : BusyAt w n cp p b y t S X st r ml W) : BusyAt w n cp p b y t S X st r ml W.drew := ⟨h.marks.others (KeepsOthers.drew _), h.mem.drew, h.step, h.frm, h.num, h.loop.others (KeepsOthers.drew _), h.hS, h.hX⟩
theorem BusyAt.done (h : BusyAt w n cp p b y t S X st r ml W) (e : ∀ i, i < n → give d n t L s M k i = b i) (ey : capAt d n t L s M cap k = y) :
    LoopAt W (X + 2) (X + 3) r .busy none ∧ GiveAt w n cp p d t L s M cap S X st r ml k (W.putObj (X + 3) (.loop { r with state := .ready, pending := none })) := by
  have h1 := h.hS
  have h2 := h.hX
  exact ⟨h.loop, h.marks.put h.loop.lrec, (h.mem.congr e ey).put (by omega) _, Boxed_put h.step h.loop.lrec rfl, Boxed_put h.frm h.loop.lrec rfl, Boxed_put h.num h.loop.lrec rfl, h.loop.put⟩
theorem capAt_lt (h : GiveOk d n t L s M cap) (hc : 0 < cnt d n t L n) (hM : 0 < M) (h0 : 0 < cap) : capAt d n t L s M cap n < cap := by
  unfold capAt
  have : 0 < s * min (cnt d n t L n) M := Nat.mul_pos h.pos (by omega)
  omega
/-- Before each round of the division. -/
def DivInv (w : World) (n cp : Nat) (p : Option Addr) (d : Nat → Nat) (c t : Nat) (a' : Act) (wr : World) : Prop := ∃ (u10 u11 u12 u13 u14 u15 u16 u41 u42 u43 u44 u45 u46 u47 u48 u49 u50 u51 u52 u53 u54 u55 u56 u57 u58 u59 u60 u61 u62 u63 u64 u65 u66 u67 u68 u69 u70 u71 u72 u73 u74 u75 u76 u77 u78 u79 u80 u81 u82 u83 u84 u85 u86 u87 u88 u89 u90 u91 u92 u93 u94 u95 u96 u97 u98 u99 u100 u101 u102 u103 u104 u105 u106 u107 : Value) (ml : List Nat), (∃ (a : Nat → Nat) (cap : Nat), u10 = .int .i64 (countB (fun i => decide (a i < d i)) n : Nat) ∧ DivW w n cp p a cap wr ∧ DivMid n d c t a cap ∧ ml.Pairwise (· > ·) ∧ MarksAt ml wr ∧ (∀ D, D ∈ ml → w.heap.size ≤ D)) ∧ a' = { tmps := #[.int .i64 (c : Int), .slice p n cp, .int .i64 (t : Int), .pointer (some ⟨w.heap.size, 0, none⟩), .pointer (some ⟨w.heap.size + 1, 0, none⟩), undef, .slice none 0 0, .int .i64 0, .pointer (some ⟨w.heap.size + 1 + 1 + 1, 0, none⟩), Value.func (.func 27) #[] #[.pointer (some ⟨w.heap.size + 1 + 1 + 1, 0, none⟩), .pointer (some ⟨w.heap.size + 1, 0, none⟩)], u10, u11, u12, u13, u14, u15, u16, .int .i64 (c : Int), .bool true, .bool false, .bool false, .slice p n cp, .bool true, .bool false, .bool false, .bool false, .int .i64 (t : Int), .bool (decide ((t : Int) < 0)), .bool (decide ((t : Int) < 0)), .bool (decide ((t : Int) < 0)), .int .i64 (t : Int), .slice p n cp, .int .i64 (n : Int), .bool false, .bool (decide ((t : Int) < 0)), .slice p n cp, .int .i64 (n : Int), .slice (some ⟨w.heap.size + 1 + 1, 0, none⟩) n n, Value.func (.func 27) #[] #[.pointer (some ⟨w.heap.size + 1 + 1 + 1, 0, none⟩), .pointer (some ⟨w.heap.size + 1, 0, none⟩)], Value.func (.func 27) #[] #[.pointer (some ⟨w.heap.size + 1 + 1 + 1, 0, none⟩), .pointer (some ⟨w.heap.size + 1, 0, none⟩)], .int .i64 ((countB (fun i => decide (0 < d i)) n : Nat) : Int), u41, u42, u43, u44, u45, u46, u47, u48, u49, u50, u51, u52, u53, u54, u55, u56, u57, u58, u59, u60, u61, u62, u63, u64, u65, u66, u67, u68, u69, u70, u71, u72, u73, u74, u75, u76, u77, u78, u79, u80, u81, u82, u83, u84, u85, u86, u87, u88, u89, u90, u91, u92, u93, u94, u95, u96, u97, u98, u99, u100, u101, u102, u103, u104, u105, u106, u107, undef], defers := ml.map mark }
def capOf (w W : World) : Nat := match W.cell? ⟨w.heap.size, 0, none⟩ with | some v => (intOf v).toNat | none => 0
theorem capOf_div (h : DivW w n cp p a cap W) : capOf w W = cap := by
  unfold capOf
  rw [h.capB.cell]
  simp [intOf]
end Go.Proofs.Ytdodhfodojjfeaa
