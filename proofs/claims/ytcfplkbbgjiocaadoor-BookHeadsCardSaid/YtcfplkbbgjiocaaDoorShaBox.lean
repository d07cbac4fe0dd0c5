/- Boxes of unsigned words and bytes that the call owns. No condition. -/
import Derived.Test.YtcfplkbbgjiocaaDoorShaRot
import Derived.Laws.OwnMore
import Derived.ChangeKeysEq
import Derived.Laws.Rows
import Derived.Laws.Tables
import Derived.Test.YtcfplkbbgjiocaaDoorOwn
import Derived.Test.YtcfplkbbgjiocaaDoorFrame
namespace Go.Proofs.YtcfplkbbgjiocaaDoor
open Go Go.RowKit
theorem cell_lt' {W : World} {b o : Nat} {v : Value} (h : W.cell? ⟨b, o, none⟩ = some v) : b < W.heap.size := by
  unfold World.cell? at h
  cases hb : W.heap[b]? with
  | none => simp [hb] at h
  | some x => exact (Array.getElem?_eq_some_iff.1 hb).1
theorem heap_set' {W : World} {B i : Nat} {cs : Array Value} {t : TypeId} (h : W.heap[B]? = some (.cells cs t (0, 0))) (u : Value) : (W.setCell ⟨B, i, none⟩ u).heap[B]? = some (.cells (cs.setIfInBounds i u) t (0, 0)) := by
  unfold World.setCell
  simp [Array.getElem?_modify, h]
/-- Numbers in a block of the call's own. -/
def UBox (K : IntKind) (W : World) (B n : Nat) (f : Nat → Nat) : Prop := ∃ (cs : Array Value) (t : TypeId), W.heap[B]? = some (.cells cs t (0, 0)) ∧ cs.size = n ∧ ∀ i, i < n → cs[i]? = some (.int K (f i : Nat))
section
variable {K : IntKind} {W W' : World} {B n : Nat} {f : Nat → Nat}
theorem UBox.lt (h : UBox K W B n f) : B < W.heap.size := by
  obtain ⟨cs, t, h, _⟩ := h
  exact (Array.getElem?_eq_some_iff.1 h).1
theorem UBox.cell (h : UBox K W B n f) (i : Nat) (hi : i < n) : W.cell? ⟨B, i, none⟩ = some (.int K (f i : Nat)) := by
  obtain ⟨cs, t, h, _, hc⟩ := h
  unfold World.cell?
  simp only [h]
  exact hc i hi
theorem UBox.free (h : UBox K W B n f) (i : Nat) : W.frozen? ⟨B, i, none⟩ = false := by
  obtain ⟨cs, t, h, _⟩ := h
  unfold World.frozen?
  rw [h]
  simp
theorem UBox.below (h : UBox K W B n f) (hb : Below W.heap.size W W') : UBox K W' B n f := by
  have hl := h.lt
  obtain ⟨cs, t, h, hc⟩ := h
  exact ⟨cs, t, (hb.block _ hl).trans h, hc⟩
theorem UBox.low {F : Nat} (h : UBox K W B n f) (hb : Below F W W') (hF : B < F) : UBox K W' B n f := by
  obtain ⟨cs, t, h, hc⟩ := h
  exact ⟨cs, t, (hb.block _ hF).trans h, hc⟩
theorem UBox.drew (h : UBox K W B n f) : UBox K W.drew B n f := h
theorem UBox.other {b i : Nat} (h : UBox K W B n f) (hne : b ≠ B) (v : Value) : UBox K (W.setCell ⟨b, i, none⟩ v) B n f := by
  obtain ⟨cs, t, h, hc⟩ := h
  exact ⟨cs, t, (Below.heap_setCell _ _ _ _ (fun e => hne e.symm)).trans h, hc⟩
theorem UBox.set (h : UBox K W B n f) (j : Nat) (hj : j < n) (x : Nat) : UBox K (W.setCell ⟨B, j, none⟩ (.int K (x : Nat))) B n (fun i => if i = j then x else f i) := by
  obtain ⟨cs, t, h, hs, hc⟩ := h
  have hl := (Array.getElem?_eq_some_iff.1 (hc j hj)).1
  refine ⟨_, t, heap_set' h _, by simpa using hs, fun i hi => ?_⟩
  by_cases e : i = j
  · subst e
    rw [Array.getElem?_setIfInBounds_self_of_lt hl]
    simp
  · rw [Array.getElem?_setIfInBounds_ne (by omega), hc i hi]
    simp [e]
theorem UBox.congr {f' : Nat → Nat} (h : UBox K W B n f) (e : ∀ i, i < n → f' i = f i) : UBox K W B n f' := by
  obtain ⟨cs, t, h, hs, hc⟩ := h
  exact ⟨cs, t, h, hs, fun i hi => by rw [hc i hi, e i hi]⟩
theorem UBox.new (W : World) (cs : Array Value) (t : TypeId) (f : Nat → Nat) (hs : cs.size = n) (hc : ∀ i, i < n → cs[i]? = some (.int K (f i : Nat))) : UBox K (W.alloc (.cells cs t)) W.heap.size n f :=
  ⟨cs, t, World.alloc_heap_new W _, hs, hc⟩
end
/-- Numbers that can be read. -/
def ReadsU (K : IntKind) (W : World) (p : Option Addr) (n : Nat) (f : Nat → Nat) : Prop :=
  ∀ i, i < n → ∃ b off, p = some ⟨b, off, none⟩ ∧ ∀ j, j < n → W.cell? ⟨b, off + j, none⟩ = some (.int K (f j : Nat))
section
variable {K : IntKind} {W W' : World} {p : Option Addr} {n : Nat} {f : Nat → Nat}
theorem ReadsU.below (h : ReadsU K W p n f) (hb : Below W.heap.size W W') : ReadsU K W' p n f := fun i hi => by
  obtain ⟨b, off, hp, hc⟩ := h i hi
  exact ⟨b, off, hp, fun j hj => (hb.cell (p := ⟨b, off + j, none⟩) (cell_lt' (hc j hj))).trans (hc j hj)⟩
theorem ReadsU.congr {g : Nat → Nat} (h : ReadsU K W p n f) (e : ∀ i, i < n → f i = g i) : ReadsU K W p n g := fun i hi => by
  obtain ⟨b, off, hp, hc⟩ := h i hi
  exact ⟨b, off, hp, fun j hj => by rw [hc j hj, e j hj]⟩
theorem UBox.reads {B : Nat} (h : UBox K W B n f) : ReadsU K W (some ⟨B, 0, none⟩) n f := fun _ _ => ⟨B, 0, rfl, fun j hj => by rw [Nat.zero_add]; exact h.cell j hj⟩
theorem ReadsU.part {b o : Nat} (h : ReadsU K W (some ⟨b, o, none⟩) n f) {k m : Nat} (hk : k + m ≤ n) : ReadsU K W (some ⟨b, o + k, none⟩) m (fun j => f (k + j)) := fun i hi => by
  obtain ⟨b', o', hp, hc⟩ := h (k + i) (by omega)
  cases hp
  exact ⟨b, o + k, rfl, fun j hj => by rw [Nat.add_assoc]; exact hc (k + j) (by omega)⟩
end
theorem infoU32 : ∃ i : TypeInfo, Tryd.prog.info? 77 = some i ∧ i.zero = some (.int .u32 0) ∧ i.size = 1 ∧ i.bytes = 4 := by
  have h : (Tryd.prog.info? 77).map (fun i => (i.zero, i.size, i.bytes)) = some (some (.int .u32 0), 1, 4) := by kernel_rfl
  cases hi : Tryd.prog.info? 77 with
  | none => rw [hi] at h; cases h
  | some i =>
    rw [hi] at h
    simp at h
    exact ⟨i, rfl, h.1, h.2.1, h.2.2⟩
theorem infoU8 : ∃ i : TypeInfo, Tryd.prog.info? 5 = some i ∧ i.zero = some (.int .u8 0) ∧ i.size = 1 ∧ i.bytes = 1 := by
  have h : (Tryd.prog.info? 5).map (fun i => (i.zero, i.size, i.bytes)) = some (some (.int .u8 0), 1, 1) := by kernel_rfl
  cases hi : Tryd.prog.info? 5 with
  | none => rw [hi] at h; cases h
  | some i =>
    rw [hi] at h
    simp at h
    exact ⟨i, rfl, h.1, h.2.1, h.2.2⟩
theorem run_index_agg {t : TypeId} {n k : Nat} {cs : Array Value} {z : Int} {w : World} (h : Tryd.prog.underlying t = some (.array n 77)) (hk : k < n) (hc : cs[k]? = some (.int .u32 z)) :
    (Instr.index t (.agg cs) (.int .i64 (k : Int))).run Tryd.prog w = .ok (.int .u32 z) w := by
  obtain ⟨i0, hi0, hj0, hj1, hj2⟩ := infoU32
  have hs : (sizeOf 77).run Tryd.prog w = .ok 1 w := by simp [sizeOf, typeInfo, hi0, hj1]
  simp [Instr.index, run_underlying h, asIntOf, hs, part, hk, isAgg, hc]
theorem load_row {W : World} {b n : Nat} {cs : Array Value} {t t' e : TypeId} (hu : Tryd.prog.underlying t = some (.array n e)) (hi : (Tryd.prog.info? t).map (fun i => i.size) = some n) (h : W.heap[b]? = some (.cells cs t' (0, 0))) (hs : cs.size = n) :
    (Instr.loadAt t (.pointer (some ⟨b, 0, none⟩))).run Tryd.prog W = .ok (.agg cs) W := by
  simp only [Instr.loadAt, Instr.sureAddr, Sem.run_bind, Sem.run_pure, Result.andThen]
  exact run_loadVar_row W b t' t cs (0, 0) (.array n e) h hu rfl (by rw [hs]; exact hi)
theorem setRow_same {W : World} {b : Nat} {cs : Array Value} {t : TypeId} (h : W.heap[b]? = some (.cells cs t (0, 0))) : W.setRow b cs = W := by
  have e : (W.setRow b cs).heap = W.heap := by
    apply Array.ext_getElem?
    intro i
    by_cases hi : i = b
    · subst hi
      rw [h]
      exact setRow_heap W i cs cs t (0, 0) h
    · exact setRow_other W b i cs hi
  show { W with heap := (W.setRow b cs).heap } = W
  rw [e]
theorem wpList_load_row {ops : Array Oper} {rest : List Oper} {o : Oper} {a : Act} {Q : Exit → Act → World → Prop} {w : World} (hgd : o.guard = none) (x : Operand) {t : TypeId} (ho : o.op = .load t x)
    {b n : Nat} {cs : Array Value} {t' e : TypeId} (hu : Tryd.prog.underlying t = some (.array n e)) (hi : (Tryd.prog.info? t).map (fun i => i.size) = some n) (h : w.heap[b]? = some (.cells cs t' (0, 0))) (hs : cs.size = n) (hx : a.eval x = .pointer (some ⟨b, 0, none⟩))
    (hk : wpList Tryd.prog ops Q rest (a.put o.dst (.agg cs)) w) : wpList Tryd.prog ops Q (o :: rest) a w :=
  wpList_plain hgd fun K hK => by
    have hr := load_row hu hi h hs
    unfold Oper.wp execOp
    simp only [ho, Sem.run_bind, Sem.run_pure, Result.andThen_ok, hx, hr]
    exact hK _ _ hk
theorem wpList_store_row {ops : Array Oper} {rest : List Oper} {o : Oper} {a : Act} {Q : Exit → Act → World → Prop} {w : World} (hgd : o.guard = none) (x y : Operand) {t : TypeId} (ho : o.op = .store t x y)
    {b n : Nat} {old cs : Array Value} {t' : TypeId} (hi : (Tryd.prog.info? t).map (fun i => i.size) = some n) (h : w.heap[b]? = some (.cells old t' (0, 0))) (hold : old.size = n) (hs : cs.size = n) (h1 : cs.all (·.oneCell') = true) (hx : a.eval x = .pointer (some ⟨b, 0, none⟩)) (hy : a.eval y = .agg cs)
    (hk : wpList Tryd.prog ops Q rest (a.put o.dst undef) (w.setRow b cs)) : wpList Tryd.prog ops Q (o :: rest) a w :=
  wpList_plain hgd fun K hK => wp_store_row t x y ho b cs hx hy t' old h (by rw [hs]; exact hi) (by rw [hold, hs]) h1 (hK _ _ hk)
theorem u_one {K : IntKind} {cs : Array Value} {n : Nat} {f : Nat → Nat} (hs : cs.size = n) (h : ∀ i, i < n → cs[i]? = some (.int K (f i : Nat))) : cs.all (·.oneCell') = true := by
  rw [Array.all_eq_true_iff_forall_mem]
  intro v hv
  obtain ⟨i, hi, rfl⟩ := Array.mem_iff_getElem.1 hv
  have h2 := h i (by omega)
  rw [Array.getElem?_eq_getElem hi] at h2
  injection h2 with h2
  rw [h2]
  rfl
theorem results_cell {fn : Func} {t : Tmp} {ty e : TypeId} {n b : Nat} {cs : Array Value} {t' : TypeId} {tmps : Array Value} {W : World} (h : fn.results = #[.cell t ty]) (ht : tmps.getD t undef = .pointer (some ⟨b, 0, none⟩)) (hu : Tryd.prog.underlying ty = some (.array n e)) (hi : (Tryd.prog.info? ty).map (fun i => i.size) = some n) (hh : W.heap[b]? = some (.cells cs t' (0, 0))) (hs : cs.size = n) :
    (results fn tmps).run Tryd.prog W = .ok (.agg cs) W := by
  have hr := run_loadVar_row W b t' ty cs (0, 0) (.array n e) hh hu rfl (by rw [hs]; exact hi)
  have ht' : tmps[t]?.getD undef = .pointer (some ⟨b, 0, none⟩) := by simpa using ht
  simp [results, h, ht', asAddr, hr]
end Go.Proofs.YtcfplkbbgjiocaaDoor
