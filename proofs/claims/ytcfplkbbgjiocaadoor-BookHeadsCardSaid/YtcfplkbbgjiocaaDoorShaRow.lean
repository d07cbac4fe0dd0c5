/- Rows of bytes that the call owns, marked by a conversion or not; one byte more. Conditions: at most 100000 bytes. -/
import Derived.Test.YtcfplkbbgjiocaaDoorShaAdd
import Derived.Laws.AppendOwn
import Derived.Lib.ConvBytes
namespace Go.Proofs.YtcfplkbbgjiocaaDoor
open Go Go.RowKit
/-- A row of bytes of the call's own; no cell of it is frozen. -/
def BRow (W : World) (F : Nat) (v : Value) (l : List UInt8) : Prop :=
  ∃ (g cap : Nat) (cur : Array Value) (fz : Nat × Nat), v = .slice (some ⟨g, 0, none⟩) l.length cap ∧ F ≤ g ∧ W.heap[g]? = some (.cells cur 5 fz) ∧ (cur.size ≤ fz.1 ∨ fz = (0, 0)) ∧ l.length ≤ cap ∧ cap ≤ maxLen ∧ cur.size = cap ∧ ∀ i, i < l.length → cur[i]? = (l[i]?).map u8v
theorem not_frozen {W : World} {g i : Nat} {cur : Array Value} {t : TypeId} {fz : Nat × Nat} (h : W.heap[g]? = some (.cells cur t fz)) (hf : cur.size ≤ fz.1 ∨ fz = (0, 0)) (hi : i < cur.size) : W.frozen? ⟨g, i, none⟩ = false := by
  obtain ⟨lo, hi'⟩ := fz
  simp only [World.frozen?, h, Bool.and_eq_false_iff, decide_eq_false_iff_not]
  rcases hf with hf | hf
  · left
    simp only at hf
    omega
  · right
    cases hf
    omega
theorem set_heap {W : World} {g i : Nat} {cur : Array Value} {t : TypeId} {fz : Nat × Nat} (h : W.heap[g]? = some (.cells cur t fz)) (u : Value) : (W.setCell ⟨g, i, none⟩ u).heap[g]? = some (.cells (cur.setIfInBounds i u) t fz) := by
  unfold World.setCell
  simp [Array.getElem?_modify, h]
theorem append_brow {W : World} {F : Nat} {v : Value} {l : List UInt8} (b : UInt8) (h : BRow W F v l) (ty : TypeId) (ad : Addr) (c : Nat) (hn : W.cell? (ad.add 0) = some (u8v b)) (hs : l.length + 1 ≤ 100000) (hF : F ≤ W.heap.size) :
    ∃ v' w', (Builtin.append_ #[57, 57] ty #[v, .slice (some ad) 1 c]).run Tryd.prog W = .ok v' w' ∧ BRow w' F v' (l ++ [b]) ∧ Below F W w' := by
  obtain ⟨i0, hi0, hj0, hj1, hj2⟩ := infoU8
  obtain ⟨g, cap, cur, fz, rfl, hg, hh, hf, hlc, hcm, hcs, hc⟩ := h
  have hnews : ∀ j u, [u8v b][j]? = some u → W.cell? (ad.add j) = some u := fun j u hj => by
    have hj0 : j = 0 := by have := (List.getElem?_eq_some_iff.1 hj).1; simpa using this
    subst hj0
    simp at hj
    rw [hn, hj]
  by_cases hroom : l.length + 1 ≤ cap
  · have hi : l.length < cur.size := by omega
    have hf' := run_firstCells_some (P := Tryd.prog) W i0.size 1 ad 1 c [u8v b] (by rw [hj1]; rfl) hnews
    have hst : (storeCells ((⟨g, 0, none⟩ : Addr).add l.length) [u8v b] 0).run Tryd.prog W = .ok () (W.setCell ⟨g, l.length, none⟩ (u8v b)) := by
      have hcell : W.cell? ⟨g, l.length, none⟩ = some cur[l.length] := by simp [World.cell?, hh, hi]
      have hfro := not_frozen hh hf hi
      rw [show (⟨g, 0, none⟩ : Addr).add l.length = ⟨g, l.length, none⟩ by unfold Addr.add; split <;> simp_all]
      have hst : (store ((⟨g, l.length, none⟩ : Addr).add 0) (u8v b)).run Tryd.prog W = .ok () (W.setCell ⟨g, l.length, none⟩ (u8v b)) := by
        rw [show (⟨g, l.length, none⟩ : Addr).add 0 = ⟨g, l.length, none⟩ by unfold Addr.add; split <;> simp_all]
        rw [run_store Tryd.prog W _ _ _ rfl, hcell]
        simp [hfro]
      simp only [storeCells, Sem.run_bind, hst, Result.andThen_ok, Sem.run_pure]
    refine ⟨.slice (some ⟨g, 0, none⟩) (l.length + 1) cap, W.setCell ⟨g, l.length, none⟩ (u8v b), ?_, ?_, (Below.refl F W).setCell hg _⟩
    · rw [hj1] at hf'
      simp [Builtin.append_, run_underlying Tryd.underlying57, sizeOf, typeInfo, hi0, hj1, Builtin.lenOf, hroom, hf', hst]
    · refine ⟨g, cap, _, fz, by simp, hg, set_heap hh _, by simpa using hf, by simpa using hroom, hcm, by simpa using hcs, fun i hi2 => ?_⟩
      by_cases e : i = l.length
      · subst e
        rw [Array.getElem?_setIfInBounds_self_of_lt hi]
        simp
      · have hil : i < l.length := by simp at hi2; omega
        rw [Array.getElem?_setIfInBounds_ne (by omega), hc i hil, List.getElem?_append_left hil]
  · obtain rfl : l.length = cap := by omega
    have hr := run_append_grow (P := Tryd.prog) W 57 ty 5 i0 (.int .u8 0) Tryd.underlying57 hi0 hj0 ⟨g, 0, none⟩ l.length l.length (l.map u8v) (by simp [hj1]) (fun j u hj => by
      have hjl : j < l.length := by have := (List.getElem?_eq_some_iff.1 hj).1; simpa using this
      rw [show (⟨g, 0, none⟩ : Addr).add j = ⟨g, j, none⟩ by unfold Addr.add; split <;> simp_all]
      unfold World.cell?
      simp only [hh]
      rw [hc j hjl, ← List.getElem?_map, hj]
      rfl) ad 1 c [u8v b] (by rw [hj1]; rfl) hnews (by omega) (by omega) (growslice_fits (by omega) (by rw [hj2]; omega))
    have hge := grownCap_ge W (l.length + 1) l.length 5
    have hcm' := grownCap_le_maxLen W (l.length + 1) l.length 5 (by unfold maxLen; omega)
    refine ⟨_, _, hr, ?_, ?_⟩
    · refine ⟨W.heap.size, _, _, (0, 0), by simp, hF, heap_alloc_new W.drew _, .inr rfl, by simpa using hge, hcm', ?_, fun i hi2 => ?_⟩
      · simp only [Array.size_append, List.size_toArray, size_zeroCells, List.length_map]
        show l.length + 1 + (grownCap W (l.length + 1) l.length 5 - (l.length + 1)) * 1 = _
        omega
      · simp at hi2
        rw [Array.getElem?_append_left (by simp; omega)]
        by_cases e : i = l.length
        · subst e
          simp
        · rw [Array.getElem?_append_left (by simp; omega), List.getElem?_append_left (by omega)]
          simp
    · exact ((Below.refl F W).drew).alloc hF _
theorem wpList_append_brow {ops : Array Oper} {rest : List Oper} {o : Oper} {a : Act} {Q : Exit → Act → World → Prop} {w : World} (hgd : o.guard = none) (s x : Operand)
    (ho : o.op = .call { callee := .builtin .append, args := #[s, x], argTypes := #[57, 57] }) {F : Nat} {v : Value} {l : List UInt8} (b : UInt8) (hs : a.eval s = v) (h : BRow w F v l)
    (ad : Addr) (c : Nat) (hx : a.eval x = .slice (some ad) 1 c) (hn : w.cell? (ad.add 0) = some (u8v b)) (hl : l.length + 1 ≤ 100000) (hF : F ≤ w.heap.size)
    (hk : ∀ v' w', BRow w' F v' (l ++ [b]) → Below F w w' → wpList Tryd.prog ops Q rest (a.put o.dst v') w') : wpList Tryd.prog ops Q (o :: rest) a w :=
  wpList_plain hgd fun K hK => by
    obtain ⟨v', w', hr, h2, h3⟩ := append_brow b h o.type ad c hn hl hF
    unfold Oper.wp execOp
    simp only [ho, resolve, invoke, builtin, Sem.run_bind, Sem.run_pure, Result.andThen_ok, List.map_toArray, List.map_cons, List.map_nil, hs, hx, hr]
    exact hK _ _ (hk v' w' h2 h3)
end Go.Proofs.YtcfplkbbgjiocaaDoor
