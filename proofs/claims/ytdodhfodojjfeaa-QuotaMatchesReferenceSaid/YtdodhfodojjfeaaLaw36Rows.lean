/- A slice of slices of integers that came in, opened. No condition. -/
import Derived.Test.YtdodhfodojjfeaaLaw36Made
import Derived.Test.YtdodhfodojjfeaaFrame
namespace Go.Proofs.Ytdodhfodojjfeaa
open Go Go.ChangeShapes Go.WideShapes Go.ChangeAt Go.RowKit
variable {H : Type} {enc : TypeId × Value → H} {P : Program}
theorem open_rowsIn {W : World} {base b0 : Nat} {r : Reach} {held : Bool} {t e q : TypeId} {v : Value} {d : DataW H} {ps : List MemPlace}
    (ht : P.underlying t = some (.slice e)) (he : P.underlying e = some (.slice q)) (hq : P.underlying q = some (.int .i64)) (ce : P.cellsOf e = 1) (cq : P.cellsOf q = 1)
    (hval : Value.okWide P W r b0 t v) (hd : DataW.Trod enc P W base (fun _ => true) held t v d ps) :
    ∃ p m c A L C Z, v = .slice p m c ∧ RowsIn W p m A L C Z := by
  obtain ⟨a0, len, cap, rfl⟩ := okWide_slice ht hval
  obtain ⟨fuel, hf⟩ := hd
  rcases Go.Deep.open_int_rows ht he hq ce cq hf with ⟨hcs, _⟩ | ⟨a, len', cap', A, L, C, Z, hcs, _, hl, hm, _, hr⟩
  · simp [Value.cells] at hcs
    obtain ⟨rfl, rfl, rfl⟩ := hcs
    exact ⟨none, 0, 0, fun _ => none, fun _ => 0, fun _ => 0, fun _ _ => 0, rfl, ⟨by decide, fun i hi => by omega, fun i hi => by omega⟩⟩
  · simp [Value.cells] at hcs
    obtain ⟨rfl, rfl, rfl⟩ := hcs
    refine ⟨some a, len, cap, A, L, C, fun r j => (Z r).getD j 0, rfl, ⟨by omega, fun i hi => ?_, fun i hi => ?_⟩⟩
    · obtain ⟨b, off, rfl, hb⟩ := plain_of_cell (hr 0 (by omega)).1
      refine ⟨b, off, rfl, hb, fun j hj => ?_⟩
      have := (hr j (by omega)).1
      rwa [addr_add] at this
    · obtain ⟨h1, h2, h3, h4, h5, h6, h7⟩ := hr i (by omega)
      refine ⟨by omega, fun j hj => ?_, fun j hj => ?_⟩
      · cases hA : A i with
        | none => have := h6 hA; omega
        | some a' =>
          have h8 := (h7 a' hA).2
          obtain ⟨b, off, rfl, hb⟩ := plain_of_cell (h8 0 (by omega))
          refine ⟨b, off, rfl, hb, fun c hc => ?_⟩
          have := h8 c (by omega)
          rwa [addr_add] at this
      · have hmem : (Z i).getD j 0 ∈ Z i := by
          rw [List.getD_eq_getElem?_getD, List.getElem?_eq_getElem (by omega)]
          exact List.getElem_mem _
        exact bounds_i64 (h5 _ hmem)
end Go.Proofs.Ytdodhfodojjfeaa
