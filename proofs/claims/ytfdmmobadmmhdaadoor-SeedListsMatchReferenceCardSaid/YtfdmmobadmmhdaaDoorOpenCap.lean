/- Slices of integers that came in, with what their capacity is. No condition. -/
import Derived.Test.YtfdmmobadmmhdaaDoorSlices
import Derived.Test.YtfdmmobadmmhdaaDoorOwn
namespace Go.Proofs.YtfdmmobadmmhdaaDoor
open Go Go.ChangeShapes Go.WideShapes Go.ChangeAt Go.RowKit
variable {H : Type} {enc : TypeId × Value → H} {P : Program}
theorem ints_cells {W : World} {base : Nat} {spare : Nat → Bool} {held : Bool} {t e : TypeId} {cs : List Value} {x : DataW H × List MemPlace} {fuel : Nat}
    (ht : P.underlying t = some (.slice e)) (he : P.underlying e = some (.int .i64)) (hce : P.cellsOf e = 1) (hf : DataW.trod enc P W base spare held fuel t cs = some x) :
    ∃ p n c f, cs = [.slice p n c] ∧ IntsIn W p n f ∧ n ≤ c ∧ c ≤ maxLen := by
  rcases open_ints ht he hce hf with ⟨hcs, _⟩ | ⟨a, len', cap', zs, hcs, _, hl, hm, hz, _, hcell, hwz⟩
  · exact ⟨none, 0, 0, fun _ => 0, hcs, ⟨by decide, fun i hi => by omega, fun i hi => by omega⟩, by omega, by decide⟩
  · have hlz : len' ≤ zs.length := by rw [hz]; split <;> omega
    refine ⟨some a, len', cap', fun j => zs.getD j 0, hcs, ⟨by omega, fun i hi => ?_, fun i hi => ?_⟩, hl, hm⟩
    · obtain ⟨b, off, rfl, hb⟩ := plain_of_cell (hcell 0 (by omega))
      refine ⟨b, off, rfl, hb, fun j hj => ?_⟩
      have := hcell j (by omega)
      rwa [addr_add] at this
    · have hmem : zs.getD i 0 ∈ zs := by
        rw [List.getD_eq_getElem?_getD, List.getElem?_eq_getElem (by omega)]
        exact List.getElem_mem _
      exact bounds_i64 (hwz _ hmem)
theorem open_intsC {W : World} {base b0 : Nat} {r : Reach} {spare : Nat → Bool} {held : Bool} {t e : TypeId} {v : Value} {d : DataW H} {ps : List MemPlace}
    (ht : P.underlying t = some (.slice e)) (he : P.underlying e = some (.int .i64)) (hce : P.cellsOf e = 1)
    (hval : Value.okWide P W r b0 t v) (hd : DataW.Trod enc P W base spare held t v d ps) :
    ∃ p n c f, v = .slice p n c ∧ IntsIn W p n f ∧ n ≤ c ∧ c ≤ maxLen := by
  obtain ⟨a0, len, cap, rfl⟩ := okWide_slice ht hval
  obtain ⟨fuel, hf⟩ := hd
  obtain ⟨p, n, c, f, hcs, h⟩ := ints_cells ht he hce hf
  simp [Value.cells] at hcs
  obtain ⟨rfl, rfl, rfl⟩ := hcs
  exact ⟨_, _, _, f, rfl, h⟩
end Go.Proofs.YtfdmmobadmmhdaaDoor
