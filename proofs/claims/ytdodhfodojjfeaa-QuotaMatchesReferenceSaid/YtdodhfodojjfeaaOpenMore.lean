/- Slices that came in, with what their capacity is; a struct of three numbers and a slice. No condition. -/
import Derived.Test.YtdodhfodojjfeaaLaw36Rows
namespace Go.Proofs.Ytdodhfodojjfeaa
open Go Go.ChangeShapes Go.WideShapes Go.ChangeAt Go.RowKit
variable {H : Type} {enc : TypeId × Value → H} {P : Program}
theorem ints_cells {W : World} {base : Nat} {spare : Nat → Bool} {held : Bool} {t e : TypeId} {cs : List Value} {x : DataW H × List MemPlace} {fuel : Nat}
    (ht : P.underlying t = some (.slice e)) (he : P.underlying e = some (.int .i64)) (hce : P.cellsOf e = 1) (hf : DataW.trod enc P W base spare held fuel t cs = some x) :
    ∃ p n c f, cs = [.slice p n c] ∧ IntsIn W p n f ∧ n ≤ c ∧ c ≤ maxLen := by
  rcases open_ints ht he hce hf with ⟨hcs, _⟩ | ⟨a, len', cap', zs, hcs, _, hl, hm, hz, _, hcell, hwz⟩
  · exact ⟨none, 0, 0, fun _ => 0, hcs, ⟨by decide, fun i hi => by omega, fun i hi => by omega⟩, by omega, by decide⟩
  · have hlz : len' ≤ zs.length := by rw [hz]; split <;> omega
    refine ⟨some a, len', cap', fun j => zs.getD j 0, hcs, ⟨by omega, fun i hi => ?_, fun i hi => ?_⟩, hl, hm⟩
    · obtain ⟨b, off, rfl, hb⟩ := plain_of_cell (hcell 0 (by omega))
      refine ⟨b, off, rfl, hb, fun j hj => ?_⟩
      have := hcell j (by omega)
      rwa [addr_add] at this
    · have hmem : zs.getD i 0 ∈ zs := by
        rw [List.getD_eq_getElem?_getD, List.getElem?_eq_getElem (by omega)]
        exact List.getElem_mem _
      exact bounds_i64 (hwz _ hmem)
theorem open_intsC {W : World} {base b0 : Nat} {r : Reach} {spare : Nat → Bool} {held : Bool} {t e : TypeId} {v : Value} {d : DataW H} {ps : List MemPlace}
    (ht : P.underlying t = some (.slice e)) (he : P.underlying e = some (.int .i64)) (hce : P.cellsOf e = 1)
    (hval : Value.okWide P W r b0 t v) (hd : DataW.Trod enc P W base spare held t v d ps) :
    ∃ p n c f, v = .slice p n c ∧ IntsIn W p n f ∧ n ≤ c ∧ c ≤ maxLen := by
  obtain ⟨a0, len, cap, rfl⟩ := okWide_slice ht hval
  obtain ⟨fuel, hf⟩ := hd
  obtain ⟨p, n, c, f, hcs, h⟩ := ints_cells ht he hce hf
  simp [Value.cells] at hcs
  obtain ⟨rfl, rfl, rfl⟩ := hcs
  exact ⟨_, _, _, f, rfl, h⟩
theorem open_rowsC {W : World} {base b0 : Nat} {r : Reach} {held : Bool} {t e q : TypeId} {v : Value} {d : DataW H} {ps : List MemPlace}
    (ht : P.underlying t = some (.slice e)) (he : P.underlying e = some (.slice q)) (hq : P.underlying q = some (.int .i64)) (ce : P.cellsOf e = 1) (cq : P.cellsOf q = 1)
    (hval : Value.okWide P W r b0 t v) (hd : DataW.Trod enc P W base (fun _ => true) held t v d ps) :
    ∃ p m c A L C Z, v = .slice p m c ∧ RowsIn W p m A L C Z ∧ ∀ i, i < m → L i ≤ C i ∧ C i ≤ maxLen := by
  have hd' := hd
  obtain ⟨p, m, c, A, L, C, Z, rfl, hr⟩ := open_rowsIn ht he hq ce cq hval hd
  refine ⟨p, m, c, A, L, C, Z, rfl, hr, fun i hi => ?_⟩
  obtain ⟨fuel, hf⟩ := hd'
  rcases Go.Deep.open_int_rows ht he hq ce cq hf with ⟨hcs, _⟩ | ⟨a, len', cap', A', L', C', Z', hcs, _, hl, hm, _, hx⟩
  · simp [Value.cells] at hcs
    omega
  · simp [Value.cells] at hcs
    obtain ⟨rfl, rfl, rfl⟩ := hcs
    obtain ⟨b, off, hp, _, hc⟩ := hr.cell i hi
    cases hp
    have h1 := (hx i (by omega)).1
    rw [addr_add, hc i hi] at h1
    simp at h1
    obtain ⟨_, e1, e2⟩ := h1
    rw [e1, e2]
    exact ⟨(hx i (by omega)).2.1, (hx i (by omega)).2.2.1⟩
theorem open_quota {W : World} {base b0 : Nat} {r : Reach} {spare : Nat → Bool} {held : Bool} {t ti ts : TypeId} {fs : Array Field} {v : Value} {d : DataW H} {ps : List MemPlace}
    (ht : P.underlying t = some (.struct fs)) (hfs : fs.map (fun f => (f.type, f.offset)) = #[(ti, 0), (ti, 1), (ti, 2), (ts, 3)]) (hct : P.cellsOf t = 4)
    (hi : P.underlying ti = some (.int .i64)) (hs : P.underlying ts = some (.slice ti)) (ci : P.cellsOf ti = 1) (cs' : P.cellsOf ts = 1)
    (hval : Value.okWide P W r b0 t v) (hd : DataW.Trod enc P W base spare held t v d ps) :
    ∃ x y z p n c f, v = .agg #[.int .i64 x, .int .i64 y, .int .i64 z, .slice p n c] ∧ IntsIn W p n f ∧ n ≤ c ∧ c ≤ maxLen := by
  simp only [Value.okWide, ht] at hval
  obtain ⟨cs, rfl, hsz, _⟩ := hval
  rw [hct] at hsz
  obtain ⟨c0, c1, c2, c3, rfl⟩ : ∃ c0 c1 c2 c3, cs = #[c0, c1, c2, c3] := by
    obtain ⟨l⟩ := cs
    match l, hsz with
    | [c0, c1, c2, c3], _ => exact ⟨c0, c1, c2, c3, rfl⟩
  obtain ⟨fuel, hf⟩ := hd
  obtain ⟨xs, m, _, _, _, hl, hx⟩ := DataW.trod_struct ht hf
  have hsize : fs.size = 4 := by have := congrArg Array.size hfs; simpa using this
  have hget : ∀ i (h : i < 4), ((fs[i]'(by omega)).type, (fs[i]'(by omega)).offset) = #[(ti, 0), (ti, 1), (ti, 2), (ts, 3)][i]'(by simpa using h) := fun i h => by
    have := congrArg (fun a => a[i]?) hfs
    simp only [Array.getElem?_map] at this
    rw [Array.getElem?_eq_getElem (by omega), Array.getElem?_eq_getElem (by simpa using h)] at this
    simpa using this
  have g : ∀ i (h : i < 4) ty off, #[(ti, 0), (ti, 1), (ti, 2), (ts, 3)][i]? = some (ty, off) → P.cellsOf ty = 1 → ∃ y, DataW.trod enc P W base spare held m ty (([c0, c1, c2, c3].drop off).take 1) = some y := fun i h ty off he hc => by
    have h1 := hx i (fs[i]'(by omega)) (Array.getElem?_eq_getElem (by omega))
    have h2 := hget i h
    rw [Array.getElem?_eq_getElem (by simpa using h)] at he
    rw [Option.some.inj he] at h2
    have e1 : (fs[i]'(by omega)).type = ty := congrArg Prod.fst h2
    have e2 : (fs[i]'(by omega)).offset = off := congrArg Prod.snd h2
    rw [e1, e2, hc, List.getElem?_eq_getElem (by omega)] at h1
    exact ⟨_, h1⟩
  obtain ⟨y0, h0⟩ := g 0 (by omega) ti 0 rfl ci
  obtain ⟨y1, h1⟩ := g 1 (by omega) ti 1 rfl ci
  obtain ⟨y2, h2⟩ := g 2 (by omega) ti 2 rfl ci
  obtain ⟨y3, h3⟩ := g 3 (by omega) ts 3 rfl cs'
  obtain ⟨x, hx0, _, _⟩ := DataW.trod_int hi h0
  obtain ⟨y, hy0, _, _⟩ := DataW.trod_int hi h1
  obtain ⟨z, hz0, _, _⟩ := DataW.trod_int hi h2
  obtain ⟨p, n, c, f, hcs, h⟩ := ints_cells hs hi ci h3
  simp at hx0 hy0 hz0 hcs
  subst hx0
  subst hy0
  subst hz0
  subst hcs
  exact ⟨x, y, z, p, n, c, f, rfl, h⟩
end Go.Proofs.Ytdodhfodojjfeaa
