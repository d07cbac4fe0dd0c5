/- Chapter 27: the arguments of the laws: slices of arrays of five integers, postings, books. No condition. -/
import Derived.Test.YtcfplkbbgjiocaaBookMade
import Derived.Test.YtcfplkbbgjiocaaSlices
import Derived.Deep.Slices
namespace Go.Proofs.Ytcfplkbbgjiocaa
open Go Go.ChangeShapes Go.WideShapes Go.ChangeAt Go.RowKit
variable {H : Type} {enc : TypeId × Value → H} {P : Program}
/-- A list of cells that are integers of 64 bits. -/
def IntCells (k : Nat) (cs : List Value) : Prop := cs.length = k ∧ ∀ c, c < k → ∃ z : Int, cs[c]? = some (.int .i64 z) ∧ -9223372036854775808 ≤ z ∧ z ≤ 9223372036854775807
theorem take_one {cs : List Value} {i : Nat} {v : Value} (h : (cs.drop i).take 1 = [v]) : cs[i]? = some v := by
  have h2 := congrArg (fun l => l[0]?) h
  simpa using h2
theorem array_ints {W : World} {base : Nat} {spare : Nat → Bool} {held : Bool} {t q : TypeId} {n fuel : Nat} {cs : List Value} {x : DataW H × List MemPlace} (ht : P.underlying t = some (.array n q)) (hq : P.underlying q = some (.int .i64)) (cq : P.cellsOf q = 1) (ct : P.cellsOf t = n)
    (hf : DataW.trod enc P W base spare held fuel t cs = some x) : IntCells n cs := by
  obtain ⟨xs, m, _, _, hl, hxl, hx⟩ := DataW.trod_array ht hf
  refine ⟨by rw [hl, ct], fun i hi => ?_⟩
  have h1 := hx i hi
  rw [cq, Nat.mul_one, List.getElem?_eq_getElem (by omega)] at h1
  obtain ⟨z, hz, _, hw⟩ := DataW.trod_int hq h1
  exact ⟨z, take_one hz, bounds_i64 hw⟩
theorem struct_ints {W : World} {base : Nat} {spare : Nat → Bool} {held : Bool} {t q : TypeId} {n fuel : Nat} {fs : Array Field} {cs : List Value} {x : DataW H × List MemPlace} (ht : P.underlying t = some (.struct fs)) (hfs : ∀ i, i < n → ∃ f, fs[i]? = some f ∧ f.type = q ∧ f.offset = i) (hq : P.underlying q = some (.int .i64)) (cq : P.cellsOf q = 1) (ct : P.cellsOf t = n)
    (hf : DataW.trod enc P W base spare held fuel t cs = some x) : IntCells n cs := by
  obtain ⟨xs, m, _, _, hl, hxl, hx⟩ := DataW.trod_struct ht hf
  refine ⟨by rw [hl, ct], fun i hi => ?_⟩
  obtain ⟨f, h0, h1, h2⟩ := hfs i hi
  have hsz := (Array.getElem?_eq_some_iff.1 h0).1
  have h3 := hx i f h0
  rw [h1, h2, cq, List.getElem?_eq_getElem (by omega)] at h3
  obtain ⟨z, hz, _, hw⟩ := DataW.trod_int hq h3
  exact ⟨z, take_one hz, bounds_i64 hw⟩
theorem open_introws {W : World} {base : Nat} {spare : Nat → Bool} {held : Bool} {t e : TypeId} {k fuel : Nat} {cs : List Value} {x : DataW H × List MemPlace} (hk : 0 < k) (ht : P.underlying t = some (.slice e)) (ce : P.cellsOf e = k)
    (hel : ∀ (n : Nat) (cs : List Value) (x : DataW H × List MemPlace), DataW.trod enc P W base spare held n e cs = some x → IntCells k cs) (hf : DataW.trod enc P W base spare held fuel t cs = some x) :
    ∃ (p : Option Addr) (n c : Nat) (h : Nat → Nat → Int), cs = [.slice p n c] ∧ n ≤ c ∧ c ≤ maxLen ∧ (∀ i, i < n → ∃ b off, p = some ⟨b, off, none⟩ ∧ ∀ j, j < n → ∀ c, c < k → W.cell? ⟨b, off + j * k + c, none⟩ = some (.int .i64 (h j c))) ∧ ∀ i, i < n → ∀ c, c < k → -9223372036854775808 ≤ h i c ∧ h i c ≤ (9223372036854775807 : Int) := by
  rcases Go.Deep.open_slice ht hf with ⟨hcs, _⟩ | ⟨a, len, cap, m, nn, D, Pl, hcs, hb, hl, hm, hmm, _, hx⟩
  · exact ⟨none, 0, 0, fun _ _ => 0, hcs, by omega, by decide, fun i hi => by omega, fun i hi => by omega⟩
  · have hlm : len ≤ m := by rw [hmm]; split <;> omega
    have key : ∀ j, j < len → ∀ c, c < k → ∃ z : Int, W.cell? (a.add (j * k + c)) = some (.int .i64 z) ∧ -9223372036854775808 ≤ z ∧ z ≤ 9223372036854775807 := fun j hj c hc => by
      obtain ⟨cs', h1, h2⟩ := hx j (by omega)
      rw [ce] at h1
      obtain ⟨_, hlen, hcell⟩ := World.cells?_some h1
      obtain ⟨z, hz, hzb⟩ := (hel _ _ _ h2).2 c hc
      have h3 := hcell c (by omega)
      rw [Go.Deep.add_add, hz] at h3
      exact ⟨z, h3, hzb⟩
    refine ⟨some a, len, cap, fun j c => match W.cell? (a.add (j * k + c)) with | some (.int _ z) => z | _ => 0, hcs, hl, hm, fun i hi => ?_, fun i hi c hc => ?_⟩
    · obtain ⟨z, hz, _⟩ := key 0 (by omega) 0 hk
      rw [Nat.zero_mul] at hz
      obtain ⟨b, off, rfl, _⟩ := plain_of_cell hz
      refine ⟨b, off, rfl, fun j hj c hc => ?_⟩
      obtain ⟨z, hz, _⟩ := key j hj c hc
      simp only [hz]
      rwa [addr_add', ← Nat.add_assoc] at hz
    · obtain ⟨z, hz, hzb⟩ := key i hi c hc
      simp only [hz]
      exact hzb
theorem open_arrs {W : World} {base b0 : Nat} {r : Reach} {spare : Nat → Bool} {held : Bool} {t e q : TypeId} {v : Value} {d : DataW H} {ps : List MemPlace}
    (ht : P.underlying t = some (.slice e)) (he : P.underlying e = some (.array 5 q)) (hq : P.underlying q = some (.int .i64)) (ce : P.cellsOf e = 5) (cq : P.cellsOf q = 1)
    (hval : Value.okWide P W r b0 t v) (hd : DataW.Trod enc P W base spare held t v d ps) : ∃ p n c h, v = .slice p n c ∧ ArrsIn W p n h := by
  obtain ⟨a0, len, cap, rfl⟩ := okWide_slice ht hval
  obtain ⟨fuel, hf⟩ := hd
  obtain ⟨p, n, c, h, hcs, h1, h2, h3, h4⟩ := open_introws (by decide) ht ce (fun _ _ _ hx => array_ints he hq cq ce hx) hf
  simp [Value.cells] at hcs
  obtain ⟨rfl, rfl, rfl⟩ := hcs
  exact ⟨_, _, _, h, rfl, ⟨by omega, h3, h4⟩⟩
end Go.Proofs.Ytcfplkbbgjiocaa
