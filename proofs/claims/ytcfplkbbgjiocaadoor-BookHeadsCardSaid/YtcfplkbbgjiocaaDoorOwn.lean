/- Bytes that a call owns, read as a string; boxes and owned rows under a store. No condition. -/
import Derived.RangeFuncNested
import Derived.WalkKit
import Derived.Laws.BytesArg
import Derived.Laws.IdiomStrings
import Derived.Laws.MakeOwn
import Derived.Laws.OwnMore
namespace Go.Proofs.YtcfplkbbgjiocaaDoor
open Go Go.RowKit
variable {P : Program}
/-- A byte as a value. -/
def u8v (b : UInt8) : Value := .int .u8 (b.toNat : Int)
theorem own_bytes_string {W : World} {base e : Nat} {v : Value} {l : List UInt8} (h : W.ownsRow base e 1 v l.length (l.map u8v))
    (src : TypeId) (hs : P.underlying src = some (.slice e)) (he : P.underlying e = some (.int .u8)) (dst : TypeId) (hd : P.underlying dst = some .string) :
    (convert src dst v).run P W = .ok (.string ⟨l.toArray⟩) W := by
  rcases h.2 with ⟨rfl, h0⟩ | ⟨g, cap, cur, rfl, hb, hh, _⟩
  · have : l = [] := List.eq_nil_of_length_eq_zero h0
    subst this
    exact run_convert_bytes_nil W src e hs he 0 0 dst hd
  · refine run_convert_bytes_back W src dst e ⟨g, 0, none⟩ cap l hs he hd fun j hj => ?_
    exact h.cells (g := g) rfl j _ (by simp [List.getElem?_eq_getElem hj, u8v])
/-- A box is kept by a store into another block. -/
theorem Boxed_other {W : World} {B B' : Nat} {t : TypeId} {v u : Value} (h : Boxed W B t v) (hne : B ≠ B') : Boxed (W.setCell ⟨B', 0, none⟩ u) B t v :=
  h.kept (grownBy_setCell' W B' u) (by simpa using hne)
/-- An owned row is kept by a store into a box of another type. -/
theorem ownsRow_box {W : World} {B base : Nat} {t e : TypeId} {size k : Nat} {x v u : Value} {xs : List Value} (h : W.ownsRow base e size v k xs) (hb : Boxed W B t x) (hte : t ≠ e) :
    (W.setCell ⟨B, 0, none⟩ u).ownsRow base e size v k xs :=
  h.kept (grownBy_setCell' W B u) (.inr (hb.not_row hte h).symm)
theorem Boxed_put {W : World} {B l : Nat} {t : TypeId} {v : Value} {o o' : Obj} (h : Boxed W B t v) (hl : W.heap[l]? = some o) (ho : o.isCells = false) : Boxed (W.putObj l o') B t v :=
  h.kept (grownBy_putObj' W l o') (fun e => by
    have e' : B = l := by simpa using e
    subst e'
    rw [show W.heap[B]? = _ from h] at hl; cases hl; cases ho)
theorem Below_put {W W' : World} {B l : Nat} {o : Obj} (h : Below B W W') (hl : B ≤ l) (hB : B ≤ W'.heap.size) : Below B W (W'.putObj l o) :=
  h.grown (grownBy_putObj' W' l o) hB (fun k e => by cases e; exact hl)
/-- Behind an append to a row of the call's own. -/
theorem own_grown_below {w wr w1 : World} {n₀ : Nat} {v : Value} {k e size : Nat} {xs : List Value} {o : Obj} (hn : n₀ ≤ wr.heap.size) (hB : Below n₀ w wr) (hr : wr.ownsRow n₀ e size v k xs) (hg : (wr.alloc o).grownBy w1 v.ownBlock) :
    Below n₀ w w1 :=
  (hB.alloc hn _).grown hg (by simp; omega) (fun j ej => (hr.lt j ej).1)
theorem u8v_snoc (pre : List UInt8) (b : UInt8) (x : Int) (h : (b.toNat : Int) = x) : (pre ++ [b]).map u8v = pre.map u8v ++ [.int .u8 x] := by
  subst h; simp [u8v]
/-- The cells of a made slice: zeros. -/
theorem made_one (z : Value) (hz : z.cells = #[z]) (n : Nat) : (madeCells z.cells (n * 1)).toList = List.replicate n z := by
  rw [hz]
  apply List.ext_getElem
  · simp [madeCells]
  · intro i h1 h2
    simp [madeCells, Nat.mod_one]
theorem made_u8 (n : Nat) : (madeCells (Value.int .u8 0).cells (n * 1)).toList = (List.replicate n (0 : UInt8)).map u8v := by
  rw [made_one _ rfl]; simp [u8v]
theorem addr_add (b o j : Nat) : (⟨b, o, none⟩ : Addr).add j = ⟨b, o + j, none⟩ := by
  unfold Addr.add; split <;> simp_all
theorem addr_add0 (b j : Nat) : (⟨b, 0, none⟩ : Addr).add j = ⟨b, j, none⟩ := by
  rw [addr_add, Nat.zero_add]
end Go.Proofs.YtcfplkbbgjiocaaDoor
