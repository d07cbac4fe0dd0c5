/- The arguments of the laws of chapter 27 opened. No condition. -/
import Derived.Test.YtcfplkbbgjiocaaDoorBookMade
import Derived.Test.YtcfplkbbgjiocaaDoorSlices
import Derived.Deep.Slices
namespace Go.Proofs.YtcfplkbbgjiocaaDoor
open Go Go.ChangeShapes Go.WideShapes Go.ChangeAt Go.RowKit
variable {H : Type} {enc : TypeId × Value → H} {P : Program}
/-- A list of cells that are integers of 64 bits. -/
def IntCells (k : Nat) (cs : List Value) : Prop := cs.length = k ∧ ∀ c, c < k → ∃ z : Int, cs[c]? = some (.int .i64 z) ∧ -9223372036854775808 ≤ z ∧ z ≤ 9223372036854775807
theorem take_one {cs : List Value} {i : Nat} {v : Value} (h : (cs.drop i).take 1 = [v]) : cs[i]? = some v := by
  have h2 := congrArg (fun l => l[0]?) h
  simpa using h2
theorem array_ints {W : World} {base : Nat} {spare : Nat → Bool} {held : Bool} {t q : TypeId} {n fuel : Nat} {cs : List Value} {x : DataW H × List MemPlace} (ht : P.underlying t = some (.array n q)) (hq : P.underlying q = some (.int .i64)) (cq : P.cellsOf q = 1) (ct : P.cellsOf t = n)
    (hf : DataW.trod enc P W base spare held fuel t cs = some x) : IntCells n cs := by
  obtain ⟨xs, m, _, _, hl, hxl, hx⟩ := DataW.trod_array ht hf
  refine ⟨by rw [hl, ct], fun i hi => ?_⟩
  have h1 := hx i hi
  rw [cq, Nat.mul_one, List.getElem?_eq_getElem (by omega)] at h1
  obtain ⟨z, hz, _, hw⟩ := DataW.trod_int hq h1
  exact ⟨z, take_one hz, bounds_i64 hw⟩
theorem struct_ints {W : World} {base : Nat} {spare : Nat → Bool} {held : Bool} {t q : TypeId} {n fuel : Nat} {fs : Array Field} {cs : List Value} {x : DataW H × List MemPlace} (ht : P.underlying t = some (.struct fs)) (hfs : ∀ i, i < n → ∃ f, fs[i]? = some f ∧ f.type = q ∧ f.offset = i) (hq : P.underlying q = some (.int .i64)) (cq : P.cellsOf q = 1) (ct : P.cellsOf t = n)
    (hf : DataW.trod enc P W base spare held fuel t cs = some x) : IntCells n cs := by
  obtain ⟨xs, m, _, _, hl, hxl, hx⟩ := DataW.trod_struct ht hf
  refine ⟨by rw [hl, ct], fun i hi => ?_⟩
  obtain ⟨f, h0, h1, h2⟩ := hfs i hi
  have hsz := (Array.getElem?_eq_some_iff.1 h0).1
  have h3 := hx i f h0
  rw [h1, h2, cq, List.getElem?_eq_getElem (by omega)] at h3
  obtain ⟨z, hz, _, hw⟩ := DataW.trod_int hq h3
  exact ⟨z, take_one hz, bounds_i64 hw⟩
theorem open_introws {W : World} {base : Nat} {spare : Nat → Bool} {held : Bool} {t e : TypeId} {k fuel : Nat} {cs : List Value} {x : DataW H × List MemPlace} (hk : 0 < k) (ht : P.underlying t = some (.slice e)) (ce : P.cellsOf e = k)
    (hel : ∀ (n : Nat) (cs : List Value) (x : DataW H × List MemPlace), DataW.trod enc P W base spare held n e cs = some x → IntCells k cs) (hf : DataW.trod enc P W base spare held fuel t cs = some x) :
    ∃ (p : Option Addr) (n c : Nat) (h : Nat → Nat → Int), cs = [.slice p n c] ∧ n ≤ c ∧ c ≤ maxLen ∧ (∀ i, i < n → ∃ b off, p = some ⟨b, off, none⟩ ∧ ∀ j, j < n → ∀ c, c < k → W.cell? ⟨b, off + j * k + c, none⟩ = some (.int .i64 (h j c))) ∧ ∀ i, i < n → ∀ c, c < k → -9223372036854775808 ≤ h i c ∧ h i c ≤ (9223372036854775807 : Int) := by
  rcases Go.Deep.open_slice ht hf with ⟨hcs, _⟩ | ⟨a, len, cap, m, nn, D, Pl, hcs, hb, hl, hm, hmm, _, hx⟩
  · exact ⟨none, 0, 0, fun _ _ => 0, hcs, by omega, by decide, fun i hi => by omega, fun i hi => by omega⟩
  · have hlm : len ≤ m := by rw [hmm]; split <;> omega
    have key : ∀ j, j < len → ∀ c, c < k → ∃ z : Int, W.cell? (a.add (j * k + c)) = some (.int .i64 z) ∧ -9223372036854775808 ≤ z ∧ z ≤ 9223372036854775807 := fun j hj c hc => by
      obtain ⟨cs', h1, h2⟩ := hx j (by omega)
      rw [ce] at h1
      obtain ⟨_, hlen, hcell⟩ := World.cells?_some h1
      obtain ⟨z, hz, hzb⟩ := (hel _ _ _ h2).2 c hc
      have h3 := hcell c (by omega)
      rw [Go.Deep.add_add, hz] at h3
      exact ⟨z, h3, hzb⟩
    refine ⟨some a, len, cap, fun j c => match W.cell? (a.add (j * k + c)) with | some (.int _ z) => z | _ => 0, hcs, hl, hm, fun i hi => ?_, fun i hi c hc => ?_⟩
    · obtain ⟨z, hz, _⟩ := key 0 (by omega) 0 hk
      rw [Nat.zero_mul] at hz
      obtain ⟨b, off, rfl, _⟩ := plain_of_cell hz
      refine ⟨b, off, rfl, fun j hj c hc => ?_⟩
      obtain ⟨z, hz, _⟩ := key j hj c hc
      simp only [hz]
      rwa [addr_add', ← Nat.add_assoc] at hz
    · obtain ⟨z, hz, hzb⟩ := key i hi c hc
      simp only [hz]
      exact hzb
theorem open_arrs {W : World} {base b0 : Nat} {r : Reach} {spare : Nat → Bool} {held : Bool} {t e q : TypeId} {v : Value} {d : DataW H} {ps : List MemPlace}
    (ht : P.underlying t = some (.slice e)) (he : P.underlying e = some (.array 5 q)) (hq : P.underlying q = some (.int .i64)) (ce : P.cellsOf e = 5) (cq : P.cellsOf q = 1)
    (hval : Value.okWide P W r b0 t v) (hd : DataW.Trod enc P W base spare held t v d ps) : ∃ p n c h, v = .slice p n c ∧ ArrsIn W p n h := by
  obtain ⟨a0, len, cap, rfl⟩ := okWide_slice ht hval
  obtain ⟨fuel, hf⟩ := hd
  obtain ⟨p, n, c, h, hcs, h1, h2, h3, h4⟩ := open_introws (by decide) ht ce (fun _ _ _ hx => array_ints he hq cq ce hx) hf
  simp [Value.cells] at hcs
  obtain ⟨rfl, rfl, rfl⟩ := hcs
  exact ⟨_, _, _, h, rfl, ⟨by omega, h3, h4⟩⟩
end Go.Proofs.YtcfplkbbgjiocaaDoor
namespace Go.Proofs.YtcfplkbbgjiocaaDoor
open Go Go.ChangeShapes Go.WideShapes Go.ChangeAt Go.RowKit
variable {H : Type} {enc : TypeId × Value → H} {P : Program}
theorem fields_of {fs : Array Field} {n : Nat} {ts : Array (TypeId × Nat)} (hfs : fs.map (fun f : Field => (f.type, f.offset)) = ts) (hn : ts.size = n) : ∀ (i : Nat) (t : TypeId) (o : Nat), ts[i]? = some (t, o) → ∃ f : Field, fs[i]? = some f ∧ f.type = t ∧ f.offset = o := fun i t o h => by
  subst hfs
  rw [Array.getElem?_map] at h
  cases hf : fs[i]? with
  | none => rw [hf] at h; cases h
  | some f =>
    rw [hf] at h
    simp at h
    exact ⟨f, rfl, h.1, h.2⟩
/-- A posting whose fields are given one after the other. -/
def pstOf (z : Nat → Int) : Pst := ⟨z 0, z 1, z 2, z 3, z 4, z 5, z 6⟩
theorem fld_pstOf (z : Nat → Int) : ∀ c, c < 7 → fld (pstOf z) c = z c := fun c hc => by
  match c, hc with
  | 0, _ => rfl
  | 1, _ => rfl
  | 2, _ => rfl
  | 3, _ => rfl
  | 4, _ => rfl
  | 5, _ => rfl
  | 6, _ => rfl
theorem post_fields {q : TypeId} {fs : Array Field} (hfs : fs.map (fun f : Field => (f.type, f.offset)) = #[(q, 0), (q, 1), (q, 2), (q, 3), (q, 4), (q, 5), (q, 6)]) : ∀ i, i < 7 → ∃ f : Field, fs[i]? = some f ∧ f.type = q ∧ f.offset = i := fun i hi => by
  refine fields_of hfs (n := 7) rfl i q i ?_
  match i, hi with
  | 0, _ => rfl
  | 1, _ => rfl
  | 2, _ => rfl
  | 3, _ => rfl
  | 4, _ => rfl
  | 5, _ => rfl
  | 6, _ => rfl
theorem open_post {W : World} {base b0 : Nat} {r : Reach} {spare : Nat → Bool} {held : Bool} {t q : TypeId} {fs : Array Field} {v : Value} {d : DataW H} {ps : List MemPlace}
    (ht : P.underlying t = some (.struct fs)) (hfs : fs.map (fun f : Field => (f.type, f.offset)) = #[(q, 0), (q, 1), (q, 2), (q, 3), (q, 4), (q, 5), (q, 6)]) (hq : P.underlying q = some (.int .i64)) (cq : P.cellsOf q = 1) (ct : P.cellsOf t = 7)
    (hval : Value.okWide P W r b0 t v) (hd : DataW.Trod enc P W base spare held t v d ps) : ∃ p : Pst, v = .agg p.cells ∧ ∀ c, c < 7 → -9223372036854775808 ≤ fld p c ∧ fld p c ≤ (9223372036854775807 : Int) := by
  simp only [Value.okWide, ht] at hval
  obtain ⟨cs, rfl, hsz, _⟩ := hval
  rw [ct] at hsz
  obtain ⟨c0, c1, c2, c3, c4, c5, c6, rfl⟩ : ∃ c0 c1 c2 c3 c4 c5 c6, cs = #[c0, c1, c2, c3, c4, c5, c6] := by
    obtain ⟨l⟩ := cs
    match l, hsz with
    | [c0, c1, c2, c3, c4, c5, c6], _ => exact ⟨c0, c1, c2, c3, c4, c5, c6, rfl⟩
  obtain ⟨fuel, hf⟩ := hd
  obtain ⟨_, hz⟩ := struct_ints ht (post_fields hfs) hq cq ct hf
  obtain ⟨z0, e0, k0⟩ := hz 0 (by omega)
  obtain ⟨z1, e1, k1⟩ := hz 1 (by omega)
  obtain ⟨z2, e2, k2⟩ := hz 2 (by omega)
  obtain ⟨z3, e3, k3⟩ := hz 3 (by omega)
  obtain ⟨z4, e4, k4⟩ := hz 4 (by omega)
  obtain ⟨z5, e5, k5⟩ := hz 5 (by omega)
  obtain ⟨z6, e6, k6⟩ := hz 6 (by omega)
  simp [Value.cells] at e0 e1 e2 e3 e4 e5 e6
  subst e0 e1 e2 e3 e4 e5 e6
  refine ⟨⟨z0, z1, z2, z3, z4, z5, z6⟩, rfl, fun c hc => ?_⟩
  match c, hc with
  | 0, _ => exact k0
  | 1, _ => exact k1
  | 2, _ => exact k2
  | 3, _ => exact k3
  | 4, _ => exact k4
  | 5, _ => exact k5
  | 6, _ => exact k6
theorem open_book {W : World} {base b0 : Nat} {r : Reach} {spare : Nat → Bool} {held : Bool} {t q ts tp : TypeId} {fs gs : Array Field} {v : Value} {d : DataW H} {ps : List MemPlace}
    (ht : P.underlying t = some (.struct fs)) (hfs : fs.map (fun f : Field => (f.type, f.offset)) = #[(q, 0), (ts, 1), (q, 2)]) (ct : P.cellsOf t = 3) (hs : P.underlying ts = some (.slice tp)) (cs' : P.cellsOf ts = 1)
    (hp : P.underlying tp = some (.struct gs)) (hgs : gs.map (fun f : Field => (f.type, f.offset)) = #[(q, 0), (q, 1), (q, 2), (q, 3), (q, 4), (q, 5), (q, 6)]) (hq : P.underlying q = some (.int .i64)) (cq : P.cellsOf q = 1) (cp : P.cellsOf tp = 7)
    (hval : Value.okWide P W r b0 t v) (hd : DataW.Trod enc P W base spare held t v d ps) : ∃ (x y : Int) (p : Option Addr) (n c : Nat) (g : Nat → Pst), v = .agg #[.int .i64 x, .slice p n c, .int .i64 y] ∧ ReadsP W p n g ∧ n ≤ c ∧ c ≤ maxLen := by
  simp only [Value.okWide, ht] at hval
  obtain ⟨cs, rfl, hsz, _⟩ := hval
  rw [ct] at hsz
  obtain ⟨c0, c1, c2, rfl⟩ : ∃ c0 c1 c2, cs = #[c0, c1, c2] := by
    obtain ⟨l⟩ := cs
    match l, hsz with
    | [c0, c1, c2], _ => exact ⟨c0, c1, c2, rfl⟩
  obtain ⟨fuel, hf⟩ := hd
  obtain ⟨xs, m, _, _, _, hl, hx⟩ := DataW.trod_struct ht hf
  have hsize : fs.size = 3 := by have := congrArg Array.size hfs; simpa using this
  have gt : ∀ i ty off, i < 3 → #[(q, 0), (ts, 1), (q, 2)][i]? = some (ty, off) → P.cellsOf ty = 1 → ∃ y, DataW.trod enc P W base spare held m ty (([c0, c1, c2].drop off).take 1) = some y := fun i ty off hi he hc => by
    obtain ⟨f, h0, h1, h2⟩ := fields_of hfs (n := 3) rfl i ty off he
    have h3 := hx i f h0
    rw [h1, h2, hc, List.getElem?_eq_getElem (by omega)] at h3
    exact ⟨_, h3⟩
  obtain ⟨y0, h0⟩ := gt 0 q 0 (by omega) rfl cq
  obtain ⟨y1, h1⟩ := gt 1 ts 1 (by omega) rfl cs'
  obtain ⟨y2, h2⟩ := gt 2 q 2 (by omega) rfl cq
  obtain ⟨x, hx0, _, _⟩ := DataW.trod_int hq h0
  obtain ⟨y, hy0, _, _⟩ := DataW.trod_int hq h2
  obtain ⟨p, n, c, h, hcs, hn, hc, hrd, _⟩ := open_introws (by decide) hs cp (fun _ _ _ hx => struct_ints hp (post_fields hgs) hq cq cp hx) h1
  simp at hx0 hy0 hcs
  subst hx0
  subst hy0
  subst hcs
  refine ⟨x, y, p, n, c, fun i => pstOf (h i), rfl, fun i hi => ?_, hn, hc⟩
  obtain ⟨b, off, hpa, hcl⟩ := hrd i hi
  exact ⟨b, off, hpa, fun j hj c hc => by rw [fld_pstOf _ c hc]; exact hcl j hj c hc⟩
end Go.Proofs.YtcfplkbbgjiocaaDoor
