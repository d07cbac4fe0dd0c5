/- Package book: postings in memory, the ledger's box. No condition. -/
import Derived.Test.YtcfplkbbgjiocaaDoorBookUnits
import Derived.Laws.OwnMore
import Derived.RangeFuncBox
import Derived.Deep.RegionHeld
import Derived.Maps.AppendAt
import Derived.Laws.MakeOwn
namespace Go.Proofs.YtcfplkbbgjiocaaDoor
open Go Go.RowKit Go.Shelf
def fld (p : Pst) : Nat → Int
  | 0 => p.kind
  | 1 => p.day
  | 2 => p.deb
  | 3 => p.cre
  | 4 => p.amt
  | 5 => p.sub
  | _ => p.of
theorem Tryd.infoPosting : (Tryd.prog.info? 27).map (fun i => (i.zero, i.size, i.bytes)) = some (some (.agg #[.int .i64 0, .int .i64 0, .int .i64 0, .int .i64 0, .int .i64 0, .int .i64 0, .int .i64 0]), 7, 56) := by kernel_rfl
theorem infoP : ∃ i : TypeInfo, Tryd.prog.info? 27 = some i ∧ i.zero = some (.agg #[.int .i64 0, .int .i64 0, .int .i64 0, .int .i64 0, .int .i64 0, .int .i64 0, .int .i64 0]) ∧ i.size = 7 ∧ i.bytes = 56 := by
  have h := Tryd.infoPosting
  cases hi : Tryd.prog.info? 27 with
  | none => rw [hi] at h; cases h
  | some i =>
    rw [hi] at h
    simp at h
    exact ⟨i, rfl, h.1, h.2.1, h.2.2⟩
/-- Postings that can be read. -/
def ReadsP (W : World) (p : Option Addr) (n : Nat) (g : Nat → Pst) : Prop :=
  ∀ i, i < n → ∃ b off, p = some ⟨b, off, none⟩ ∧ ∀ j, j < n → ∀ c, c < 7 → W.cell? ⟨b, off + j * 7 + c, none⟩ = some (.int .i64 (fld (g j) c))
theorem cell_lt {W : World} {b o : Nat} {v : Value} (h : W.cell? ⟨b, o, none⟩ = some v) : b < W.heap.size := by
  unfold World.cell? at h
  cases hb : W.heap[b]? with
  | none => simp [hb] at h
  | some x => exact (Array.getElem?_eq_some_iff.1 hb).1
theorem ReadsP.below {W W' : World} {p : Option Addr} {n : Nat} {g : Nat → Pst} (h : ReadsP W p n g) (hb : Below W.heap.size W W') : ReadsP W' p n g := fun i hi => by
  obtain ⟨b, off, hp, hc⟩ := h i hi
  exact ⟨b, off, hp, fun j hj c hc' => (hb.cell (p := ⟨b, off + j * 7 + c, none⟩) (cell_lt (hc j hj c hc'))).trans (hc j hj c hc')⟩
theorem ReadsP.congr {W : World} {p : Option Addr} {n : Nat} {f g : Nat → Pst} (h : ReadsP W p n f) (e : ∀ i, i < n → f i = g i) : ReadsP W p n g := fun i hi => by
  obtain ⟨b, off, hp, hc⟩ := h i hi
  exact ⟨b, off, hp, fun j hj c hc' => by rw [hc j hj c hc', e j hj]⟩
theorem ReadsP.cut {W : World} {p : Option Addr} {n k : Nat} {g : Nat → Pst} (h : ReadsP W p n g) (hk : k ≤ n) : ReadsP W p k g := fun i hi => by
  obtain ⟨b, off, hp, hc⟩ := h i (by omega)
  exact ⟨b, off, hp, fun j hj => hc j (by omega)⟩
theorem Below_set {B : Nat} {w W : World} (h : Below B w W) {b i : Nat} (hb : B ≤ b) (v : Value) : Below B w (W.setCell ⟨b, i, none⟩ v) := h.setCell hb _
/-- The cells of one posting. -/
def PCells (W : World) (b o : Nat) (p : Pst) : Prop :=
  W.cell? ⟨b, o, none⟩ = some (.int .i64 p.kind) ∧ W.cell? ⟨b, o + 1, none⟩ = some (.int .i64 p.day) ∧ W.cell? ⟨b, o + 2, none⟩ = some (.int .i64 p.deb) ∧ W.cell? ⟨b, o + 3, none⟩ = some (.int .i64 p.cre) ∧
  W.cell? ⟨b, o + 4, none⟩ = some (.int .i64 p.amt) ∧ W.cell? ⟨b, o + 5, none⟩ = some (.int .i64 p.sub) ∧ W.cell? ⟨b, o + 6, none⟩ = some (.int .i64 p.of)
theorem pcells_of {W : World} {b o : Nat} {p : Pst} (h : ∀ c, c < 7 → W.cell? ⟨b, o + c, none⟩ = some (.int .i64 (fld p c))) : PCells W b o p :=
  ⟨h 0 (by omega), h 1 (by omega), h 2 (by omega), h 3 (by omega), h 4 (by omega), h 5 (by omega), h 6 (by omega)⟩
theorem PCells.below {W W' : World} {b o : Nat} {p : Pst} (h : PCells W b o p) (hb : Below W.heap.size W W') : PCells W' b o p := by
  have hl := cell_lt h.1
  obtain ⟨h0, h1, h2, h3, h4, h5, h6⟩ := h
  exact ⟨(hb.cell (p := ⟨b, o, none⟩) hl).trans h0, (hb.cell (p := ⟨b, o + 1, none⟩) hl).trans h1, (hb.cell (p := ⟨b, o + 2, none⟩) hl).trans h2, (hb.cell (p := ⟨b, o + 3, none⟩) hl).trans h3, (hb.cell (p := ⟨b, o + 4, none⟩) hl).trans h4, (hb.cell (p := ⟨b, o + 5, none⟩) hl).trans h5, (hb.cell (p := ⟨b, o + 6, none⟩) hl).trans h6⟩
theorem PCells.new (W : World) (p : Pst) (t : TypeId) : PCells (W.alloc (.cells p.cells t)) W.heap.size 0 p := by
  have h := World.alloc_heap_new W (.cells p.cells t)
  refine pcells_of fun c hc => ?_
  unfold World.cell?
  simp only [Nat.zero_add]
  rw [h]
  match c, hc with
  | 0, _ => rfl
  | 1, _ => rfl
  | 2, _ => rfl
  | 3, _ => rfl
  | 4, _ => rfl
  | 5, _ => rfl
  | 6, _ => rfl
theorem PCells.far {W : World} {b o B : Nat} {p : Pst} (h : PCells W b o p) (hne : B ≠ b) (i : Nat) (v : Value) : PCells (W.setCell ⟨B, i, none⟩ v).drew b o p := by
  have k : ∀ c, (W.setCell ⟨B, i, none⟩ v).drew.cell? ⟨b, c, none⟩ = W.cell? ⟨b, c, none⟩ := fun c => World.cell?_setCell_far W ⟨B, i, none⟩ ⟨b, c, none⟩ v hne
  obtain ⟨h0, h1, h2, h3, h4, h5, h6⟩ := h
  exact ⟨(k _).trans h0, (k _).trans h1, (k _).trans h2, (k _).trans h3, (k _).trans h4, (k _).trans h5, (k _).trans h6⟩
/-- The cells of a list of postings, one after the other. -/
def flatP (g : Nat → Pst) (n : Nat) : List Value := (List.range n).flatMap fun j => (g j).cells.toList
theorem flatP_succ (g : Nat → Pst) (n : Nat) : flatP g (n + 1) = flatP g n ++ (g n).cells.toList := by
  unfold flatP
  rw [List.range_succ, List.flatMap_append]
  simp
theorem flatP_length (g : Nat → Pst) : ∀ n, (flatP g n).length = n * 7
  | 0 => rfl
  | n + 1 => by rw [flatP_succ, List.length_append, flatP_length g n, Nat.succ_mul]; rfl
theorem flatP_get (g : Nat → Pst) : ∀ n j c, j < n → c < 7 → (flatP g n)[j * 7 + c]? = some (.int .i64 (fld (g j) c))
  | 0, j, c, hj, hc => by omega
  | n + 1, j, c, hj, hc => by
    rw [flatP_succ]
    by_cases h : j < n
    · rw [List.getElem?_append_left (by rw [flatP_length]; omega)]
      exact flatP_get g n j c h hc
    · obtain rfl : j = n := by omega
      rw [List.getElem?_append_right (by rw [flatP_length]; omega), flatP_length, Nat.add_sub_cancel_left]
      match c, hc with
      | 0, _ => rfl
      | 1, _ => rfl
      | 2, _ => rfl
      | 3, _ => rfl
      | 4, _ => rfl
      | 5, _ => rfl
      | 6, _ => rfl
theorem flatP_congr {f g : Nat → Pst} (n : Nat) (h : ∀ i, i < n → f i = g i) : flatP f n = flatP g n := by
  induction n with
  | zero => rfl
  | succ n ih => rw [flatP_succ, flatP_succ, ih (fun i hi => h i (by omega)), h n (by omega)]
theorem cells_one (p : Pst) : ∀ u ∈ p.cells.toList, u.oneCell' = true := by
  intro u hu
  simp [Pst.cells] at hu
  rcases hu with rfl | rfl | rfl | rfl | rfl | rfl | rfl <;> rfl
/-- A row of postings that the call owns can be read. -/
theorem own_readsP {W : World} {base n : Nat} {v : Value} {g : Nat → Pst} (h : W.ownsRow base 27 7 v n (flatP g n)) : ∃ p c, v = .slice p n c ∧ ReadsP W p n g ∧ (∀ a, p = some a → base ≤ a.block) := by
  have hn : v = .slice none 0 0 ∧ n = 0 ∨ ∃ G cap, v = .slice (some ⟨G, 0, none⟩) n cap := by
    rcases h.2 with ⟨h1, h2⟩ | ⟨G, cap, cur, h1, _⟩
    · exact .inl ⟨h1, h2⟩
    · exact .inr ⟨G, cap, h1⟩
  rcases hn with ⟨rfl, rfl⟩ | ⟨G, cap, rfl⟩
  · exact ⟨none, 0, rfl, fun i hi => by omega, nofun⟩
  · refine ⟨_, cap, rfl, fun i hi => ⟨G, 0, rfl, fun j hj c hc => ?_⟩, fun a ha => ?_⟩
    · rw [Nat.zero_add, h.cellAt (j * 7 + c) (by omega), flatP_get g n j c hj hc]
    · cases ha
      exact (h.lt G rfl).1
/-- A ledger in a box. -/
def LBox (W : World) (B : Nat) (teams : Int) (v : Value) (closed : Int) (bk : Nat → Bool) : Prop :=
  ∃ cs : Array Value, W.heap[B]? = some (.cells cs 74 (0, 0)) ∧ cs[0]? = some (.int .i64 teams) ∧ cs[1]? = some v ∧ cs[2]? = some (.int .i64 closed) ∧ ∀ i, i < 200 → cs[3 + i]? = some (.bool (bk i))
variable {W W' : World} {B : Nat} {teams closed : Int} {v : Value} {bk : Nat → Bool}
theorem LBox.lt (h : LBox W B teams v closed bk) : B < W.heap.size := by
  obtain ⟨cs, h, _⟩ := h
  exact (Array.getElem?_eq_some_iff.1 h).1
theorem LBox.cells (h : LBox W B teams v closed bk) : W.cell? ⟨B, 0, none⟩ = some (.int .i64 teams) ∧ W.cell? ⟨B, 1, none⟩ = some v ∧ W.cell? ⟨B, 2, none⟩ = some (.int .i64 closed) ∧ ∀ i, i < 200 → W.cell? ⟨B, 3 + i, none⟩ = some (.bool (bk i)) := by
  obtain ⟨cs, h, h0, h1, h2, h3⟩ := h
  unfold World.cell?
  simp only [h]
  exact ⟨h0, h1, h2, h3⟩
theorem LBox.free (h : LBox W B teams v closed bk) (i : Nat) : W.frozen? ⟨B, i, none⟩ = false := by
  obtain ⟨cs, h, _⟩ := h
  unfold World.frozen?
  rw [h]
  simp
theorem LBox.kept {row : Option Nat} (h : LBox W B teams v closed bk) (hg : W.grownBy W' row) (hne : some B ≠ row) : LBox W' B teams v closed bk := by
  have hl := h.lt
  obtain ⟨cs, h, hh⟩ := h
  exact ⟨cs, (hg.block B hl hne).trans h, hh⟩
theorem LBox.below (h : LBox W B teams v closed bk) (hb : Below W.heap.size W W') : LBox W' B teams v closed bk := by
  have hl := h.lt
  obtain ⟨cs, h, hh⟩ := h
  exact ⟨cs, (hb.block B hl).trans h, hh⟩
theorem LBox.congr {bk' : Nat → Bool} (h : LBox W B teams v closed bk) (e : ∀ i, i < 200 → bk' i = bk i) : LBox W B teams v closed bk' := by
  obtain ⟨cs, h, h0, h1, h2, h3⟩ := h
  exact ⟨cs, h, h0, h1, h2, fun i hi => by rw [h3 i hi, e i hi]⟩
theorem LBox.alloc (h : LBox W B teams v closed bk) (o : Obj) : LBox (W.alloc o) B teams v closed bk := h.kept (World.grownBy_alloc W o none) (by simp)
theorem LBox.drew (h : LBox W B teams v closed bk) : LBox W.drew B teams v closed bk := h
theorem LBox.other (h : LBox W B teams v closed bk) {b i : Nat} (hne : B ≠ b) (u : Value) : LBox (W.setCell ⟨b, i, none⟩ u) B teams v closed bk :=
  h.kept ⟨rfl, rfl, rfl, (KeepsWalks.setCell W _ u).size, fun k _ hk => Below.heap_setCell _ _ _ k (fun e => hk (by rw [e]))⟩ (by simpa using hne)
theorem heap_set {W : World} {B i : Nat} {cs : Array Value} {t : TypeId} (h : W.heap[B]? = some (.cells cs t (0, 0))) (u : Value) : (W.setCell ⟨B, i, none⟩ u).heap[B]? = some (.cells (cs.setIfInBounds i u) t (0, 0)) := by
  unfold World.setCell
  simp [Array.getElem?_modify, h]
theorem LBox.setV (h : LBox W B teams v closed bk) (u : Value) : LBox (W.setCell ⟨B, 1, none⟩ u) B teams u closed bk := by
  obtain ⟨cs, h, h0, h1, h2, h3⟩ := h
  have hl := (Array.getElem?_eq_some_iff.1 h1).1
  exact ⟨_, heap_set h u, by rw [Array.getElem?_setIfInBounds_ne (by omega)]; exact h0, by rw [Array.getElem?_setIfInBounds_self_of_lt hl], by rw [Array.getElem?_setIfInBounds_ne (by omega)]; exact h2, fun i hi => by rw [Array.getElem?_setIfInBounds_ne (by omega)]; exact h3 i hi⟩
theorem LBox.setC (h : LBox W B teams v closed bk) (x : Int) : LBox (W.setCell ⟨B, 2, none⟩ (.int .i64 x)) B teams v x bk := by
  obtain ⟨cs, h, h0, h1, h2, h3⟩ := h
  have hl := (Array.getElem?_eq_some_iff.1 h2).1
  exact ⟨_, heap_set h _, by rw [Array.getElem?_setIfInBounds_ne (by omega)]; exact h0, by rw [Array.getElem?_setIfInBounds_ne (by omega)]; exact h1, by rw [Array.getElem?_setIfInBounds_self_of_lt hl], fun i hi => by rw [Array.getElem?_setIfInBounds_ne (by omega)]; exact h3 i hi⟩
theorem LBox.setB (h : LBox W B teams v closed bk) (j : Nat) (hj : j < 200) (x : Bool) : LBox (W.setCell ⟨B, 3 + j, none⟩ (.bool x)) B teams v closed (fun i => if i = j then x else bk i) := by
  obtain ⟨cs, h, h0, h1, h2, h3⟩ := h
  have hl := (Array.getElem?_eq_some_iff.1 (h3 j hj)).1
  refine ⟨_, heap_set h _, by rw [Array.getElem?_setIfInBounds_ne (by omega)]; exact h0, by rw [Array.getElem?_setIfInBounds_ne (by omega)]; exact h1, by rw [Array.getElem?_setIfInBounds_ne (by omega)]; exact h2, fun i hi => ?_⟩
  by_cases e : i = j
  · subst e
    rw [Array.getElem?_setIfInBounds_self_of_lt hl]
    simp
  · rw [Array.getElem?_setIfInBounds_ne (by omega), h3 i hi]
    simp [e]
theorem ownP_below {W W' : World} {base e size n : Nat} {v : Value} {xs : List Value} (h : W.ownsRow base e size v n xs) (hb : Below W.heap.size W W') : W'.ownsRow base e size v n xs := by
  have hl := h.lt
  refine ⟨h.1, ?_⟩
  rcases h.2 with h2 | ⟨g, cap, cur, hv, hbg, hg, hh⟩
  · exact .inl h2
  · exact .inr ⟨g, cap, cur, hv, hbg, (hb.block g (Array.getElem?_eq_some_iff.1 hg).1).trans hg, hh⟩
theorem cells_new (W : World) (p : Pst) (t : TypeId) : ∀ j u, p.cells.toList[j]? = some u → (W.alloc (.cells p.cells t)).cell? ((⟨W.heap.size, 0, none⟩ : Addr).add j) = some u := fun j u hj => by
  have h := World.alloc_heap_new W (.cells p.cells t)
  rw [show (⟨W.heap.size, 0, none⟩ : Addr).add j = ⟨W.heap.size, j, none⟩ by unfold Addr.add; split <;> simp_all]
  unfold World.cell?
  rw [h]
  simpa using hj
end Go.Proofs.YtcfplkbbgjiocaaDoor
