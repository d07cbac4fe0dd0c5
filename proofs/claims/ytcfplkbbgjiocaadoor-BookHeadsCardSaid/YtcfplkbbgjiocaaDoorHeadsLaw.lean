/- An append of strings that can be read; the plain law of heads. Conditions: those of the theorems. -/
import Derived.Test.YtcfplkbbgjiocaaDoorRefColl
import Derived.Laws.OwnMore
namespace Go.Proofs.YtcfplkbbgjiocaaDoor
open Go Go.RowKit
def newsS (F : Nat → ByteArray) (m : Nat) : List Value := (List.range m).map fun i => strV (F i)
theorem newsS_eq (L : List ByteArray) : newsS (getS L) L.length = L.map strV := by
  unfold newsS
  apply List.ext_getElem
  · simp
  · intro i h1 h2
    have hi : i < L.length := by simpa using h2
    simp only [List.getElem_map, List.getElem_range]
    rw [getS, List.getD_eq_getElem?_getD, List.getElem?_eq_getElem hi]
    rfl
theorem reads_new (w : World) (x : ByteArray) (e : TypeId) : ReadsS (w.alloc (.cells #[.string x] e)) (some ⟨w.heap.size, 0, none⟩) 1 (fun _ => x) := fun i _ => ⟨w.heap.size, 0, rfl, fun j hj => by
  obtain rfl : j = 0 := by omega
  simp⟩
theorem reads_grown {w w' : World} {row : Option Nat} {B n : Nat} {F : Nat → ByteArray} (hg : w.grownBy w' row) (h : ReadsS w (some ⟨B, 0, none⟩) n F) (hne : some B ≠ row) : ReadsS w' (some ⟨B, 0, none⟩) n F := fun i hi => by
  obtain ⟨b, off, hp, hc⟩ := h i hi
  cases hp
  exact ⟨_, _, rfl, fun j hj => by
    have h1 := hc j hj
    rw [World.cell?_of_block (hg.block _ (cell_lt' h1) hne)]
    exact h1⟩
section
variable {P : Program} {w : World}
theorem run_append_reads (t ty e : TypeId) (base : Nat) (i : TypeInfo) (z : Value) (ht : P.underlying t = some (.slice e)) (hi : P.info? e = some i) (hz : i.zero = some z)
    (hsize : i.size = 1) (hby : i.bytes = 16) (hzs : z.cells.size = 1)
    (v : Value) (n : Nat) (xs : List Value) (hown : w.ownsRow base e 1 v n xs)
    (p : Option Addr) (m c : Nat) (F : Nat → ByteArray) (hr : ReadsS w p m F)
    (hn : n ≤ 100000) (hm : m ≤ 100000) (hbase : base ≤ w.heap.size) :
    ∃ v' w', (Builtin.append_ #[t, t] ty #[v, .slice p m c]).run P w = .ok v' w' ∧ w'.ownsRow base e 1 v' (n + m) (xs ++ newsS F m) ∧ w.grownBy w' v.ownBlock := by
  have h63 : n + m ≤ maxLen := by unfold maxLen; omega
  cases p with
  | none =>
    obtain rfl : m = 0 := by
      rcases Nat.eq_zero_or_pos m with h | h
      · exact h
      · obtain ⟨b, off, hp, _⟩ := hr 0 h
        cases hp
    refine ⟨v, w, ?_, ?_, ⟨rfl, rfl, rfl, Nat.le_refl _, fun _ _ _ => rfl⟩⟩
    · rcases hown.2 with ⟨rfl, rfl⟩ | ⟨g, cap, cur, rfl, _, _, hnc, _⟩
      · simp [Builtin.append_, run_underlying ht, sizeOf, typeInfo, hi, Builtin.lenOf, Builtin.firstCells]
      · simp [Builtin.append_, run_underlying ht, sizeOf, typeInfo, hi, Builtin.lenOf, Builtin.firstCells, hnc, storeCells]
    · simpa [newsS] using hown
  | some a =>
    obtain ⟨v', w', h1, h2, h3, _⟩ := run_append_own (P := P) w base t ty e i z 1 16 ht hi hz hsize hby hzs (by decide) v n xs hown a m c (newsS F m) (by simp [newsS]) (fun j u hu => by
      have hj : j < m := by have := (List.getElem?_eq_some_iff.1 hu).1; simpa [newsS] using this
      obtain ⟨b, off, hp, hc⟩ := hr j hj
      cases hp
      rw [addr_add, hc j hj]
      simp [newsS, List.getElem?_range hj] at hu
      rw [← hu]
      rfl) (fun u hu => by
      simp only [newsS, List.mem_map] at hu
      obtain ⟨k, _, rfl⟩ := hu
      rfl) h63 (by omega) hbase
    exact ⟨v', w', h1, h2, h3⟩
theorem wp_append_reads {o : Oper} {a : Act} {K : Act → World → Prop} {Q : Exit → Act → World → Prop} (s x : Operand) (t : TypeId)
    (ho : o.op = .call { callee := .builtin .append, args := #[s, x], argTypes := #[t, t] })
    (base : Nat) (e : TypeId) (i : TypeInfo) (z : Value) (ht : P.underlying t = some (.slice e)) (hi : P.info? e = some i) (hz : i.zero = some z)
    (hsize : i.size = 1) (hby : i.bytes = 16) (hzs : z.cells.size = 1)
    (v : Value) (n : Nat) (xs : List Value) (hs : a.eval s = v) (hown : w.ownsRow base e 1 v n xs)
    (p : Option Addr) (m c : Nat) (F : Nat → ByteArray) (hx : a.eval x = .slice p m c) (hr : ReadsS w p m F)
    (hn : n ≤ 100000) (hm : m ≤ 100000) (hbase : base ≤ w.heap.size)
    (h : ∀ v' w', w'.ownsRow base e 1 v' (n + m) (xs ++ newsS F m) → w.grownBy w' v.ownBlock → K (a.put o.dst v') w') : o.wp P a w K Q := by
  obtain ⟨v', w', hrun, h2, h3⟩ := run_append_reads t o.type e base i z ht hi hz hsize hby hzs v n xs hown p m c F hr hn hm hbase
  unfold Oper.wp execOp
  simp only [ho, resolve, invoke, builtin, Sem.run_bind, Sem.run_pure, Result.andThen_ok, List.map_toArray, List.map_cons, List.map_nil, hs, hx, hrun]
  exact h v' w' h2 h3
theorem wpList_append_reads {ops : Array Oper} {rest : List Oper} {o : Oper} {a : Act} {Q : Exit → Act → World → Prop} (hgd : o.guard = none) (s x : Operand) (t : TypeId)
    (ho : o.op = .call { callee := .builtin .append, args := #[s, x], argTypes := #[t, t] })
    (base : Nat) (e : TypeId) (i : TypeInfo) (z : Value) (ht : P.underlying t = some (.slice e)) (hi : P.info? e = some i) (hz : i.zero = some z)
    (hsize : i.size = 1) (hby : i.bytes = 16) (hzs : z.cells.size = 1)
    (v : Value) (n : Nat) (xs : List Value) (hs : a.eval s = v) (hown : w.ownsRow base e 1 v n xs)
    (p : Option Addr) (m c : Nat) (F : Nat → ByteArray) (hx : a.eval x = .slice p m c) (hr : ReadsS w p m F)
    (hn : n ≤ 100000) (hm : m ≤ 100000) (hbase : base ≤ w.heap.size)
    (h : ∀ v' w', w'.ownsRow base e 1 v' (n + m) (xs ++ newsS F m) → w.grownBy w' v.ownBlock → wpList P ops Q rest (a.put o.dst v') w') : wpList P ops Q (o :: rest) a w :=
  wpList_plain hgd fun _ hK => wp_append_reads s x t ho base e i z ht hi hz hsize hby hzs v n xs hs hown p m c F hx hr hn hm hbase fun v' w' h2 h3 => hK _ _ (h v' w' h2 h3)
end
def catF (n : Nat) (A B : Nat → ByteArray) : Nat → ByteArray := fun i => if i < n then A i else B (i - n)
theorem newsS_cat (A B : Nat → ByteArray) (n m : Nat) : newsS A n ++ newsS B m = (lsS (catF n A B) (n + m)).map strV := by
  unfold newsS lsS catF
  apply List.ext_getElem
  · simp
  · intro i h1 h2
    have hi : i < n + m := by simpa using h2
    by_cases h : i < n
    · rw [List.getElem_append_left (by simpa using h)]
      simp [h]
    · rw [List.getElem_append_right (by simpa using h)]
      simp [h]
theorem cat_reads {W : World} {base n m : Nat} {v : Value} {A B : Nat → ByteArray} (h : W.ownsRow base 9 1 v (0 + n + m) ([] ++ newsS A n ++ newsS B m)) : ∃ p c, v = .slice p (n + m) c ∧ ReadsS W p (n + m) (catF n A B) := by
  rw [Nat.zero_add, List.nil_append, newsS_cat] at h
  obtain ⟨p, c, e, _, hr⟩ := lsS_reads h
  exact ⟨p, c, e, hr⟩
theorem cat_left {n i : Nat} {A B : Nat → ByteArray} (h : i < n) : catF n A B i = A i := by unfold catF; rw [if_pos h]
theorem cat_right {n k : Nat} {A B : Nat → ByteArray} : catF n A B (n + k) = B k := by
  unfold catF
  rw [if_neg (by omega), Nat.add_sub_cancel_left]
theorem heads_law {nA nB : Nat} {gA gB : Nat → Pst} (hA : ∀ i, i < nA → EncOk (gA i)) (hB : ∀ i, i < nB → EncOk (gB i)) (e : headF (bookF gA) nA = headF (bookF gB) nB) :
    samePB nA nB gA gB = true ∨ collAB nA nB (chI (bookF gA)) (chI (bookF gB)) = true ∨ ∃ j, j < nA + nB ∧ dS (catF nA (chI (bookF gA)) (chI (bookF gB)) j) = zero32 := by
  rcases heads_equal (bookF gA) (bookF gB) nA nB e with ⟨rfl, h⟩ | ⟨i, k, h1, h2, h3, h4⟩ | ⟨i, h1, h2⟩ | ⟨k, h1, h2⟩
  · exact .inl (samePB_iff.2 ⟨rfl, fun i hi => fld_inj (hA i hi) (hB i hi) (h i hi)⟩)
  · exact .inr (.inl (collAB_true ⟨i, k, h1, h2, h3, h4⟩))
  · exact .inr (.inr ⟨i, by omega, by rw [cat_left h1]; exact h2⟩)
  · exact .inr (.inr ⟨nA + k, by omega, by rw [cat_right]; exact h2⟩)
theorem heads_same {nA nB : Nat} {gA gB : Nat → Pst} (h : samePB nA nB gA gB = true) : headF (bookF gA) nA = headF (bookF gB) nB := by
  obtain ⟨rfl, h2⟩ := samePB_iff.1 h
  exact headF_congr nA (fun i hi => by show encP (gA i) = encP (gB i); rw [h2 i hi])
theorem prefix_ok {teams closed : Int} {n k : Nat} {g : Nat → Pst} (h : BookOk teams closed n g) (hk : k ≤ n) : BookOk teams 0 k g :=
  ⟨⟨h.1.1, by unfold within; omega⟩, fun i hi => h.2 i (by omega)⟩
theorem catF_size {n : Nat} {A B : Nat → ByteArray} (hA : ∀ i, (A i).size ≤ 10000) (hB : ∀ i, (B i).size ≤ 10000) (i : Nat) : (catF n A B i).size ≤ 10000 := by
  unfold catF
  split
  · exact hA _
  · exact hB _
end Go.Proofs.YtcfplkbbgjiocaaDoor
