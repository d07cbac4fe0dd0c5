/- Sides of a way: rows of them; values of proofs. No condition; of the program the types alone. -/
import Derived.Test.YtolhjkbfinlfcaaDoorDigExt
namespace Go.Proofs.YtolhjkbfinlfcaaDoor
open Go Go.RowKit
theorem beq_dec (a b : ByteArray) : (a.toList == b.toList) = decide (a = b) := by
  by_cases h : a = b
  · subst h
    simp
  · rw [decide_eq_false h]
    refine beq_false_of_ne (fun e => h ?_)
    rw [ByteArray.toList_eq, ByteArray.toList_eq] at e
    exact ByteArray.ext (Array.toList_inj.1 e)
/-- The value of n, i and a proof, of which c elements are left. -/
def valueV (s : ByteArray) (P : Nat → ByteArray) : Nat → Nat → Nat → Option ByteArray
  | 0, n, _ => if n ≤ 1 then some (leafS s) else none
  | c + 1, n, i => if n ≤ 1 then none else if i < leftN n then (valueV s P c (leftN n) i).map (fun v => nodeS v (P c)) else (valueV s P c (n - leftN n) (i - leftN n)).map (fun v => nodeS (P c) v)
def VerifyOk (root : ByteArray) (n i : Int) (s : ByteArray) (P : Nat → ByteArray) (c : Nat) : Prop := 0 ≤ i ∧ i < n ∧ Digs c P ∧ valueV s P c n.toNat i.toNat = some root
instance (root : ByteArray) (n i : Int) (s : ByteArray) (P : Nat → ByteArray) (c : Nat) : Decidable (VerifyOk root n i s P c) := by unfold VerifyOk; infer_instance
def joinD (d : ByteArray × Bool) (v : ByteArray) : ByteArray := if d.2 = true then nodeS d.1 v else nodeS v d.1
theorem joinD_size (d : ByteArray × Bool) (v : ByteArray) : (joinD d v).size = 32 := by
  unfold joinD
  split <;> rfl
theorem value_step (s : ByteArray) (P : Nat → ByteArray) (c i : Nat) {n : Nat} (h : 2 ≤ n) : valueV s P (c + 1) n i = (if i < leftN n then valueV s P c (leftN n) i else valueV s P c (n - leftN n) (i - leftN n)).map (joinD (P c, decide (leftN n ≤ i))) := by
  rw [valueV, if_neg (by omega)]
  by_cases hi : i < leftN n
  · rw [if_pos hi, if_pos hi, decide_eq_false (by omega)]
    congr 1
  · rw [if_neg hi, if_neg hi, decide_eq_true (by omega)]
    congr 1
/-- Folded from element j on. -/
def foldD (W : List (ByteArray × Bool)) : Nat → ByteArray → ByteArray
  | 0, acc => acc
  | j + 1, acc => foldD W j (joinD (W.getD j (⟨#[]⟩, false)) acc)
theorem foldD_eq (W : List (ByteArray × Bool)) : ∀ (j : Nat) (acc : ByteArray), j ≤ W.length → foldD W j acc = (W.take j).foldr joinD acc
  | 0, _, _ => by simp [foldD]
  | j + 1, acc, h => by
    have hj : j < W.length := by omega
    show foldD W j (joinD (W.getD j (⟨#[]⟩, false)) acc) = _
    rw [foldD_eq W j _ (by omega), List.take_succ_eq_append_getElem hj, List.foldr_append, List.getD_eq_getElem?_getD, List.getElem?_eq_getElem hj]
    rfl
def sideC (d : ByteArray × Bool) : List Value := [.string d.1, .bool d.2]
def flatD (W : List (ByteArray × Bool)) : List Value := W.flatMap sideC
theorem flatD_length : ∀ W : List (ByteArray × Bool), (flatD W).length = 2 * W.length
  | [] => rfl
  | d :: r => by
    have h := flatD_length r
    simp only [flatD, List.flatMap_cons, List.length_append] at h ⊢
    rw [h]
    simp [sideC]
    omega
theorem flatD_at : ∀ (W : List (ByteArray × Bool)) (j : Nat), j < W.length → (flatD W)[j * 2]? = some (.string (W.getD j (⟨#[]⟩, false)).1) ∧ (flatD W)[j * 2 + 1]? = some (.bool (W.getD j (⟨#[]⟩, false)).2)
  | [], _, h => by simp at h
  | d :: r, 0, _ => ⟨rfl, rfl⟩
  | d :: r, j + 1, h => by
    have h1 := flatD_at r j (by simpa using h)
    have e : flatD (d :: r) = sideC d ++ flatD r := by simp [flatD]
    rw [e]
    refine ⟨?_, ?_⟩
    · rw [List.getElem?_append_right (by simp [sideC]; omega), show (j + 1) * 2 - (sideC d).length = j * 2 by simp [sideC]; omega]
      exact h1.1
    · rw [List.getElem?_append_right (by simp [sideC]; omega), show (j + 1) * 2 + 1 - (sideC d).length = j * 2 + 1 by simp [sideC]; omega]
      exact h1.2
theorem flatD_snoc (W : List (ByteArray × Bool)) (d : ByteArray × Bool) : flatD (W ++ [d]) = flatD W ++ [.string d.1, .bool d.2] := by simp [flatD, sideC]
theorem infoSide : ∃ i : TypeInfo, Tryd.prog.info? 58 = some i ∧ i.zero = some (.agg #[.string ⟨#[]⟩, .bool false]) ∧ i.size = 2 ∧ i.bytes = 24 := by
  have h : (Tryd.prog.info? 58).map (fun i => (i.zero, i.size, i.bytes)) = some (some (.agg #[.string ⟨#[]⟩, .bool false]), 2, 24) := by kernel_rfl
  cases hi : Tryd.prog.info? 58 with
  | none => rw [hi] at h; cases h
  | some i =>
    rw [hi] at h
    simp at h
    exact ⟨i, rfl, h.1, h.2.1, h.2.2⟩
theorem news_two (w : World) (x0 x1 : Value) (t : TypeId) : ∀ j u, [x0, x1][j]? = some u → (w.alloc (.cells #[x0, x1] t)).cell? ((⟨w.heap.size, 0, none⟩ : Addr).add j) = some u := by
  intro j u h
  have hj : j < 2 := by have := (List.getElem?_eq_some_iff.1 h).1; simpa using this
  rw [addr_add0]
  rcases (show j = 0 ∨ j = 1 by omega) with rfl | rfl <;> simpa using h
theorem own_readsD {W : World} {base : Nat} {v : Value} {L : List (ByteArray × Bool)} (h : W.ownsRow base 58 2 v L.length (flatD L)) : ∃ p c, v = .slice p L.length c ∧ ReadsD W p L.length (fun j => L.getD j (⟨#[]⟩, false)) := by
  cases hL : L with
  | nil =>
    rw [hL] at h
    obtain ⟨p, c, rfl⟩ := own_nil h
    exact ⟨p, c, rfl, fun i hi => by simp at hi⟩
  | cons x r =>
    rw [← hL]
    obtain ⟨m, hm⟩ : ∃ m, L.length = m + 1 := ⟨r.length, by rw [hL]; rfl⟩
    rw [hm] at h ⊢
    obtain ⟨g, cap, rfl⟩ := ownsRow_succ h
    refine ⟨_, _, rfl, fun i _ => ⟨g, 0, rfl, fun j hj => ?_⟩⟩
    have h1 := flatD_at L j (by omega)
    have h2 := h.cells (g := g) rfl _ _ h1.1
    have h3 := h.cells (g := g) rfl _ _ h1.2
    rw [addr_add0] at h2 h3
    rw [Nat.zero_add]
    exact ⟨h2, h3⟩
/-- The two values of m, n, a proof of which c elements are left, and whole. -/
def bothV (old : ByteArray) (P : Nat → ByteArray) : Nat → Nat → Nat → Bool → Option (ByteArray × ByteArray)
  | 0, m, n, wh => if n ≤ m then (if wh = true then some (old, old) else none) else none
  | c + 1, m, n, wh => if n ≤ m then (if wh = true then none else if c = 0 then some (P 0, P 0) else none) else
      if m ≤ leftN n then (bothV old P c m (leftN n) wh).map (fun v => (v.1, nodeS v.2 (P c))) else (bothV old P c (m - leftN n) (n - leftN n) false).map (fun v => (nodeS (P c) v.1, nodeS (P c) v.2))
def joinE (d : ByteArray × Bool) (v : ByteArray × ByteArray) : ByteArray × ByteArray := (if d.2 = true then joinD d v.1 else v.1, joinD d v.2)
theorem both_step (old : ByteArray) (P : Nat → ByteArray) (c : Nat) {m n : Nat} (wh : Bool) (h : m < n) : bothV old P (c + 1) m n wh = (if m ≤ leftN n then bothV old P c m (leftN n) wh else bothV old P c (m - leftN n) (n - leftN n) false).map (joinE (P c, decide (leftN n < m))) := by
  rw [bothV, if_neg (by omega)]
  by_cases hi : m ≤ leftN n
  · rw [if_pos hi, if_pos hi, decide_eq_false (by omega)]
    congr 1
  · rw [if_neg hi, if_neg hi, decide_eq_true (by omega)]
    congr 1
def foldE (W : List (ByteArray × Bool)) : Nat → ByteArray × ByteArray → ByteArray × ByteArray
  | 0, acc => acc
  | j + 1, acc => foldE W j (joinE (W.getD j (⟨#[]⟩, false)) acc)
theorem foldE_eq (W : List (ByteArray × Bool)) : ∀ (j : Nat) (acc : ByteArray × ByteArray), j ≤ W.length → foldE W j acc = (W.take j).foldr joinE acc
  | 0, _, _ => by simp [foldE]
  | j + 1, acc, h => by
    have hj : j < W.length := by omega
    show foldE W j (joinE (W.getD j (⟨#[]⟩, false)) acc) = _
    rw [foldE_eq W j _ (by omega), List.take_succ_eq_append_getElem hj, List.foldr_append, List.getD_eq_getElem?_getD, List.getElem?_eq_getElem hj]
    rfl
def VerExtOk (old : ByteArray) (m : Int) (root : ByteArray) (n : Int) (P : Nat → ByteArray) (c : Nat) : Prop :=
  0 ≤ m ∧ m ≤ n ∧ Digs c P ∧ old.size = 32 ∧ root.size = 32 ∧ (if m = 0 then c = 0 ∧ old = dS ⟨#[]⟩ else if m = n then c = 0 ∧ old = root else bothV old P c m.toNat n.toNat true = some (old, root))
instance (old : ByteArray) (m : Int) (root : ByteArray) (n : Int) (P : Nat → ByteArray) (c : Nat) : Decidable (VerExtOk old m root n P c) := by unfold VerExtOk; infer_instance
end Go.Proofs.YtolhjkbfinlfcaaDoor
