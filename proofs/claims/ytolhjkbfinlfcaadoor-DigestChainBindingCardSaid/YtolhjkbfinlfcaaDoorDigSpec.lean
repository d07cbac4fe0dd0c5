/- Trees of digests, on functions of the index. No program. -/
import Derived.Test.YtolhjkbfinlfcaaDoorDigJoin
namespace Go.Proofs.YtolhjkbfinlfcaaDoor
open Go Go.RowKit
/-- The greatest power of two below n. -/
def leftN (n : Nat) : Nat := 2 ^ Nat.log2 (n - 1)
theorem left_facts {n : Nat} (h : 2 ≤ n) : 1 ≤ leftN n ∧ leftN n < n ∧ n ≤ 2 * leftN n := by
  have h1 := Nat.log2_self_le (show n - 1 ≠ 0 by omega)
  have h2 := Nat.lt_log2_self (n := n - 1)
  have h3 : 1 ≤ 2 ^ Nat.log2 (n - 1) := Nat.one_le_two_pow
  unfold leftN
  rw [Nat.pow_succ] at h2
  omega
theorem left_unique {n j : Nat} (h1 : 2 ^ j < n) (h2 : n ≤ 2 * 2 ^ j) : leftN n = 2 ^ j := by
  have hp : 1 ≤ 2 ^ j := Nat.one_le_two_pow
  unfold leftN
  congr 1
  refine (Nat.log2_eq_iff (by omega)).2 ⟨by omega, ?_⟩
  rw [Nat.pow_succ]
  omega
theorem left_pow (e : Nat) : leftN (2 ^ (e + 1)) = 2 ^ e := by
  have hp : 1 ≤ 2 ^ e := Nat.one_le_two_pow
  exact left_unique (by rw [Nat.pow_succ]; omega) (by rw [Nat.pow_succ]; omega)
/-- The root of n entries from o on; f: fuel. -/
def rootG (F : Nat → ByteArray) : Nat → Nat → Nat → ByteArray
  | 0, _, _ => dS ⟨#[]⟩
  | f + 1, o, n => if n = 0 then dS ⟨#[]⟩ else if n = 1 then leafS (F o) else nodeS (rootG F f o (leftN n)) (rootG F f (o + leftN n) (n - leftN n))
theorem rootG_fuel (F : Nat → ByteArray) : ∀ (f g o n : Nat), n ≤ f → n ≤ g → rootG F f o n = rootG F g o n
  | 0, 0, _, _, _, _ => rfl
  | 0, g + 1, _, n, h, _ => by
    obtain rfl : n = 0 := by omega
    simp [rootG]
  | f + 1, 0, _, n, _, h => by
    obtain rfl : n = 0 := by omega
    simp [rootG]
  | f + 1, g + 1, o, n, h1, h2 => by
    unfold rootG
    split
    · rfl
    · split
      · rfl
      · have hl := left_facts (n := n) (by omega)
        rw [rootG_fuel F f g o (leftN n) (by omega) (by omega), rootG_fuel F f g (o + leftN n) (n - leftN n) (by omega) (by omega)]
def rootF (F : Nat → ByteArray) (o n : Nat) : ByteArray := rootG F n o n
theorem root_zero (F : Nat → ByteArray) (o : Nat) : rootF F o 0 = dS ⟨#[]⟩ := rfl
theorem root_one (F : Nat → ByteArray) (o : Nat) : rootF F o 1 = leafS (F o) := rfl
theorem root_two (F : Nat → ByteArray) (o : Nat) {n : Nat} (h : 2 ≤ n) : rootF F o n = nodeS (rootF F o (leftN n)) (rootF F (o + leftN n) (n - leftN n)) := by
  have hl := left_facts h
  obtain ⟨m, rfl⟩ : ∃ m, n = m + 1 := ⟨n - 1, by omega⟩
  unfold rootF
  rw [rootG, if_neg (by omega), if_neg (by omega), rootG_fuel F m (leftN (m + 1)) o (leftN (m + 1)) (by omega) (Nat.le_refl _), rootG_fuel F m (m + 1 - leftN (m + 1)) _ _ (by omega) (Nat.le_refl _)]
theorem root_size (F : Nat → ByteArray) (o n : Nat) : (rootF F o n).size = 32 := by
  rcases Nat.lt_or_ge n 2 with h | h
  · rcases (show n = 0 ∨ n = 1 by omega) with rfl | rfl <;> rfl
  · rw [root_two F o h]; rfl
theorem root_pow (F : Nat → ByteArray) (o e : Nat) : rootF F o (2 ^ (e + 1)) = nodeS (rootF F o (2 ^ e)) (rootF F (o + 2 ^ e) (2 ^ e)) := by
  have hp : 1 ≤ 2 ^ e := Nat.one_le_two_pow
  rw [root_two F o (by rw [Nat.pow_succ]; omega), left_pow, Nat.pow_succ, show 2 ^ e * 2 - 2 ^ e = 2 ^ e by omega]
theorem root_congr {F G : Nat → ByteArray} : ∀ (n o p : Nat), (∀ i, i < n → F (o + i) = G (p + i)) → rootF F o n = rootF G p n := by
  intro n
  induction n using Nat.strongRecOn with
  | ind n ih =>
    intro o p h
    rcases Nat.lt_or_ge n 2 with h2 | h2
    · rcases (show n = 0 ∨ n = 1 by omega) with rfl | rfl
      · rfl
      · rw [root_one, root_one]; have := h 0 (by omega); simp at this; rw [this]
    · have hl := left_facts h2
      rw [root_two F o h2, root_two G p h2, ih (leftN n) (by omega) o p (fun i hi => h i (by omega)), ih (n - leftN n) (by omega) (o + leftN n) (p + leftN n) (fun i hi => by rw [Nat.add_assoc, Nat.add_assoc]; exact h (leftN n + i) (by omega))]
/-- A stack of complete parts: exponents, from the bottom; they lie one behind the other from o on. -/
def stkLen : List Nat → Nat
  | [] => 0
  | e :: r => 2 ^ e + stkLen r
def stkRoots (F : Nat → ByteArray) : Nat → List Nat → List ByteArray
  | _, [] => []
  | o, e :: r => rootF F o (2 ^ e) :: stkRoots F (o + 2 ^ e) r
theorem stkRoots_length (F : Nat → ByteArray) : ∀ (o : Nat) (L : List Nat), (stkRoots F o L).length = L.length
  | _, [] => rfl
  | o, e :: r => by simp [stkRoots, stkRoots_length F _ r]
theorem stkLen_append : ∀ (L M : List Nat), stkLen (L ++ M) = stkLen L + stkLen M
  | [], M => by simp [stkLen]
  | e :: r, M => by simp [stkLen, stkLen_append r M, Nat.add_assoc]
theorem stkRoots_append (F : Nat → ByteArray) : ∀ (o : Nat) (L M : List Nat), stkRoots F o (L ++ M) = stkRoots F o L ++ stkRoots F (o + stkLen L) M
  | o, [], M => by simp [stkLen, stkRoots]
  | o, e :: r, M => by simp [stkLen, stkRoots, stkRoots_append F _ r M, Nat.add_assoc]
theorem stk_merge (F : Nat → ByteArray) (o e : Nat) (L : List Nat) : stkRoots F o (L ++ [e + 1]) = stkRoots F o L ++ [nodeS (rootF F (o + stkLen L) (2 ^ e)) (rootF F (o + stkLen L + 2 ^ e) (2 ^ e))] := by
  rw [stkRoots_append]
  simp only [stkRoots]
  rw [root_pow]
/-- Exponents that fall. -/
def Falls (L : List Nat) : Prop := L.Pairwise (fun a b => b < a)
theorem falls_len : ∀ (L : List Nat) (e : Nat), Falls (e :: L) → stkLen L < 2 ^ e
  | [], e, _ => by show 0 < 2 ^ e; exact Nat.one_le_two_pow
  | d :: r, e, h => by
    have h1 : d < e := by
      have := List.pairwise_cons.1 h
      exact this.1 d (by simp)
    have h2 := falls_len r d (List.pairwise_cons.1 h).2
    have h3 : 2 ^ (d + 1) ≤ 2 ^ e := Nat.pow_le_pow_right (by decide) h1
    rw [Nat.pow_succ] at h3
    simp only [stkLen]
    omega
/-- The roots of a stack, folded from the top. -/
def foldR : List ByteArray → ByteArray
  | [] => dS ⟨#[]⟩
  | [x] => x
  | x :: y :: r => nodeS x (foldR (y :: r))
theorem fold_root (F : Nat → ByteArray) : ∀ (o : Nat) (L : List Nat), Falls L → foldR (stkRoots F o L) = rootF F o (stkLen L)
  | _, [], _ => rfl
  | o, [e], _ => by show rootF F o (2 ^ e) = rootF F o (2 ^ e + 0); rw [Nat.add_zero]
  | o, e :: d :: r, h => by
    have h1 := falls_len (d :: r) e h
    have h2 := fold_root F (o + 2 ^ e) (d :: r) (List.pairwise_cons.1 h).2
    have hp : 1 ≤ 2 ^ d := Nat.one_le_two_pow
    have hl : 1 ≤ stkLen (d :: r) := by simp only [stkLen]; omega
    have hs : stkLen (e :: d :: r) = 2 ^ e + stkLen (d :: r) := rfl
    rw [hs, root_two F o (by have : 1 ≤ 2 ^ e := Nat.one_le_two_pow; omega), left_unique (j := e) (by omega) (by omega), Nat.add_sub_cancel_left, ← h2]
    rfl
/-- Folded from element j on, an accumulator for what lies above. -/
def foldB (R : List ByteArray) : Nat → ByteArray → ByteArray
  | 0, acc => acc
  | j + 1, acc => foldB R j (nodeS (R.getD j ⟨#[]⟩) acc)
theorem foldR_snoc2 : ∀ (R : List ByteArray) (x acc : ByteArray), foldR (R ++ [x, acc]) = foldR (R ++ [nodeS x acc])
  | [], _, _ => rfl
  | [y], _, _ => rfl
  | y :: z :: r, x, acc => by
    show nodeS y (foldR ((z :: r) ++ [x, acc])) = nodeS y (foldR ((z :: r) ++ [nodeS x acc]))
    rw [foldR_snoc2 (z :: r) x acc]
theorem foldB_eq (R : List ByteArray) : ∀ (j : Nat) (acc : ByteArray), j ≤ R.length → foldB R j acc = foldR (R.take j ++ [acc])
  | 0, acc, _ => by simp [foldB, foldR]
  | j + 1, acc, h => by
    have hj : j < R.length := by omega
    show foldB R j (nodeS (R.getD j ⟨#[]⟩) acc) = _
    rw [foldB_eq R j _ (by omega), List.take_succ_eq_append_getElem hj, List.append_assoc, List.getD_eq_getElem?_getD, List.getElem?_eq_getElem hj]
    exact (foldR_snoc2 _ _ _).symm
end Go.Proofs.YtolhjkbfinlfcaaDoor
