/- Trees of digests: proofs and extensions are accepted, and are short; what an accepted proof binds. No program. -/
import Derived.Test.YtolhjkbfinlfcaaDoorDigVerExt
namespace Go.Proofs.YtolhjkbfinlfcaaDoor
open Go Go.RowKit
theorem getS_lt {L M : List ByteArray} {j : Nat} (h : j < L.length) : getS (L ++ M) j = getS L j := by
  unfold getS
  rw [List.getD_eq_getElem?_getD, List.getElem?_append_left h, ← List.getD_eq_getElem?_getD]
theorem getS_snoc (L : List ByteArray) (x : ByteArray) : getS (L ++ [x]) L.length = x := by
  unfold getS
  simp
theorem getS_mem {L : List ByteArray} {j : Nat} (h : j < L.length) : getS L j ∈ L := by
  unfold getS
  rw [List.getD_eq_getElem?_getD, List.getElem?_eq_getElem h]
  exact List.getElem_mem h
theorem value_congr (s : ByteArray) {P Q : Nat → ByteArray} : ∀ (c n i : Nat), (∀ j, j < c → P j = Q j) → valueV s P c n i = valueV s Q c n i
  | 0, _, _, _ => rfl
  | c + 1, n, i, h => by
    rw [valueV, valueV, value_congr s c _ _ (fun j hj => h j (by omega)), value_congr s c (n - leftN n) _ (fun j hj => h j (by omega)), h c (by omega)]
theorem both_congr (old : ByteArray) {P Q : Nat → ByteArray} : ∀ (c m n : Nat) (wh : Bool), (∀ j, j < c → P j = Q j) → bothV old P c m n wh = bothV old Q c m n wh
  | 0, _, _, _, _ => rfl
  | c + 1, m, n, wh, h => by
    rw [bothV, bothV, both_congr old c _ _ wh (fun j hj => h j (by omega)), both_congr old c (m - leftN n) _ false (fun j hj => h j (by omega)), h c (by omega), h 0 (by omega)]
theorem value_proof (F : Nat → ByteArray) (n : Nat) : ∀ (o i : Nat), i < n → valueV (F (o + i)) (getS (proofF F o n i)) (proofF F o n i).length n i = some (rootF F o n) := by
  induction n using Nat.strongRecOn with
  | ind n ih =>
    intro o i hi
    by_cases h1 : n = 1
    · subst h1
      obtain rfl : i = 0 := by omega
      rw [proof_one F o 0 (Nat.le_refl _), root_one, Nat.add_zero]
      rfl
    · have h2 : 2 ≤ n := by omega
      have hl := left_facts h2
      rw [proof_two F o i h2, root_two F o h2]
      by_cases hk : i < leftN n
      · rw [if_pos hk, List.length_append, List.length_singleton, value_step _ _ _ _ h2, if_pos hk, getS_snoc, value_congr _ _ _ _ (fun j hj => getS_lt hj), ih (leftN n) (by omega) o i hk, decide_eq_false (by omega)]
        rfl
      · rw [if_neg hk, List.length_append, List.length_singleton, value_step _ _ _ _ h2, if_neg hk, getS_snoc, value_congr _ _ _ _ (fun j hj => getS_lt hj), show o + i = (o + leftN n) + (i - leftN n) by omega, ih (n - leftN n) (by omega) (o + leftN n) (i - leftN n) (by omega), decide_eq_true (by omega)]
        rfl
theorem value_len (s : ByteArray) (P F : Nat → ByteArray) (n : Nat) : ∀ (c o i : Nat), i < n → (valueV s P c n i = none ↔ c ≠ (proofF F o n i).length) := by
  induction n using Nat.strongRecOn with
  | ind n ih =>
    intro c o i hi
    by_cases h1 : n = 1
    · subst h1
      rw [proof_one F o i (Nat.le_refl _)]
      cases c with
      | zero => rw [valueV, if_pos (Nat.le_refl _)]; simp
      | succ c => rw [valueV, if_pos (Nat.le_refl _)]; simp
    · have h2 : 2 ≤ n := by omega
      have hl := left_facts h2
      rw [proof_two F o i h2]
      cases c with
      | zero =>
        rw [valueV, if_neg (by omega)]
        split <;> simp
      | succ c =>
        rw [value_step _ _ _ _ h2]
        by_cases hk : i < leftN n
        · rw [if_pos hk, if_pos hk, Option.map_eq_none_iff, ih (leftN n) (by omega) c o i hk, List.length_append]
          simp
        · rw [if_neg hk, if_neg hk, Option.map_eq_none_iff, ih (n - leftN n) (by omega) c (o + leftN n) (i - leftN n) (by omega), List.length_append]
          simp
theorem proof_mem (F : Nat → ByteArray) (n : Nat) : ∀ (o i : Nat) (x : ByteArray), x ∈ proofF F o n i → x.size = 32 := by
  induction n using Nat.strongRecOn with
  | ind n ih =>
    intro o i x hx
    by_cases h1 : n ≤ 1
    · rw [proof_one F o i h1] at hx
      cases hx
    · have h2 : 2 ≤ n := by omega
      have hl := left_facts h2
      rw [proof_two F o i h2] at hx
      split at hx
      · rcases List.mem_append.1 hx with h | h
        · exact ih (leftN n) (by omega) _ _ _ h
        · rw [List.mem_singleton.1 h, root_size]
      · rcases List.mem_append.1 hx with h | h
        · exact ih (n - leftN n) (by omega) _ _ _ h
        · rw [List.mem_singleton.1 h, root_size]
theorem left_half {n e : Nat} (h : 2 ≤ n) (he : n ≤ 2 ^ e) : ∃ d, e = d + 1 ∧ leftN n ≤ 2 ^ d ∧ n - leftN n ≤ 2 ^ d := by
  cases e with
  | zero => simp at he; omega
  | succ d =>
    refine ⟨d, rfl, ?_⟩
    have hl := left_facts h
    have h3 : leftN n ≤ 2 ^ d := by
      unfold leftN
      refine Nat.pow_le_pow_right (by decide) ?_
      have : Nat.log2 (n - 1) < d + 1 := (Nat.log2_lt (by omega)).2 (by omega)
      omega
    omega
theorem proof_short (F : Nat → ByteArray) (n : Nat) : ∀ (o i e : Nat), n ≤ 2 ^ e → (proofF F o n i).length ≤ e := by
  induction n using Nat.strongRecOn with
  | ind n ih =>
    intro o i e he
    by_cases h1 : n ≤ 1
    · rw [proof_one F o i h1]
      exact Nat.zero_le _
    · have h2 : 2 ≤ n := by omega
      have hl := left_facts h2
      obtain ⟨d, rfl, h3, h4⟩ := left_half h2 he
      rw [proof_two F o i h2]
      split
      · have := ih (leftN n) (by omega) o i d h3
        rw [List.length_append, List.length_singleton]
        omega
      · have := ih (n - leftN n) (by omega) (o + leftN n) (i - leftN n) d h4
        rw [List.length_append, List.length_singleton]
        omega
theorem ext_short (F : Nat → ByteArray) (n : Nat) : ∀ (o m e : Nat) (wh : Bool), 1 ≤ m → 1 ≤ n → n ≤ 2 ^ e → (extF F o n m wh).length ≤ e + 1 := by
  induction n using Nat.strongRecOn with
  | ind n ih =>
    intro o m e wh hm hn he
    by_cases h1 : n ≤ m
    · rw [ext_end F o wh hn h1]
      split <;> simp
    · have h2 : 2 ≤ n := by omega
      have hl := left_facts h2
      obtain ⟨d, rfl, h3, h4⟩ := left_half h2 he
      rw [ext_step F o wh hm (by omega)]
      split
      · have := ih (leftN n) (by omega) o m d wh hm (by omega) h3
        rw [List.length_append, List.length_singleton]
        omega
      · have := ih (n - leftN n) (by omega) (o + leftN n) (m - leftN n) d false (by omega) (by omega) h4
        rw [List.length_append, List.length_singleton]
        omega
theorem ext_mem (F : Nat → ByteArray) (n : Nat) : ∀ (o m : Nat) (wh : Bool) (x : ByteArray), 1 ≤ m → 1 ≤ n → x ∈ extF F o n m wh → x.size = 32 := by
  induction n using Nat.strongRecOn with
  | ind n ih =>
    intro o m wh x hm hn hx
    by_cases h1 : n ≤ m
    · rw [ext_end F o wh hn h1] at hx
      split at hx
      · cases hx
      · rw [List.mem_singleton.1 hx, root_size]
    · have hl := left_facts (n := n) (by omega)
      rw [ext_step F o wh hm (by omega)] at hx
      split at hx
      · rcases List.mem_append.1 hx with h | h
        · exact ih (leftN n) (by omega) _ _ _ _ hm (by omega) h
        · rw [List.mem_singleton.1 h, root_size]
      · rcases List.mem_append.1 hx with h | h
        · exact ih (n - leftN n) (by omega) _ _ _ _ (by omega) (by omega) h
        · rw [List.mem_singleton.1 h, root_size]
theorem left_same {m n : Nat} (h : leftN n < m) (h2 : m ≤ n) : leftN m = leftN n := by
  have hl := left_facts (n := n) (by have : 1 ≤ leftN n := Nat.one_le_two_pow; omega)
  exact left_unique (j := Nat.log2 (n - 1)) h (by show m ≤ 2 * leftN n; omega)
theorem both_ext (F : Nat → ByteArray) (n : Nat) : ∀ (o m : Nat) (wh : Bool) (old : ByteArray), 1 ≤ m → m ≤ n → (wh = true → old = rootF F o m) →
    bothV old (getS (extF F o n m wh)) (extF F o n m wh).length m n wh = some (rootF F o m, rootF F o n) := by
  induction n using Nat.strongRecOn with
  | ind n ih =>
    intro o m wh old hm hmn ho
    by_cases h1 : n ≤ m
    · obtain rfl : m = n := by omega
      rw [ext_end F o wh (by omega) h1]
      cases wh with
      | true =>
        rw [if_pos rfl]
        show (if m ≤ m then _ else _) = _
        rw [if_pos (Nat.le_refl _), if_pos rfl, ho rfl]
      | false =>
        rw [if_neg (by decide)]
        show (if m ≤ m then _ else _) = _
        rw [if_pos (Nat.le_refl _), if_neg (by decide), if_pos rfl]
        rfl
    · have h2 : 2 ≤ n := by omega
      have hl := left_facts h2
      rw [ext_step F o wh hm (by omega)]
      by_cases hk : m ≤ leftN n
      · rw [if_pos hk, List.length_append, List.length_singleton, both_step _ _ _ _ (by omega), if_pos hk, getS_snoc, both_congr _ _ _ _ _ (fun j hj => getS_lt hj), ih (leftN n) (by omega) o m wh old hm hk ho, decide_eq_false (by omega), root_two F o h2]
        rfl
      · rw [if_neg hk, List.length_append, List.length_singleton, both_step _ _ _ _ (by omega), if_neg hk, getS_snoc, both_congr _ _ _ _ _ (fun j hj => getS_lt hj), ih (n - leftN n) (by omega) (o + leftN n) (m - leftN n) false old (by omega) (by omega) (fun h => by cases h), decide_eq_true (by omega), root_two F o h2, root_two F o (show 2 ≤ m by omega), left_same (by omega) hmn]
        rfl
/-- The number of binary digits. -/
def binF (n : Nat) : Nat := if n = 0 then 0 else Nat.log2 n + 1
theorem bin_zero : binF 0 = 0 := rfl
theorem bin_half {n : Nat} (h : 0 < n) : binF n = binF (n / 2) + 1 := by
  unfold binF
  rw [if_neg (by omega), Nat.log2_def]
  by_cases h2 : 2 ≤ n
  · rw [if_pos h2, if_neg (by omega)]
  · obtain rfl : n = 1 := by omega
    rfl
theorem bin_pow (n : Nat) : n ≤ 2 ^ binF n := by
  unfold binF
  split
  · omega
  · exact Nat.le_of_lt Nat.lt_log2_self
theorem bin_pos {n : Nat} (h : 0 < n) : 1 ≤ binF n := by
  unfold binF
  rw [if_neg (by omega)]
  omega
theorem digs_of {L : List ByteArray} (h : ∀ x ∈ L, x.size = 32) : Digs L.length (getS L) := fun _ hi => h _ (getS_mem hi)
theorem proof_verified (F : Nat → ByteArray) (n i : Nat) (h : i < n) : VerifyOk (rootF F 0 n) (n : Nat) (i : Nat) (F i) (getS (proofF F 0 n i)) (proofF F 0 n i).length := by
  refine ⟨by omega, by omega, digs_of (proof_mem F n 0 i), ?_⟩
  have := value_proof F n 0 i h
  rw [Nat.zero_add] at this
  exact this
theorem verify_count {root s : ByteArray} {n i : Int} {P F : Nat → ByteArray} {c : Nat} (h : VerifyOk root n i s P c) : c = (proofF F 0 n.toNat i.toNat).length := by
  obtain ⟨h0, h1, _, h3⟩ := h
  refine Classical.byContradiction fun hc => ?_
  have := (value_len s P F n.toNat c 0 i.toNat (by omega)).2 hc
  rw [this] at h3
  cases h3
theorem ext_verified (F : Nat → ByteArray) (n : Nat) (m : Int) (h0 : 0 ≤ m) (h : m ≤ (n : Int)) : VerExtOk (rootF F 0 m.toNat) m (rootF F 0 n) (n : Nat) (getS (extR F n m)) (extR F n m).length := by
  have hsz : (rootF F 0 m.toNat).size = 32 ∧ (rootF F 0 n).size = 32 := ⟨root_size _ _ _, root_size _ _ _⟩
  by_cases hz : m = 0
  · subst hz
    have e : extR F n 0 = [] := by unfold extR; rw [if_neg (by omega)]
    rw [e]
    exact ⟨by omega, by omega, fun i hi => by simp at hi, hsz.1, hsz.2, by rw [if_pos rfl]; exact ⟨rfl, rfl⟩⟩
  · obtain ⟨k, rfl⟩ : ∃ k : Nat, m = (k : Nat) := ⟨m.toNat, by omega⟩
    have e : extR F n (k : Nat) = extF F 0 n k true := by unfold extR; rw [if_pos (by omega), Int.toNat_natCast]
    rw [e]
    refine ⟨by omega, by omega, digs_of (fun x hx => ext_mem F n 0 k true x (by omega) (by omega) hx), hsz.1, hsz.2, ?_⟩
    rw [if_neg hz]
    by_cases hn : (k : Int) = (n : Int)
    · obtain rfl : k = n := by omega
      rw [if_pos rfl, ext_end F 0 true (by omega) (Nat.le_refl _), if_pos rfl]
      exact ⟨rfl, by rw [Int.toNat_natCast]⟩
    · rw [if_neg hn, Int.toNat_natCast, Int.toNat_natCast]
      exact both_ext F n 0 k true _ (by omega) (by omega) (fun _ => rfl)
end Go.Proofs.YtolhjkbfinlfcaaDoor
