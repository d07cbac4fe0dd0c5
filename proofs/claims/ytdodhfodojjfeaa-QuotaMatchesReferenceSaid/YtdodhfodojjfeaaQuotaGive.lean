/- Dividing a capacity: one round of the division. No program. -/
import Derived.Test.YtdodhfodojjfeaaQuotaLaw
namespace Go.Proofs.Ytdodhfodojjfeaa
def give (d : Nat → Nat) (n t L s M k i : Nat) : Nat := min (d i) L + if posOf n t i < k ∧ L < d i ∧ cnt d n t L (posOf n t i) < M then s else 0
/-- Between two rounds of the division. -/
def DivMid (n : Nat) (d : Nat → Nat) (c t : Nat) (a : Nat → Nat) (cap : Nat) : Prop :=
  (∃ L, (∀ i, i < n → a i = min (d i) L) ∧ lev d n L + cap = c) ∨ (cap = 0 ∧ DivIs n d c t a)
/-- The least gap so far. -/
structure StepMid (d a : Nat → Nat) (q j s : Nat) : Prop where
  le : s ≤ q
  gap : ∀ i, i < j → a i < d i → s ≤ d i - a i
  pos : 1 ≤ q → 1 ≤ s
/-- What a round of the division asks. -/
structure GiveOk (d : Nat → Nat) (n t L s M cap : Nat) : Prop where
  pos : 1 ≤ s
  le : s * M ≤ cap
  all : s * M = cap ∨ cnt d n t L n ≤ M
  fits : ∀ i, i < n → L < d i → L + s ≤ d i
theorem give_zero (d : Nat → Nat) (n t L s M i : Nat) : give d n t L s M 0 i = min (d i) L := by
  unfold give; rw [if_neg (fun h => by omega)]; omega
variable {d : Nat → Nat} {n t L s M k cap : Nat}
theorem give_here (ht : t < n) (hk : k < n) : give d n t L s M k ((t + k) % n) = min (d ((t + k) % n)) L := by
  unfold give; rw [posOf_at ht hk, if_neg (fun h => by omega)]; omega
theorem give_step (ht : t < n) (hk : k < n) (i : Nat) (hi : i < n) :
    give d n t L s M (k + 1) i = if i = (t + k) % n then min (d ((t + k) % n)) L + (if L < d ((t + k) % n) ∧ cnt d n t L k < M then s else 0) else give d n t L s M k i := by
  by_cases e : i = (t + k) % n
  · subst e
    rw [if_pos rfl]
    unfold give
    rw [posOf_at ht hk]
    congr 1
    by_cases h : L < d ((t + k) % n) ∧ cnt d n t L k < M
    · rw [if_pos h, if_pos ⟨by omega, h⟩]
    · rw [if_neg h, if_neg (fun x => h x.2)]
  · rw [if_neg e]
    have hne : posOf n t i ≠ k := fun h => e (by rw [← h]; exact (at_posOf ht hi).symm)
    unfold give
    congr 1
    by_cases h : posOf n t i < k
    · by_cases h2 : L < d i ∧ cnt d n t L (posOf n t i) < M
      · rw [if_pos ⟨by omega, h2⟩, if_pos ⟨h, h2⟩]
      · rw [if_neg (fun x => h2 x.2), if_neg (fun x => h2 x.2)]
    · rw [if_neg (fun x => by omega), if_neg (fun x => h x.1)]
theorem cnt_open (hk : k < n) (ho : L < d ((t + k) % n)) : cnt d n t L k + 1 ≤ cnt d n t L n := by
  have h := cnt_mono d n t L (show k + 1 ≤ n by omega)
  simp only [cnt] at h
  rw [if_pos ho] at h; exact h
def capAt (d : Nat → Nat) (n t L s M cap k : Nat) : Nat := cap - s * min (cnt d n t L k) M
theorem capAt_le : capAt d n t L s M cap k ≤ cap := by unfold capAt; omega
theorem capAt_pos (h : GiveOk d n t L s M cap) (hk : k < n) (ho : L < d ((t + k) % n)) : 0 < capAt d n t L s M cap k ↔ cnt d n t L k < M := by
  have h1 := cnt_open hk ho
  unfold capAt
  by_cases hc : cnt d n t L k < M
  · rw [Nat.min_eq_left (by omega)]
    have h2 : s * (cnt d n t L k + 1) ≤ s * M := Nat.mul_le_mul_left s (by omega)
    rw [Nat.mul_succ] at h2
    have := h.le
    have := h.pos
    omega
  · rw [Nat.min_eq_right (by omega)]
    have := h.all
    omega
theorem capAt_give (h : GiveOk d n t L s M cap) (ho : L < d ((t + k) % n)) (hc : cnt d n t L k < M) : capAt d n t L s M cap (k + 1) + s = capAt d n t L s M cap k := by
  unfold capAt
  simp only [cnt]
  rw [if_pos ho, Nat.min_eq_left (by omega), Nat.min_eq_left (by omega), Nat.mul_succ]
  have h2 : s * (cnt d n t L k + 1) ≤ s * M := Nat.mul_le_mul_left s (by omega)
  rw [Nat.mul_succ] at h2
  have := h.le
  omega
theorem capAt_skip (h : ¬ (L < d ((t + k) % n) ∧ cnt d n t L k < M)) : capAt d n t L s M cap (k + 1) = capAt d n t L s M cap k := by
  unfold capAt
  simp only [cnt]
  by_cases ho : L < d ((t + k) % n)
  · have hc : ¬ cnt d n t L k < M := fun x => h ⟨ho, x⟩
    rw [Nat.min_eq_right (by omega), Nat.min_eq_right (by omega)]
  · rw [if_neg ho, Nat.add_zero]
theorem sumTo_mul (f : Nat → Nat) (s : Nat) : ∀ n, sumTo (fun i => s * f i) n = s * sumTo f n
  | 0 => rfl
  | n + 1 => by simp only [sumTo]; rw [sumTo_mul f s n, Nat.mul_add]
theorem lev_raise (hn : 0 < n) (hf : ∀ i, i < n → L < d i → L + s ≤ d i) : lev d n (L + s) = lev d n L + s * cnt d n t L n := by
  rw [cnt_all d n t L hn, ← sumTo_mul]
  unfold lev
  rw [← sumTo_add]
  refine sumTo_congr n fun i hi => ?_
  by_cases h : L < d i
  · have := hf i hi h
    rw [if_pos h]; omega
  · rw [if_neg h]; omega
/-- A round that gives each open tenant as much. -/
theorem mid_raise {c : Nat} (ht : t < n) (hf : ∀ i, i < n → L < d i → L + s ≤ d i) (hl : lev d n L + cap = c) (hs : s * cnt d n t L n ≤ cap) :
    DivMid n d c t (give d n t L s (cnt d n t L n) n) (capAt d n t L s (cnt d n t L n) cap n) := by
  refine .inl ⟨L + s, fun i hi => ?_, ?_⟩
  · unfold give
    by_cases h : L < d i
    · have h1 := hf i hi h
      have hp := posOf_lt (n := n) (t := t) (i := i) (by omega)
      have h2 := cnt_open (d := d) (t := t) (L := L) hp (by rw [at_posOf ht hi]; exact h)
      rw [if_pos ⟨hp, h, by omega⟩]; omega
    · rw [if_neg (fun x => h x.2.1)]; omega
  · rw [lev_raise (t := t) (by omega) hf]
    unfold capAt
    rw [Nat.min_self]; omega
/-- A round that gives one unit to the first ones. -/
theorem mid_last {c : Nat} (hn : 0 < n) (hl : lev d n L + cap = c) (hs : cap < cnt d n t L n) :
    DivMid n d c t (give d n t L 1 cap n) (capAt d n t L 1 cap cap n) := by
  refine .inr ⟨by unfold capAt; omega, .inr ⟨L, cap, hs, hl, fun i hi => ?_⟩⟩
  unfold give share extra
  congr 1
  have hp := posOf_lt (t := t) (i := i) hn
  by_cases h : L < d i ∧ cnt d n t L (posOf n t i) < cap
  · rw [if_pos h, if_pos ⟨hp, h⟩]
  · rw [if_neg h, if_neg (fun x => h x.2)]
/-- The end. -/
theorem mid_end {c : Nat} {a : Nat → Nat} (ht : t < n) (h : DivMid n d c t a cap) (he : cap = 0 ∨ ∀ i, i < n → ¬ a i < d i) : DivIs n d c t a := by
  rcases h with ⟨L, ha, hl⟩ | ⟨_, h⟩
  · by_cases ho : ∀ i, i < n → ¬ a i < d i
    · refine .inl ⟨?_, fun i hi => by have := ho i hi; have := ha i hi; omega⟩
      have : sumTo d n ≤ lev d n L := sumTo_le n fun i hi => by have := ho i hi; have := ha i hi; omega
      omega
    · have hc : cap = 0 := he.resolve_right ho
      have hpos : 0 < cnt d n t L n := by
        rcases Nat.eq_zero_or_pos (cnt d n t L n) with h0 | h0
        · exfalso
          apply ho
          intro i hi hlt
          have hp := posOf_lt (n := n) (t := t) (i := i) (by omega)
          have := cnt_open (d := d) (t := t) (L := L) hp (by rw [at_posOf ht hi]; have := ha i hi; omega)
          omega
        · exact h0
      refine .inr ⟨L, 0, hpos, ?_, fun i hi => ?_⟩
      · unfold lev at hl; omega
      · rw [ha i hi]
        unfold share extra
        rw [if_neg (fun x => by omega)]; omega
  · exact h
end Go.Proofs.Ytdodhfodojjfeaa
