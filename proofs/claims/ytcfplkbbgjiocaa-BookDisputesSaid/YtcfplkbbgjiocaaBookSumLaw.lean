/- Chapter 27: what the balances of a valid book sum up to. No program. -/
import Derived.Test.YtcfplkbbgjiocaaBookSane
namespace Go.Proofs.Ytcfplkbbgjiocaa
open Go Go.RowKit Go.Shelf
def sumN (f : Nat → Int) : Nat → Int
  | 0 => 0
  | k + 1 => sumN f k + f k
theorem sumN_congr {f g : Nat → Int} : ∀ n, (∀ i, i < n → f i = g i) → sumN f n = sumN g n
  | 0, _ => rfl
  | n + 1, h => by unfold sumN; rw [sumN_congr n (fun i hi => h i (by omega)), h n (by omega)]
theorem sumN_add (f g : Nat → Int) : ∀ n, sumN (fun i => f i + g i) n = sumN f n + sumN g n
  | 0 => rfl
  | n + 1 => by unfold sumN; rw [sumN_add f g n]; omega
theorem sumN_zero : ∀ n, sumN (fun _ => 0) n = 0
  | 0 => rfl
  | n + 1 => by unfold sumN; rw [sumN_zero n]; rfl
theorem sumN_one (c : Nat) (a : Int) : ∀ n, sumN (fun i => if i = c then a else 0) n = if c < n then a else 0
  | 0 => rfl
  | n + 1 => by
    unfold sumN
    rw [sumN_one c a n]
    by_cases h1 : c < n
    · rw [if_pos h1, if_neg (by omega), if_pos (by omega)]; omega
    · rw [if_neg h1]
      by_cases h2 : n = c
      · rw [if_pos h2, if_pos (by omega)]; omega
      · rw [if_neg h2, if_neg (by omega)]; rfl
theorem sumN_bd {f : Nat → Int} {B : Int} : ∀ n, (∀ i, i < n → -B ≤ f i ∧ f i ≤ B) → -(n * B) ≤ sumN f n ∧ sumN f n ≤ n * B
  | 0, _ => by simp [sumN]
  | n + 1, h => by
    have h1 := sumN_bd n (fun i hi => h i (by omega))
    have h2 := h n (by omega)
    unfold sumN
    rw [show ((n + 1 : Nat) : Int) * B = n * B + B by rw [Int.natCast_add, Int.add_mul]; simp]
    omega
theorem eff_nat {p : Pst} {c d : Nat} (h1 : p.cre = (c : Int)) (h2 : p.deb = (d : Int)) (i : Nat) : eff p i = (if i = c then p.amt else 0) + (if i = d then -p.amt else 0) := by
  unfold eff
  rw [h1, h2]
  by_cases e1 : i = c <;> by_cases e2 : i = d
  · rw [if_pos (by omega), if_pos (by omega), if_pos e1, if_pos e2]; omega
  · rw [if_pos (by omega), if_neg (by omega), if_pos e1, if_neg e2]; omega
  · rw [if_neg (by omega), if_pos (by omega), if_neg e1, if_pos e2]; omega
  · rw [if_neg (by omega), if_neg (by omega), if_neg e1, if_neg e2]; omega
theorem eff_sum {p : Pst} {tn : Nat} (h : Formed p ((tn : Int) - 1)) (h4 : tn ≤ 4) : sumN (fun t : Nat => eff p t) tn = 0 := by
  obtain ⟨c, d, e1, e2, _, _, _, h8, h9, _⟩ := formed_teams h h4
  rw [sumN_congr tn (fun i _ => eff_nat e1 e2 i), sumN_add, sumN_one, sumN_one, if_pos h8, if_pos h9]
  omega
/-- All teams' balances sum up to zero. -/
theorem teams_zero {g : Nat → Pst} {tn : Nat} (d : Nat → Bool) (h4 : tn ≤ 4) : ∀ n, (∀ i, i < n → Formed (g i) ((tn : Int) - 1)) → sumN (fun t : Nat => sumD d g t n) tn = 0
  | 0, _ => sumN_zero tn
  | n + 1, h => by
    show sumN (fun t : Nat => sumD d g t n + if d n = true then eff (g n) t else 0) tn = 0
    rw [sumN_add, teams_zero d h4 n (fun i hi => h i (by omega))]
    by_cases e : d n = true
    · simp only [if_pos e]
      rw [eff_sum (h n (by omega)) h4]
      rfl
    · simp only [if_neg e]
      rw [sumN_zero]
      rfl
/-- All entries of a team. -/
def totF (g : Nat → Pst) (t : Int) (n : Nat) : Int := sumD (fun _ => true) g t n
theorem months_all {g : Nat → Pst} {top t : Int} : ∀ n, (∀ i, i < n → Formed (g i) top) → sumN (fun m : Nat => balF g m t n) 12 = totF g t n
  | 0, _ => sumN_zero 12
  | n + 1, h => by
    have hd := (h n (by omega)).1
    unfold within at hd
    show sumN (fun m : Nat => balF g m t n + if (g n).day / 30 = (m : Int) then eff (g n) t else 0) 12 = totF g t n + if true = true then eff (g n) t else 0
    rw [sumN_add, months_all n (fun i hi => h i (by omega)), if_pos rfl]
    congr 1
    have e : ∀ m : Nat, (if (g n).day / 30 = (m : Int) then eff (g n) t else 0) = if m = ((g n).day / 30).toNat then eff (g n) t else 0 := fun m => by
      by_cases hm : (g n).day / 30 = (m : Int)
      · rw [if_pos hm, if_pos (by omega)]
      · rw [if_neg hm, if_neg (by omega)]
    rw [sumN_congr 12 (fun m _ => e m), sumN_one, if_pos (by omega)]
theorem sumD_congr {d d' : Nat → Bool} {g : Nat → Pst} {t : Int} : ∀ n, (∀ i, i < n → d i = d' i) → sumD d g t n = sumD d' g t n
  | 0, _ => rfl
  | n + 1, h => by unfold sumD; rw [sumD_congr n (fun i hi => h i (by omega)), h n (by omega)]
/-- What stands, of any subject. -/
def stD (g : Nat → Pst) (n : Nat) : Nat → Bool := fun j => decide ((g j).kind = 1 ∧ bkOf g n j = false)
theorem subjects_all {g : Nat → Pst} {top t : Int} (N : Nat) : ∀ n, (∀ i, i < n → Formed (g i) top ∧ (g i).sub ≤ 5) → sumN (fun k : Nat => sumD (owedD g N k) g t n) 6 = sumD (stD g N) g t n
  | 0, _ => sumN_zero 6
  | n + 1, h => by
    have hd := (h n (by omega)).1.2.2.2.2.2.1
    have h5 := (h n (by omega)).2
    unfold within at hd
    show sumN (fun k : Nat => sumD (owedD g N k) g t n + if owedD g N k n = true then eff (g n) t else 0) 6 = sumD (stD g N) g t n + if stD g N n = true then eff (g n) t else 0
    rw [sumN_add, subjects_all N n (fun i hi => h i (by omega))]
    congr 1
    by_cases hs : stD g N n = true
    · rw [if_pos hs]
      have hs' := of_decide_eq_true hs
      have e : ∀ k : Nat, (if owedD g N k n = true then eff (g n) t else 0) = if k = ((g n).sub).toNat then eff (g n) t else 0 := fun k => by
        by_cases hk : (g n).sub = (k : Int)
        · rw [if_pos (by unfold owedD; exact decide_eq_true ⟨hs'.1, hk, hs'.2⟩), if_pos (by omega)]
        · rw [if_neg (fun x => hk (of_decide_eq_true x).2.1), if_neg (by omega)]
      rw [sumN_congr 6 (fun k _ => e k), sumN_one, if_pos (by omega)]
    · rw [if_neg hs]
      rw [sumN_congr 6 (g := fun _ => 0) (fun k _ => if_neg (fun x => hs (decide_eq_true ⟨(of_decide_eq_true x).1, (of_decide_eq_true x).2.2⟩)))]
      exact sumN_zero 6
theorem sumD_drop {d d' : Nat → Bool} {g : Nat → Pst} {t : Int} {j : Nat} : ∀ m, (∀ i, i < m → i ≠ j → d' i = d i) → d j = true → d' j = false → j < m → sumD d' g t m = sumD d g t m - eff (g j) t
  | 0, _, _, _, h => by omega
  | m + 1, h, h1, h2, hj => by
    unfold sumD
    by_cases e : m = j
    · subst e
      rw [sumD_congr m (fun i hi => h i (by omega) (by omega)), h1, h2, if_pos rfl, if_neg (by simp)]
      omega
    · rw [sumD_drop m (fun i hi hne => h i (by omega) hne) h1 h2 (by omega), h m (by omega) e]
      omega
theorem bkOf_late {g : Nat → Pst} {top : Int} {n : Nat} (h : ∀ i, i < n → TakesOk g i (bkOf g i) top (g i)) : ∀ m j, m ≤ n → m ≤ j → bkOf g m j = false
  | 0, _, _, _ => rfl
  | m + 1, j, hm, hj => by
    show bkNext (bkOf g m) (g m) j = false
    unfold bkNext
    rw [if_neg (fun e => by
      have h2 := ((h m (by omega)).2.2.2 e.1).1
      have := (h m (by omega)).2.1.2.2.2.2.2.2
      unfold within at this
      omega)]
    exact bkOf_late h m j (by omega) (by omega)
/-- What stands is all that was booked. -/
theorem stands_all {g : Nat → Pst} {top t : Int} {n : Nat} (h : ∀ i, i < n → TakesOk g i (bkOf g i) top (g i)) : ∀ m, m ≤ n → sumD (stD g m) g t m = totF g t m
  | 0, _ => rfl
  | m + 1, hm => by
    have ih := stands_all (t := t) h m (by omega)
    have hT := h m (by omega)
    have hf := hT.2.1.2.2.2.2.2.2
    unfold within at hf
    show sumD (stD g (m + 1)) g t m + (if stD g (m + 1) m = true then eff (g m) t else 0) = totF g t m + (if true = true then eff (g m) t else 0)
    rw [if_pos rfl]
    rcases hf with ⟨hk, _⟩ | ⟨hk, ho1, _⟩
    · have hb : ∀ j, bkOf g (m + 1) j = bkOf g m j := fun j => by
        show bkNext (bkOf g m) (g m) j = _
        unfold bkNext
        rw [if_neg (fun e => by omega)]
      rw [sumD_congr (d' := stD g m) m (fun i _ => by unfold stD; rw [hb i]), ih, if_pos (by unfold stD; exact decide_eq_true ⟨hk, by rw [hb m]; exact bkOf_late h m m (by omega) (Nat.le_refl _)⟩)]
    · obtain ⟨h1, h2, h3⟩ := hT.2.2.2 hk
      obtain ⟨j, hj⟩ : ∃ j : Nat, (g m).of = (j : Int) := ⟨(g m).of.toNat, by omega⟩
      rw [hj, Int.toNat_natCast] at h2 h3
      rw [hj] at h1
      have hb : ∀ i, bkOf g (m + 1) i = if i = j then true else bkOf g m i := fun i => by
        show bkNext (bkOf g m) (g m) i = _
        unfold bkNext
        rw [hj, Int.toNat_natCast]
        by_cases e : i = j
        · rw [if_pos ⟨hk, e⟩, if_pos e]
        · rw [if_neg (fun x => e x.2), if_neg e]
      have h0 : stD g m j = true := by unfold stD; exact decide_eq_true ⟨h3.1, h2⟩
      have h0' : stD g (m + 1) j = false := by unfold stD; rw [hb j, if_pos rfl]; simp
      rw [sumD_drop (d := stD g m) (d' := stD g (m + 1)) (j := j) m (fun i _ hne => by unfold stD; rw [hb i, if_neg hne]) h0 h0' (by omega), ih, if_neg (by unfold stD; rw [decide_eq_true_iff]; omega)]
      have he : eff (g m) t = - eff (g j) t := by
        obtain ⟨_, e1, e2, e3, _⟩ := h3
        unfold eff
        rw [e1, e2, e3]
        split <;> split <;> omega
      rw [he]
      omega
theorem owed_all {tn n : Nat} {closed t : Int} {g : Nat → Pst} (h : BookOk (tn : Int) closed n g) (hs : ∀ i, i < n → (g i).sub ≤ 5) : sumN (fun k : Nat => sumD (owedD g n k) g t n) 6 = totF g t n := by
  rw [subjects_all (top := (tn : Int) - 1) n n (fun i hi => ⟨(h.2 i hi).2.1, hs i hi⟩)]
  exact stands_all h.2 n (Nat.le_refl _)
end Go.Proofs.Ytcfplkbbgjiocaa
