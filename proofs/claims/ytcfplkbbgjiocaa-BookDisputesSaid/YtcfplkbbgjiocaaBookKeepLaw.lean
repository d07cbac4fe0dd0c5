/- Chapter 27: what deeds keep, and what a dispute changes. No program. -/
import Derived.Test.YtcfplkbbgjiocaaBookSumLaw
namespace Go.Proofs.Ytcfplkbbgjiocaa
open Go Go.RowKit Go.Shelf
/-- What a deed leaves: a book that goes on, or nothing. -/
def KeepOk (tn n : Nat) (closed : Int) (g : Nat → Pst) (t2 c2 : Int) (k2 : Nat) (g2 : Nat → Pst) (er : Int) : Prop :=
  (er = 0 ∧ t2 = (tn : Int) ∧ BookOk (tn : Int) c2 k2 g2 ∧ n ≤ k2 ∧ k2 ≤ n + 2 ∧ (∀ i, i < n → g2 i = g i) ∧ closed ≤ c2 ∧ ∀ i, n ≤ i → i < k2 → 30 * closed ≤ (g2 i).day) ∨ (er = 270 ∧ t2 = 0 ∧ c2 = 0 ∧ k2 = 0)
theorem post_keep {tn n : Nat} {closed t2 c2 idx er : Int} {g g2 : Nat → Pst} {p : Pst} {k2 : Nat} (h : PostSpec (tn : Int) closed n g p t2 c2 k2 g2 idx er) : KeepOk tn n closed g t2 c2 k2 g2 er ∧ (er = 0 → idx = n ∧ k2 = n + 1) := by
  rcases h with ⟨hg, rfl, rfl, rfl, rfl, rfl, hf⟩ | ⟨_, rfl, _, rfl, rfl, rfl⟩
  · refine ⟨.inl ⟨rfl, rfl, (bookOk_snoc.2 ⟨hg.1, hg.2.2⟩).congr hf, by omega, by omega, fun i hi => ?_, Int.le_refl _, fun i h1 h2 => ?_⟩, fun _ => ⟨rfl, rfl⟩⟩
    · rw [hf i (by omega)]
      exact if_neg (by omega)
    · obtain rfl : i = n := by omega
      rw [hf i (by omega), show snocP g i p i = p from if_pos rfl]
      exact hg.2.1
  · exact ⟨.inr ⟨rfl, rfl, rfl, rfl⟩, fun h => by omega⟩
theorem disp_keep {tn n : Nat} {closed i day amount t2 c2 er : Int} {g g2 : Nat → Pst} {k2 : Nat} (h : DispSpec (tn : Int) closed n g i day amount t2 c2 k2 g2 er) : KeepOk tn n closed g t2 c2 k2 g2 er := by
  rcases h with ⟨hg, rfl, rfl, rfl, h1, h2⟩ | ⟨_, rfl, rfl, rfl, rfl⟩
  · have ho1 := bookOk_snoc.2 ⟨hg.1, hg.2.2.2.2.1⟩
    have hd := hg.2.2.2.1
    by_cases hp : 0 < amount
    · obtain ⟨rfl, hf⟩ := h1 hp
      refine .inl ⟨rfl, rfl, (bookOk_snoc.2 ⟨ho1, hg.2.2.2.2.2 hp⟩).congr hf, by omega, by omega, fun j hj => ?_, Int.le_refl _, fun j h1 h2 => ?_⟩
      · rw [hf j (by omega)]
        exact (if_neg (by omega)).trans (if_neg (by omega))
      · rw [hf j (by omega)]
        by_cases e : j = n + 1
        · rw [show snocP (snocP g n (backP (g i.toNat) i day)) (n + 1) (newP (g i.toNat) day amount) j = newP (g i.toNat) day amount from if_pos e]
          exact hd
        · rw [show snocP (snocP g n (backP (g i.toNat) i day)) (n + 1) (newP (g i.toNat) day amount) j = backP (g i.toNat) i day from (if_neg e).trans (if_pos (by omega))]
          exact hd
    · obtain ⟨rfl, hf⟩ := h2 hp
      refine .inl ⟨rfl, rfl, ho1.congr hf, by omega, by omega, fun j hj => ?_, Int.le_refl _, fun j h1 h2 => ?_⟩
      · rw [hf j (by omega)]
        exact if_neg (by omega)
      · rw [hf j (by omega), show snocP g n (backP (g i.toNat) i day) j = backP (g i.toNat) i day from if_pos (by omega)]
        exact hd
  · exact .inr ⟨rfl, rfl, rfl, rfl⟩
theorem close_keep {tn n : Nat} {closed month t2 c2 er : Int} {g g2 : Nat → Pst} {k2 : Nat} (h : CloseSpec (tn : Int) closed n g month t2 c2 k2 g2 er) : KeepOk tn n closed g t2 c2 k2 g2 er ∧ (er = 0 → k2 = n) := by
  rcases h with ⟨hg, rfl, rfl, rfl, rfl, hf⟩ | ⟨_, rfl, rfl, rfl, rfl⟩
  · obtain ⟨h1, rfl, h3⟩ := hg
    unfold within at h3
    exact ⟨.inl ⟨rfl, rfl, (show BookOk (tn : Int) (month + 1) k2 g from ⟨⟨h1.1.1, by omega, by omega⟩, h1.2⟩).congr hf, by omega, by omega, hf, by omega, fun i h1 h2 => by omega⟩, fun _ => rfl⟩
  · exact ⟨.inr ⟨rfl, rfl, rfl, rfl⟩, fun h => by omega⟩
theorem balF_congr {f g : Nat → Pst} {m t : Int} : ∀ n, (∀ i, i < n → f i = g i) → balF f m t n = balF g m t n
  | 0, _ => rfl
  | n + 1, h => by unfold balF; rw [balF_congr n (fun i hi => h i (by omega)), h n (by omega)]
theorem balF_more {g : Nat → Pst} {m t : Int} {n : Nat} : ∀ d, (∀ i, n ≤ i → i < n + d → (g i).day / 30 ≠ m) → balF g m t (n + d) = balF g m t n
  | 0, _ => rfl
  | d + 1, h => by
    show balF g m t (n + d) + (if (g (n + d)).day / 30 = m then eff (g (n + d)) t else 0) = _
    rw [if_neg (h (n + d) (by omega) (by omega)), balF_more d (fun i h1 h2 => h i h1 (by omega))]
    omega
/-- The statements of closed months stay. -/
theorem keep_stat {n k2 : Nat} {closed m t : Int} {g g2 : Nat → Pst} (h : n ≤ k2) (hg : ∀ i, i < n → g2 i = g i) (hd : ∀ i, n ≤ i → i < k2 → 30 * closed ≤ (g2 i).day) (hm : m < closed) : balF g2 m t k2 = balF g m t n := by
  obtain ⟨d, rfl⟩ : ∃ d, k2 = n + d := ⟨k2 - n, by omega⟩
  rw [balF_more d (fun i h1 h2 => by have := hd i h1 h2; omega)]
  exact balF_congr n hg
/-- Taken back. -/
theorem bkOf_any {g : Nat → Pst} {top : Int} : ∀ n i, (∀ k, k < n → Formed (g k) top) → (bkOf g n i = true ↔ ∃ k, k < n ∧ (g k).of = (i : Int))
  | 0, i, _ => by simp [bkOf]
  | n + 1, i, h => by
    have ih := bkOf_any n i (fun k hk => h k (by omega))
    have hf := (h n (by omega)).2.2.2.2.2.2
    unfold within at hf
    show bkNext (bkOf g n) (g n) i = true ↔ _
    unfold bkNext
    by_cases e : (g n).kind = 2 ∧ i = (g n).of.toNat
    · rw [if_pos e]
      exact ⟨fun _ => ⟨n, by omega, by omega⟩, fun _ => rfl⟩
    · rw [if_neg e, ih]
      constructor
      · rintro ⟨k, hk, hk2⟩
        exact ⟨k, by omega, hk2⟩
      · rintro ⟨k, hk, hk2⟩
        refine ⟨k, ?_, hk2⟩
        by_cases ek : k = n
        · subst ek
          omega
        · omega
/-- When a dispute is accepted. -/
theorem disp_iff {tn n i : Nat} {closed day amount : Int} {g : Nat → Pst} (hok : BookOk (tn : Int) closed n g) (hn : n ≤ 48) (hi : i < n) (ha : 0 ≤ amount ∧ amount ≤ 999) (hd : day ≤ 359) (hl : (g (n - 1)).day ≤ day) (hc : closed ≤ 11 → 30 * closed ≤ day) :
    DispGood (tn : Int) closed n g (i : Int) day amount ↔ (g i).kind = 1 ∧ bkOf g n i = false ∧ closed ≠ 12 := by
  constructor
  · rintro ⟨_, _, _, h3, h4, _⟩
    obtain ⟨_, h6, h7⟩ := h4.2.2.2 rfl
    rw [show ((backP (g (i : Int).toNat) (i : Int) day).of).toNat = i from rfl] at h6 h7
    exact ⟨h7.1, h6, by omega⟩
  · rintro ⟨hk, hb, h12⟩
    have h0 := hok.1
    have hf := (hok.2 i hi).2.1
    have hl0 := (hok.2 (n - 1) (by omega)).2.1.1
    unfold within at h0 hl0
    have hc' := hc (by omega)
    obtain ⟨f1, f2, f3, f4, f5, f6, f7⟩ := hf
    have hT : TakesOk g n (bkOf g n) ((tn : Int) - 1) (backP (g i) i day) :=
      ⟨by omega, ⟨⟨by show (0 : Int) ≤ day; omega, hd⟩, f3, f2, fun e => f4 e.symm, f5, f6, .inr ⟨rfl, by show (0 : Int) ≤ (i : Int); omega, by show (i : Int) ≤ 199; omega⟩⟩, fun _ => hl, fun _ => ⟨by show (i : Int) < n; omega, hb, hk, rfl, rfl, rfl, rfl⟩⟩
    refine ⟨hok, ⟨by omega, by omega⟩, ⟨by omega, by omega⟩, hc', hT, fun hp => ⟨by omega, ⟨⟨by show (0 : Int) ≤ day; omega, hd⟩, f2, f3, f4, ⟨by show (1 : Int) ≤ amount; omega, by show amount ≤ (1000000000 : Int); omega⟩, f6, ?_⟩, fun _ => ?_, fun h => ?_⟩⟩
    · rcases f7 with h | h
      · exact .inl h
      · omega
    · show (snocP g n (backP (g i) i day) (n + 1 - 1)).day ≤ day
      rw [show snocP g n (backP (g i) i day) (n + 1 - 1) = backP (g i) i day from if_pos (by omega)]
      exact Int.le_refl _
    · exact absurd (show (2 : Int) = 1 from h.symm.trans hk) (by omega)
/-- What a dispute leaves, from entry to entry. -/
structure Disputed (n i k : Nat) (g g2 : Nat → Pst) (day amount : Int) : Prop where
  more : n < k
  old : ∀ j, j < n → g2 j = g j
  back : g2 n = backP (g i) i day
  last : (0 < amount ∧ k = n + 2 ∧ g2 (n + 1) = newP (g i) day amount) ∨ (amount = 0 ∧ k = n + 1)
theorem disp_left {tn n i k : Nat} {closed day amount t2 c2 er : Int} {g g2 : Nat → Pst} (h : DispSpec (tn : Int) closed n g (i : Int) day amount t2 c2 k g2 er) (hg : DispGood (tn : Int) closed n g (i : Int) day amount) (ha : 0 ≤ amount) :
    er = 0 ∧ t2 = (tn : Int) ∧ c2 = closed ∧ Disputed n i k g g2 day amount ∧ BookOk (tn : Int) closed k g2 := by
  have hk := disp_keep h
  rcases h with ⟨_, rfl, rfl, rfl, h1, h2⟩ | ⟨hno, _⟩
  · refine ⟨rfl, rfl, rfl, ?_, ?_⟩
    · by_cases hp : 0 < amount
      · obtain ⟨rfl, hf⟩ := h1 hp
        exact ⟨by omega, fun j hj => (hf j (by omega)).trans ((if_neg (by omega)).trans (if_neg (by omega))), (hf n (by omega)).trans ((if_neg (by omega)).trans (if_pos rfl)), .inl ⟨hp, rfl, (hf (n + 1) (by omega)).trans (if_pos rfl)⟩⟩
      · obtain ⟨rfl, hf⟩ := h2 hp
        exact ⟨by omega, fun j hj => (hf j (by omega)).trans (if_neg (by omega)), (hf n (by omega)).trans (if_pos rfl), .inr ⟨by omega, rfl⟩⟩
    · rcases hk with ⟨_, _, h, _⟩ | ⟨h, _⟩
      · exact h
      · omega
  · exact absurd hg hno
/-- What was booked instead. -/
def instead (p : Pst) (day amount t : Int) : Int := eff (newP p day amount) t - eff p t
theorem eff_back (p : Pst) (i day t : Int) : eff (backP p i day) t = - eff p t := by
  unfold eff backP
  show (if p.deb = t then p.amt else 0) - (if p.cre = t then p.amt else 0) = _
  omega
theorem eff_none (p : Pst) (day t : Int) : eff (newP p day 0) t = 0 := by
  unfold eff newP
  show (if p.cre = t then (0 : Int) else 0) - (if p.deb = t then (0 : Int) else 0) = 0
  split <;> split <;> rfl
theorem disp_stat {n i k : Nat} {g g2 : Nat → Pst} {day amount : Int} (h : Disputed n i k g g2 day amount) (m t : Int) : balF g2 m t k = balF g m t n + if day / 30 = m then instead (g i) day amount t else 0 := by
  have h0 := balF_congr (m := m) (t := t) n h.old
  have h1 : balF g2 m t (n + 1) = balF g m t n + if day / 30 = m then - eff (g i) t else 0 := by
    show balF g2 m t n + (if (g2 n).day / 30 = m then eff (g2 n) t else 0) = _
    rw [h0, h.back, eff_back]
    rfl
  unfold instead
  rcases h.last with ⟨_, rfl, h2⟩ | ⟨rfl, rfl⟩
  · show balF g2 m t (n + 1) + (if (g2 (n + 1)).day / 30 = m then eff (g2 (n + 1)) t else 0) = _
    rw [h1, h2]
    show _ + (if day / 30 = m then eff (newP (g i) day amount) t else 0) = _
    split <;> omega
  · rw [h1, eff_none]
    split <;> omega
theorem sumD_old {d : Nat → Bool} {f g : Nat → Pst} {t : Int} : ∀ n, (∀ i, i < n → f i = g i) → sumD d f t n = sumD d g t n
  | 0, _ => rfl
  | n + 1, h => by unfold sumD; rw [sumD_old n (fun i hi => h i (by omega)), h n (by omega)]
theorem disp_bk {n i k : Nat} {g g2 : Nat → Pst} {day amount : Int} (h : Disputed n i k g g2 day amount) (hk : (g i).kind = 1) (j : Nat) : bkOf g2 k j = if j = i then true else bkOf g n j := by
  have h0 : bkOf g2 n = bkOf g n := bkOf_congr n h.old
  have h1 : bkOf g2 (n + 1) j = if j = i then true else bkOf g n j := by
    show bkNext (bkOf g2 n) (g2 n) j = _
    rw [h0, h.back]
    unfold bkNext
    by_cases e : j = i
    · rw [if_pos e, if_pos ⟨rfl, e⟩]
    · rw [if_neg e, if_neg (fun x => e x.2)]
  rcases h.last with ⟨_, rfl, h2⟩ | ⟨_, rfl⟩
  · show bkNext (bkOf g2 (n + 1)) (g2 (n + 1)) j = _
    rw [h2]
    unfold bkNext
    rw [if_neg (fun x => absurd (show (2 : Int) = 1 from x.1.symm.trans hk) (by omega)), h1]
  · exact h1
theorem disp_owed {tn n i k : Nat} {closed : Int} {g g2 : Nat → Pst} {day amount : Int} (h : Disputed n i k g g2 day amount) (hok : BookOk (tn : Int) closed k g2) (hi : i < n) (hk : (g i).kind = 1) (hb : bkOf g n i = false) (s t : Int) :
    sumD (owedD g2 k s) g2 t k = sumD (owedD g n s) g t n + if (g i).sub = s then instead (g i) day amount t else 0 := by
  have hbk := disp_bk h hk
  have ho : ∀ j, j < n → owedD g2 k s j = if j = i then false else owedD g n s j := fun j hj => by
    unfold owedD
    rw [h.old j hj, hbk j]
    by_cases e : j = i
    · rw [if_pos e, if_pos e]; simp
    · rw [if_neg e, if_neg e]
  have h0 : sumD (owedD g2 k s) g2 t n = sumD (owedD g n s) g t n + if (g i).sub = s then - eff (g i) t else 0 := by
    rw [sumD_old n h.old]
    by_cases e : (g i).sub = s
    · rw [if_pos e, sumD_drop (d := owedD g n s) (d' := owedD g2 k s) (j := i) n (fun j hj hne => by rw [ho j hj, if_neg hne]) (decide_eq_true ⟨hk, e, hb⟩) (by rw [ho i hi, if_pos rfl]) hi]
      omega
    · rw [if_neg e, sumD_congr (d := owedD g2 k s) (d' := owedD g n s) n (fun j hj => by
        rw [ho j hj]
        by_cases ej : j = i
        · rw [if_pos ej, ej]
          exact (decide_eq_false (fun x => e x.2.1)).symm
        · rw [if_neg ej])]
      omega
  have h1 : sumD (owedD g2 k s) g2 t (n + 1) = sumD (owedD g n s) g t n + if (g i).sub = s then - eff (g i) t else 0 := by
    show sumD (owedD g2 k s) g2 t n + (if owedD g2 k s n = true then eff (g2 n) t else 0) = _
    have hno : owedD g2 k s n = false := decide_eq_false (fun x => absurd (show (2 : Int) = 1 by have := x.1; rw [h.back] at this; exact this) (by omega))
    rw [h0, hno, if_neg Bool.false_ne_true]
    omega
  unfold instead
  rcases h.last with ⟨_, rfl, h2⟩ | ⟨rfl, rfl⟩
  · show sumD (owedD g2 (n + 2) s) g2 t (n + 1) + (if owedD g2 (n + 2) s (n + 1) = true then eff (g2 (n + 1)) t else 0) = _
    have hl : bkOf g2 (n + 2) (n + 1) = false := by
      rw [hbk (n + 1), if_neg (by omega)]
      have hl := bkOf_late (g := g2) (top := (tn : Int) - 1) (n := n + 2) hok.2 n (n + 1) (by omega) (by omega)
      rw [bkOf_congr n h.old] at hl
      exact hl
    rw [h1]
    by_cases e : (g i).sub = s
    · have hyes : owedD g2 (n + 2) s (n + 1) = true := decide_eq_true ⟨by rw [h2]; exact hk, by rw [h2]; exact e, hl⟩
      rw [if_pos e, if_pos e, hyes, if_pos rfl, h2]
      omega
    · have hno : owedD g2 (n + 2) s (n + 1) = false := decide_eq_false (fun x => e (by have := x.2.1; rw [h2] at this; exact this))
      rw [if_neg e, if_neg e, hno, if_neg Bool.false_ne_true]
      omega
  · rw [h1, eff_none]
    split <;> omega
end Go.Proofs.Ytcfplkbbgjiocaa
