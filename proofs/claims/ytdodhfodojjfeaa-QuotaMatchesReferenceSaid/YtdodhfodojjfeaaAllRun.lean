/- Run of package quota and of the reference on every argument: what comes out is one. Conditions: slices that can be read; numbers of 64 bits. -/
import Derived.Test.YtdodhfodojjfeaaRefRun
namespace Go.Proofs.Ytdodhfodojjfeaa
open Go Go.RowKit Go.Shelf
def RunGood (cap t lim : Int) (n : Nat) (f : Nat → Int) (m : Nat) (L : Nat → Nat) (Z : Nat → Nat → Int) : Prop := (QuotaOk cap t lim n f ∧ m ≤ 200) ∧ ∀ k, k < m → demandsB (L k) (Z k) ∧ L k = n
theorem RunIs.unique {n cap lim t m : Nat} {wt : Nat → Nat} {ar U S U' S' : Nat → Nat → Nat} (ht : t < n) (h : RunIs n cap lim t m wt ar U S) (h' : RunIs n cap lim t m wt ar U' S') :
    ∀ k, k ≤ m → (∀ i, i < n → U k i = U' k i) ∧ (k < m → ∀ i, i < n → S k i = S' k i)
  | 0, _ => by
    have h0 : ∀ i, i < n → U 0 i = U' 0 i := fun i hi => by rw [h.1 i hi, h'.1 i hi]
    exact ⟨h0, fun hm => ((h.2 0 hm).1.congr_d (Nat.mod_lt _ (by omega)) (fun i hi => by rw [h0 i hi])).unique (h'.2 0 hm).1⟩
  | k + 1, hk => by
    obtain ⟨h1, h2⟩ := RunIs.unique ht h h' k (by omega)
    have h0 : ∀ i, i < n → U (k + 1) i = U' (k + 1) i := fun i hi => by rw [(h.2 k (by omega)).2 i hi, (h'.2 k (by omega)).2 i hi, h1 i hi, h2 (by omega) i hi]
    exact ⟨h0, fun hm => ((h.2 (k + 1) hm).1.congr_d (Nat.mod_lt _ (by omega)) (fun i hi => by rw [h0 i hi])).unique (h'.2 (k + 1) hm).1⟩
/-- What Run answers. -/
def RunSpec (cap t lim : Int) (n : Nat) (f : Nat → Int) (m : Nat) (L : Nat → Nat) (Z : Nat → Nat → Int) (x y z k : Nat) (u s d : Nat → Int) (er : Int) : Prop :=
  (RunGood cap t lim n f m L Z ∧ er = 0 ∧ k = n ∧ x = cap.toNat ∧ y = (t.toNat + m) % n ∧ z = lim.toNat ∧ ∃ U S, RunIs n cap.toNat lim.toNat t.toNat m (fun i => (f i).toNat) (fun j i => (Z j i).toNat) U S ∧
    ∀ i, i < n → u i = ((U m i : Nat) : Int) ∧ s i = ((servedF S m i : Nat) : Int) ∧ d i = ((droppedF lim.toNat (fun j i => (Z j i).toNat) U m i : Nat) : Int)) ∨
  (¬ RunGood cap t lim n f m L Z ∧ er = 360 ∧ k = 0 ∧ x = 0 ∧ y = 0 ∧ z = 0)
theorem RunSpec.unique {cap t lim : Int} {n m : Nat} {f : Nat → Int} {L : Nat → Nat} {Z : Nat → Nat → Int} {x y z k x' y' z' k' : Nat} {u s d u' s' d' : Nat → Int} {er er' : Int} (h : RunSpec cap t lim n f m L Z x y z k u s d er) (h' : RunSpec cap t lim n f m L Z x' y' z' k' u' s' d' er') :
    er = er' ∧ k = k' ∧ x = x' ∧ y = y' ∧ z = z' ∧ (∀ i, i < k → u i = u' i) ∧ (∀ i, i < k → s i = s' i) ∧ ∀ i, i < k → d i = d' i := by
  rcases h with ⟨h1, rfl, rfl, rfl, rfl, rfl, U, S, hd, ha⟩ | ⟨h1, rfl, rfl, rfl, rfl, rfl⟩
  · rcases h' with ⟨_, rfl, rfl, rfl, rfl, rfl, U', S', hd', ha'⟩ | ⟨h1', _⟩
    · have ht : t.toNat < k' := by have := h1.1.1.2.2.2.1; have := h1.1.1.2.2.2.2.1; omega
      have hu := RunIs.unique ht hd hd'
      refine ⟨rfl, rfl, rfl, rfl, rfl, fun i hi => by rw [(ha i hi).1, (ha' i hi).1, (hu m (Nat.le_refl _)).1 i hi], fun i hi => ?_, fun i hi => ?_⟩
      · rw [(ha i hi).2.1, (ha' i hi).2.1]
        exact congrArg _ (sumTo_congr m fun j hj => (hu j (by omega)).2 hj i hi)
      · rw [(ha i hi).2.2, (ha' i hi).2.2]
        exact congrArg _ (sumTo_congr m fun j hj => by unfold dropF; rw [(hu j (by omega)).1 i hi])
    · exact absurd h1 h1'
  · rcases h' with ⟨h1', _⟩ | ⟨_, rfl, rfl, rfl, rfl, rfl⟩
    · exact absurd h1' h1
    · exact ⟨rfl, rfl, rfl, rfl, rfl, fun i hi => by omega, fun i hi => by omega, fun i hi => by omega⟩
theorem RunSpec.small {cap t lim : Int} {n m : Nat} {f : Nat → Int} {L : Nat → Nat} {Z : Nat → Nat → Int} {x y z k : Nat} {U S D : Nat → Int} {er : Int} (h : RunSpec cap t lim n f m L Z x y z k U S D er) : k ≤ 8 := by
  rcases h with ⟨h1, rfl, rfl, _⟩ | ⟨h1, rfl, rfl, _⟩
  · exact h1.1.1.2.2.1.2.1
  · omega
/-- A call that answers as Run does. -/
def IsRunA (w : World) (cap t lim : Int) (n : Nat) (f : Nat → Int) (m : Nat) (L : Nat → Nat) (Z : Nat → Nat → Int) (e : Ending) (w' : World) : Prop :=
  ∃ (p1 p2 p3 : Option Addr) (x y z k c1 c2 c3 : Nat) (U S D : Nat → Int) (er : Int), e = .returned (.tuple #[.agg #[.int .i64 (x : Int), .int .i64 (y : Int), .int .i64 (z : Int), .slice p1 k c1], .slice p2 k c2, .slice p3 k c3, .int .i64 er]) ∧
    RunSpec cap t lim n f m L Z x y z k U S D er ∧ ReadsI w' p1 k U ∧ ReadsI w' p2 k S ∧ ReadsI w' p3 k D ∧ Below w.heap.size w w'
theorem IsRunA.bad {w w' : World} {cap t lim : Int} {n m : Nat} {f : Nat → Int} {L : Nat → Nat} {Z : Nat → Nat → Int} {e : Ending} (h : ¬ RunGood cap t lim n f m L Z) (he : e = .returned (.tuple #[.agg #[.int .i64 0, .int .i64 0, .int .i64 0, .slice none 0 0], .slice none 0 0, .slice none 0 0, .int .i64 360])) (hb : Below w.heap.size w w') : IsRunA w cap t lim n f m L Z e w' :=
  ⟨none, none, none, 0, 0, 0, 0, 0, 0, 0, fun _ => 0, fun _ => 0, fun _ => 0, 360, he, .inr ⟨h, rfl, rfl, rfl, rfl, rfl⟩, ReadsI.none _ _, ReadsI.none _ _, ReadsI.none _ _, hb⟩
theorem IsRunA.good {w w' : World} {cap t lim : Int} {n m : Nat} {f : Nat → Int} {L : Nat → Nat} {Z : Nat → Nat → Int} {e : Ending} (h : RunGood cap t lim n f m L Z) (hr : IsRun w cap.toNat t.toNat lim.toNat n m (fun i => (f i).toNat) (fun j i => (Z j i).toNat) e w') : IsRunA w cap t lim n f m L Z e w' := by
  obtain ⟨G1, G2, G3, c1, U, S, he, hd, h1, h2, h3, _, hb⟩ := hr
  exact ⟨_, _, _, cap.toNat, _, lim.toNat, n, c1, n, n, _, _, _, 0, he, .inl ⟨h, rfl, rfl, rfl, rfl, rfl, U, S, hd, fun i _ => ⟨rfl, rfl, rfl⟩⟩, h1.reads, h2.reads, h3.reads, hb⟩
theorem first_bad (p : Nat → Prop) : ∀ m, (∀ k, k < m → p k) ∨ ∃ k0, k0 < m ∧ (∀ k, k < k0 → p k) ∧ ¬ p k0
  | 0 => .inl fun k hk => by omega
  | m + 1 => by
    rcases first_bad p m with h | ⟨k0, h1, h2, h3⟩
    · by_cases e : p m
      · exact .inl fun k hk => by
          by_cases hk' : k = m
          · subst hk'; exact e
          · exact h k (by omega)
      · exact .inr ⟨m, by omega, h, e⟩
    · exact .inr ⟨k0, by omega, h2, h3⟩
theorem run_all (cap t lim : Int) (p q : Option Addr) (n c m d : Nat) (f : Nat → Int) (A : Nat → Option Addr) (L C : Nat → Nat) (Z : Nat → Nat → Int) (w : World) (hn : n ≤ maxLen) (hm : m ≤ maxLen) (hp : ReadsI w p n f) (hq : RowsIn w q m A L C Z) :
    Calls Try.prog 23 #[.agg #[.int .i64 cap, .int .i64 t, .int .i64 lim, .slice p n c], .slice q m d] w (IsRunA w cap t lim n f m L Z) := by
  by_cases h : QuotaOk cap t lim n f ∧ m ≤ 200
  · obtain ⟨⟨⟨c1, c2⟩, ⟨l1, l2⟩, hd, t1, t2, hf⟩, hm2⟩ := h
    have h' : QuotaOk cap t lim n f ∧ m ≤ 200 := ⟨⟨⟨c1, c2⟩, ⟨l1, l2⟩, hd, t1, t2, hf⟩, hm2⟩
    have hpp : ReadsI w p n (fun i => ((f i).toNat : Int)) := hp.congr fun i hi => by have := hd.2.2 i hi; show f i = ((f i).toNat : Int); omega
    have hwt : ∀ i, i < n → (fun i => (f i).toNat) i ≤ lim.toNat := fun i hi => by have := hf i hi; have := hd.2.2 i hi; show (f i).toNat ≤ lim.toNat; omega
    rcases first_bad (fun k => demandsB (L k) (Z k) ∧ L k = n) m with hg | ⟨k0, hk0, hg, hb⟩
    · have h1 := run_any cap.toNat t.toNat lim.toNat n c m d p q (fun i => (f i).toNat) (fun j i => (Z j i).toNat) A C w (by omega) (by omega) hd.1 hd.2.1 (by omega) hm2 hwt
        (fun k hk i hi => by have := (hg k hk).1.2.2 i (by rw [(hg k hk).2]; exact hi); show (Z k i).toNat ≤ 1000000; omega) hpp
        ⟨fun r hr => by
          obtain ⟨b, off, he, hlt, hc⟩ := hq.cell r hr
          exact ⟨b, off, he, hlt, fun j hj => by rw [hc j hj, (hg j hj).2]⟩, fun r hr => by
          have h2 := (hq.rows r hr).reads
          have hgr := (hg r hr).1
          rw [(hg r hr).2] at h2 hgr
          exact h2.congr fun i hi => by have := hgr.2.2 i hi; show Z r i = ((Z r i).toNat : Int); omega⟩
      rw [Int.toNat_of_nonneg c1, Int.toNat_of_nonneg t1, Int.toNat_of_nonneg l1] at h1
      exact h1.mono fun e w' hh => IsRunA.good ⟨h', hg⟩ hh
    · have h1 := run_bad_row cap.toNat t.toNat lim.toNat n c m d k0 p q (fun i => (f i).toNat) (fun j i => (Z j i).toNat) A L C Z w (by omega) (by omega) hd.1 hd.2.1 (by omega) hm2 hwt hk0
        (fun k hk => ⟨(hg k hk).2, fun i hi => by have := (hg k hk).1.2.2 i (by rw [(hg k hk).2]; exact hi); exact ⟨by show Z k i = ((Z k i).toNat : Int); omega, by show (Z k i).toNat ≤ 1000000; omega⟩⟩) hb hpp hq
      rw [Int.toNat_of_nonneg c1, Int.toNat_of_nonneg t1, Int.toNat_of_nonneg l1] at h1
      exact h1.mono fun e w' hh => IsRunA.bad (fun hx => hb (hx.2 k0 hk0)) hh.1 hh.2
  · exact (run_bad_head cap t lim p q n c m d f w hn hm hp h).mono fun e w' hh => IsRunA.bad (fun hx => h hx.1) hh.1 hh.2
theorem ref_run_all (cap t lim : Int) (p q : Option Addr) (n c m d : Nat) (f : Nat → Int) (A : Nat → Option Addr) (L C : Nat → Nat) (Z : Nat → Nat → Int) (w : World) (hn : n ≤ maxLen) (hm : m ≤ maxLen) (hp : ReadsI w p n f) (hq : RowsIn w q m A L C Z) :
    Calls Try.prog 24 #[.agg #[.int .i64 cap, .int .i64 t, .int .i64 lim, .slice p n c], .slice q m d] w (IsRunA w cap t lim n f m L Z) := by
  by_cases h : QuotaOk cap t lim n f ∧ m ≤ 200
  · obtain ⟨⟨⟨c1, c2⟩, ⟨l1, l2⟩, hd, t1, t2, hf⟩, hm2⟩ := h
    have h' : QuotaOk cap t lim n f ∧ m ≤ 200 := ⟨⟨⟨c1, c2⟩, ⟨l1, l2⟩, hd, t1, t2, hf⟩, hm2⟩
    have hpp : ReadsI w p n (fun i => ((f i).toNat : Int)) := hp.congr fun i hi => by have := hd.2.2 i hi; show f i = ((f i).toNat : Int); omega
    have hwt : ∀ i, i < n → (fun i => (f i).toNat) i ≤ lim.toNat := fun i hi => by have := hf i hi; have := hd.2.2 i hi; show (f i).toNat ≤ lim.toNat; omega
    obtain ⟨k0, hk0, hg, hb⟩ : ∃ k0, k0 ≤ m ∧ (∀ k, k < k0 → demandsB (L k) (Z k) ∧ L k = n) ∧ (k0 < m → ¬ (demandsB (L k0) (Z k0) ∧ L k0 = n)) := by
      rcases first_bad (fun k => demandsB (L k) (Z k) ∧ L k = n) m with hg | ⟨k0, hk0, hg, hb⟩
      · exact ⟨m, Nat.le_refl _, hg, fun h => by omega⟩
      · exact ⟨k0, by omega, hg, fun _ => hb⟩
    have h1 := ref_run_rows cap.toNat t.toNat lim.toNat n c m d k0 p q (fun i => (f i).toNat) (fun j i => (Z j i).toNat) A L C Z w (by omega) (by omega) hd.1 hd.2.1 (by omega) hm2 hwt hk0
        (fun k hk => ⟨(hg k hk).2, fun i hi => by have := (hg k hk).1.2.2 i (by rw [(hg k hk).2]; exact hi); exact ⟨by show Z k i = ((Z k i).toNat : Int); omega, by show (Z k i).toNat ≤ 1000000; omega⟩⟩) hb hpp hq
    rw [Int.toNat_of_nonneg c1, Int.toNat_of_nonneg t1, Int.toNat_of_nonneg l1] at h1
    refine h1.mono fun e w' hh => ?_
    rcases hh with ⟨rfl, hh⟩ | ⟨hlt, h2, h3⟩
    · exact IsRunA.good ⟨h', hg⟩ hh
    · exact IsRunA.bad (fun hx => hb hlt (hx.2 k0 hlt)) h2 h3
  · exact (ref_run_bad_head cap t lim p q n c m d f w hn hm hp h).mono fun e w' hh => IsRunA.bad (fun hx => h hx.1) hh.1 hh.2
end Go.Proofs.Ytdodhfodojjfeaa
