/- Divide of package quota and of the reference on every argument: what comes out is one. Conditions: slices that can be read; numbers of 64 bits. -/
import Derived.Test.YtdodhfodojjfeaaRefBad
import Derived.Test.YtdodhfodojjfeaaLaw36Uniq
namespace Go.Proofs.Ytdodhfodojjfeaa
open Go Go.RowKit Go.Shelf
theorem ReadsI.congr {W : World} {p : Option Addr} {n : Nat} {f g : Nat → Int} (h : ReadsI W p n f) (e : ∀ i, i < n → f i = g i) : ReadsI W p n g := fun i hi => by
  obtain ⟨b, off, hp, hc⟩ := h i hi
  exact ⟨b, off, hp, fun j hj => by rw [hc j hj, e j hj]⟩
theorem IntsIn.reads {W : World} {p : Option Addr} {n : Nat} {f : Nat → Int} (h : IntsIn W p n f) : ReadsI W p n f := fun i hi => by
  obtain ⟨b, off, hp, _, hc⟩ := h.cell i hi
  exact ⟨b, off, hp, hc⟩
theorem ReadsI.none (W : World) (f : Nat → Int) : ReadsI W none 0 f := fun i hi => by omega
def DivGood (n : Nat) (f : Nat → Int) (c t : Int) : Prop := (0 ≤ c ∧ c ≤ 1000000) ∧ demandsB n f ∧ 0 ≤ t ∧ t < n
/-- What Divide answers. -/
def DivSpec (n : Nat) (f : Nat → Int) (c t : Int) (k : Nat) (a : Nat → Int) (er : Int) : Prop :=
  (DivGood n f c t ∧ er = 0 ∧ k = n ∧ ∃ sv, DivIs n (fun i => (f i).toNat) c.toNat t.toNat sv ∧ ∀ i, i < n → a i = ((sv i : Nat) : Int)) ∨ (¬ DivGood n f c t ∧ er = 360 ∧ k = 0)
theorem DivSpec.unique {n : Nat} {f : Nat → Int} {c t : Int} {k l : Nat} {a b : Nat → Int} {er er' : Int} (h : DivSpec n f c t k a er) (h' : DivSpec n f c t l b er') : er = er' ∧ k = l ∧ ∀ i, i < k → a i = b i := by
  rcases h with ⟨g, rfl, rfl, sv, hd, ha⟩ | ⟨g, rfl, rfl⟩
  · rcases h' with ⟨_, rfl, rfl, sv', hd', ha'⟩ | ⟨g', _⟩
    · exact ⟨rfl, rfl, fun i hi => by rw [ha i hi, ha' i hi, hd.unique hd' i hi]⟩
    · exact absurd g g'
  · rcases h' with ⟨g', _⟩ | ⟨_, rfl, rfl⟩
    · exact absurd g' g
    · exact ⟨rfl, rfl, fun i hi => by omega⟩
theorem DivSpec.small {n : Nat} {f : Nat → Int} {c t : Int} {k : Nat} {a : Nat → Int} {er : Int} (h : DivSpec n f c t k a er) : k ≤ 8 := by
  rcases h with ⟨g, rfl, rfl, _⟩ | ⟨g, rfl, rfl⟩
  · exact g.2.1.2.1
  · omega
/-- A call that answers as Divide does. -/
def IsDiv (w : World) (n : Nat) (f : Nat → Int) (c t : Int) (e : Ending) (w' : World) : Prop :=
  ∃ (q : Option Addr) (k cp : Nat) (a : Nat → Int) (er : Int), e = .returned (.tuple #[.slice q k cp, .int .i64 er]) ∧ DivSpec n f c t k a er ∧ ReadsI w' q k a ∧ Below w.heap.size w w'
theorem divide_all (c t : Int) (p : Option Addr) (n cp : Nat) (f : Nat → Int) (w : World) (hn : n ≤ maxLen) (hr : ReadsI w p n f) :
    Calls Try.prog 13 #[.int .i64 c, .slice p n cp, .int .i64 t] w (IsDiv w n f c t) := by
  by_cases h : DivGood n f c t
  · obtain ⟨⟨c1, c2⟩, hd, t1, t2⟩ := h
    have h' : DivGood n f c t := ⟨⟨c1, c2⟩, hd, t1, t2⟩
    have h1 := divide_any c.toNat n t.toNat (fun i => (f i).toNat) p cp w (by omega) hd.1 hd.2.1 (by omega) (fun i hi => by have := hd.2.2 i hi; show (f i).toNat ≤ 1000000; omega) (hr.congr fun i hi => by have := hd.2.2 i hi; show f i = ((f i).toNat : Int); omega)
    rw [Int.toNat_of_nonneg c1, Int.toNat_of_nonneg t1] at h1
    exact h1.mono fun e w' ⟨G, a, h2, _, h4, h5, h6⟩ => ⟨_, n, n, _, 0, h2, .inl ⟨h', rfl, rfl, a, h5, fun i _ => rfl⟩, h4.reads, h6⟩
  · exact (divide_bad c t p n cp f w hn hr h).mono fun e w' ⟨h2, h3⟩ => ⟨none, 0, 0, fun _ => 0, 360, h2, .inr ⟨h, rfl, rfl⟩, ReadsI.none _ _, h3⟩
theorem ref_divide_all (c t : Int) (p : Option Addr) (n cp : Nat) (f : Nat → Int) (w : World) (hn : n ≤ maxLen) (hr : ReadsI w p n f) :
    Calls Try.prog 19 #[.int .i64 c, .slice p n cp, .int .i64 t] w (IsDiv w n f c t) := by
  by_cases h : DivGood n f c t
  · obtain ⟨⟨c1, c2⟩, hd, t1, t2⟩ := h
    have h' : DivGood n f c t := ⟨⟨c1, c2⟩, hd, t1, t2⟩
    have h1 := ref_divide_any c.toNat n t.toNat (fun i => (f i).toNat) p cp w (by omega) hd.1 hd.2.1 (by omega) (fun i hi => by have := hd.2.2 i hi; show (f i).toNat ≤ 1000000; omega) (hr.congr fun i hi => by have := hd.2.2 i hi; show f i = ((f i).toNat : Int); omega)
    rw [Int.toNat_of_nonneg c1, Int.toNat_of_nonneg t1] at h1
    exact h1.mono fun e w' ⟨G, a, h2, _, h4, h5, h6⟩ => ⟨_, n, n, _, 0, h2, .inl ⟨h', rfl, rfl, a, h5, fun i _ => rfl⟩, h4.reads, h6⟩
  · exact (ref_divide_bad c t p n cp f w hn hr h).mono fun e w' ⟨h2, h3⟩ => ⟨none, 0, 0, fun _ => 0, 360, h2, .inr ⟨h, rfl, rfl⟩, ReadsI.none _ _, by rw [h3]; exact Below.refl _ _⟩
end Go.Proofs.Ytdodhfodojjfeaa
