/- Round of package quota and of the reference on every argument: what comes out is one. Conditions: slices that can be read; numbers of 64 bits. -/
import Derived.Test.YtdodhfodojjfeaaRefRound
import Derived.Test.YtdodhfodojjfeaaAllDiv
namespace Go.Proofs.Ytdodhfodojjfeaa
open Go Go.RowKit Go.Shelf
def RoundGood (cap t lim : Int) (n : Nat) (f : Nat → Int) (m : Nat) (g : Nat → Int) : Prop := QuotaOk cap t lim n f ∧ demandsB m g ∧ m = n
/-- What Round answers. -/
def RoundSpec (cap t lim : Int) (n : Nat) (f : Nat → Int) (m : Nat) (g : Nat → Int) (x y z k : Nat) (U S D : Nat → Int) (er : Int) : Prop :=
  (RoundGood cap t lim n f m g ∧ er = 0 ∧ k = n ∧ x = cap.toNat ∧ y = (t.toNat + 1) % n ∧ z = lim.toNat ∧ ∃ sv, DivIs n (fun i => min ((f i).toNat + (g i).toNat) lim.toNat) cap.toNat t.toNat sv ∧
    ∀ i, i < n → U i = ((min ((f i).toNat + (g i).toNat) lim.toNat - sv i : Nat) : Int) ∧ S i = ((sv i : Nat) : Int) ∧ D i = (((f i).toNat + (g i).toNat - min ((f i).toNat + (g i).toNat) lim.toNat : Nat) : Int)) ∨
  (¬ RoundGood cap t lim n f m g ∧ er = 360 ∧ k = 0 ∧ x = 0 ∧ y = 0 ∧ z = 0)
theorem RoundSpec.unique {cap t lim : Int} {n m : Nat} {f g : Nat → Int} {x y z k x' y' z' k' : Nat} {U S D U' S' D' : Nat → Int} {er er' : Int} (h : RoundSpec cap t lim n f m g x y z k U S D er) (h' : RoundSpec cap t lim n f m g x' y' z' k' U' S' D' er') :
    er = er' ∧ k = k' ∧ x = x' ∧ y = y' ∧ z = z' ∧ (∀ i, i < k → U i = U' i) ∧ (∀ i, i < k → S i = S' i) ∧ ∀ i, i < k → D i = D' i := by
  rcases h with ⟨h1, rfl, rfl, rfl, rfl, rfl, sv, hd, ha⟩ | ⟨h1, rfl, rfl, rfl, rfl, rfl⟩
  · rcases h' with ⟨_, rfl, rfl, rfl, rfl, rfl, sv', hd', ha'⟩ | ⟨h1', _⟩
    · exact ⟨rfl, rfl, rfl, rfl, rfl, fun i hi => by rw [(ha i hi).1, (ha' i hi).1, hd.unique hd' i hi], fun i hi => by rw [(ha i hi).2.1, (ha' i hi).2.1, hd.unique hd' i hi], fun i hi => by rw [(ha i hi).2.2, (ha' i hi).2.2]⟩
    · exact absurd h1 h1'
  · rcases h' with ⟨h1', _⟩ | ⟨_, rfl, rfl, rfl, rfl, rfl⟩
    · exact absurd h1' h1
    · exact ⟨rfl, rfl, rfl, rfl, rfl, fun i hi => by omega, fun i hi => by omega, fun i hi => by omega⟩
theorem RoundSpec.small {cap t lim : Int} {n m : Nat} {f g : Nat → Int} {x y z k : Nat} {U S D : Nat → Int} {er : Int} (h : RoundSpec cap t lim n f m g x y z k U S D er) : k ≤ 8 := by
  rcases h with ⟨h1, rfl, rfl, _⟩ | ⟨h1, rfl, rfl, _⟩
  · exact h1.1.2.2.1.2.1
  · omega
/-- A call that answers as Round does. -/
def IsRoundA (w : World) (cap t lim : Int) (n : Nat) (f : Nat → Int) (m : Nat) (g : Nat → Int) (e : Ending) (w' : World) : Prop :=
  ∃ (p1 p2 p3 : Option Addr) (x y z k c1 c2 c3 : Nat) (U S D : Nat → Int) (er : Int), e = .returned (.tuple #[.agg #[.int .i64 (x : Int), .int .i64 (y : Int), .int .i64 (z : Int), .slice p1 k c1], .slice p2 k c2, .slice p3 k c3, .int .i64 er]) ∧
    RoundSpec cap t lim n f m g x y z k U S D er ∧ ReadsI w' p1 k U ∧ ReadsI w' p2 k S ∧ ReadsI w' p3 k D ∧ ((∀ a, p1 = some a → w.heap.size ≤ a.block) ∧ (∀ a, p2 = some a → w.heap.size ≤ a.block) ∧ ∀ a, p3 = some a → w.heap.size ≤ a.block) ∧ Below w.heap.size w w'
theorem IsRoundA.bad {w w' : World} {cap t lim : Int} {n m : Nat} {f g : Nat → Int} {e : Ending} (h : ¬ RoundGood cap t lim n f m g) (he : e = .returned (.tuple #[.agg #[.int .i64 0, .int .i64 0, .int .i64 0, .slice none 0 0], .slice none 0 0, .slice none 0 0, .int .i64 360])) (hb : Below w.heap.size w w') : IsRoundA w cap t lim n f m g e w' :=
  ⟨none, none, none, 0, 0, 0, 0, 0, 0, 0, fun _ => 0, fun _ => 0, fun _ => 0, 360, he, .inr ⟨h, rfl, rfl, rfl, rfl, rfl⟩, ReadsI.none _ _, ReadsI.none _ _, ReadsI.none _ _, ⟨nofun, nofun, nofun⟩, hb⟩
theorem IsRoundA.good {w w' : World} {cap t lim : Int} {n m : Nat} {f g : Nat → Int} {e : Ending} (h : RoundGood cap t lim n f m g) (hr : IsRound w cap.toNat t.toNat lim.toNat n (fun i => (f i).toNat) (fun i => (g i).toNat) e w') : IsRoundA w cap t lim n f m g e w' := by
  obtain ⟨G1, G2, G3, c1, c2, c3, sv, he, hd, h1, h2, h3, ⟨l1, l2, l3⟩, hb⟩ := hr
  exact ⟨_, _, _, cap.toNat, _, lim.toNat, n, c1, c2, c3, _, _, _, 0, he, .inl ⟨h, rfl, rfl, rfl, rfl, rfl, sv, hd, fun i _ => ⟨rfl, rfl, rfl⟩⟩, h1.reads, h2.reads, h3.reads, ⟨fun a h => by cases h; exact l1, fun a h => by cases h; exact l2, fun a h => by cases h; exact l3⟩, hb⟩
set_option maxHeartbeats 2000000 in
theorem round_bad (cap t lim : Int) (p q : Option Addr) (n c m d : Nat) (f g : Nat → Int) (w : World) (hn : n ≤ maxLen) (hm : m ≤ maxLen) (hp : ReadsI w p n f) (hq : ReadsI w q m g) (h : ¬ RoundGood cap t lim n f m g) :
    Calls Try.prog 16 #[.agg #[.int .i64 cap, .int .i64 t, .int .i64 lim, .slice p n c], .slice q m d] w fun e w' => e = .returned (.tuple #[.agg #[.int .i64 0, .int .i64 0, .int .i64 0, .slice none 0 0], .slice none 0 0, .slice none 0 0, .int .i64 360]) ∧ Below w.heap.size w w' := by
  have HP := Lib.hid hp
  have HQ := Lib.hid hq
  have HH := Lib.hid h
  have hB0 := ((Below.refl w.heap.size w).alloc (Nat.le_refl _) (.cells #[.int .i64 cap, .int .i64 t, .int .i64 lim, .slice p n c] 35)).alloc (by simp) (.cells #[.int .i64 0, .int .i64 0, .int .i64 0, .slice none 0 0] 35)
  have HV := Lib.hid (valid_any cap t lim p n c f _ hn (HP.out.below hB0))
  have HA := Lib.hid (fun W (hb : Below w.heap.size w W) => areDemands_any q m d g W hm (HQ.out.below hb))
  have hx0 : ∃ cs : Array Value, True := ⟨#[], trivial⟩
  have hy0 := QBox.new (w.alloc (.cells #[.int .i64 cap, .int .i64 t, .int .i64 lim, .slice p n c] 35)) 0 0 0 (.slice none 0 0)
  have hx0 : ((w.alloc (.cells #[.int .i64 cap, .int .i64 t, .int .i64 lim, .slice p n c] 35)).alloc (.cells #[.int .i64 0, .int .i64 0, .int .i64 0, .slice none 0 0] 35)).cell? ⟨w.heap.size, 3, none⟩ = some (.slice p n c) := by simp
  clear hp hq h
  unfold maxLen at hn hm
  go_enter Try.func16, Try.ntmps16
  go_wp2_with fail
  refine HV.out.mono ?_
  rintro e w1 ⟨⟨r, rfl, hr⟩, hb1⟩
  have HR := Lib.hid hr
  have hB1 := hB0.trans (hb1.mono hB0.size)
  have hy1 := hy0.below hb1
  have hx1 := (hb1.cell (p := ⟨w.heap.size, 3, none⟩) (by simp; omega)).trans hx0
  rw [World.size_alloc] at hy1
  obtain ⟨z0, z1, z2, z3⟩ := hy1.cells
  have f0 := hy1.free 0
  have f1 := hy1.free 1
  have f2 := hy1.free 2
  have f3 := hy1.free 3
  have hyl := hy1.lt
  have hBB := fun a b c d => Below_set (Below_set (Below_set (Below_set hB1 (b := w.heap.size + 1) (i := 0) (by omega) a) (b := w.heap.size + 1) (i := 1) (by omega) b) (b := w.heap.size + 1) (i := 2) (by omega) c) (b := w.heap.size + 1) (i := 3) (by omega) d
  have HB := Lib.hid hBB
  have HBL := Lib.hid hB1
  clear hr hb1 hy0 hx0 hB0 hBB hB1
  cases r with
  | false =>
    go_wp2_with fail
    refine bodyPost_ret (v := .tuple #[.agg #[.int .i64 0, .int .i64 0, .int .i64 0, .slice none 0 0], .slice none 0 0, .slice none 0 0, .int .i64 360]) (by simp [results, Try.results16, go_sem, z0, z1, z2, z3]) rfl ?_
    exact ⟨rfl, HB.out _ _ _ _⟩
  | true =>
    go_wp2_with fail
    refine (HA.out _ HBL.out).mono ?_
    rintro e w2 ⟨⟨r, rfl, hr⟩, hb2⟩
    cases hb2
    have HR2 := Lib.hid hr
    clear hr
    cases r with
    | false =>
      go_wp2_with fail
      refine bodyPost_ret (v := .tuple #[.agg #[.int .i64 0, .int .i64 0, .int .i64 0, .slice none 0 0], .slice none 0 0, .slice none 0 0, .int .i64 360]) (by simp [results, Try.results16, go_sem, z0, z1, z2, z3]) rfl ?_
      exact ⟨rfl, HB.out _ _ _ _⟩
    | true =>
      have hne : ¬ m = n := fun e => HH.out ⟨HR.out.1 (by trivial), HR2.out.1 (by trivial), e⟩
      have hne2 : ¬ (m : Int) = (n : Int) := by omega
      go_wp2_with fail
      refine bodyPost_ret (v := .tuple #[.agg #[.int .i64 0, .int .i64 0, .int .i64 0, .slice none 0 0], .slice none 0 0, .slice none 0 0, .int .i64 360]) (by simp [results, Try.results16, go_sem, z0, z1, z2, z3]) rfl ?_
      exact ⟨rfl, HB.out _ _ _ _⟩
set_option maxHeartbeats 2000000 in
theorem ref_round_bad (cap t lim : Int) (p q : Option Addr) (n c m d : Nat) (f g : Nat → Int) (w : World) (hn : n ≤ maxLen) (hm : m ≤ maxLen) (hp : ReadsI w p n f) (hq : ReadsI w q m g) (h : ¬ RoundGood cap t lim n f m g) :
    Calls Try.prog 21 #[.agg #[.int .i64 cap, .int .i64 t, .int .i64 lim, .slice p n c], .slice q m d] w fun e w' => e = .returned (.tuple #[.agg #[.int .i64 0, .int .i64 0, .int .i64 0, .slice none 0 0], .slice none 0 0, .slice none 0 0, .int .i64 360]) ∧ Below w.heap.size w w' := by
  have HP := Lib.hid hp
  have HQ := Lib.hid hq
  have HH := Lib.hid h
  have hB0 := ((Below.refl w.heap.size w).alloc (Nat.le_refl _) (.cells #[.int .i64 cap, .int .i64 t, .int .i64 lim, .slice p n c] 35)).alloc (by simp) (.cells #[.int .i64 0, .int .i64 0, .int .i64 0, .slice none 0 0] 35)
  have HV := Lib.hid (ref_valid_any cap t lim p n c f _ hn (HP.out.below hB0))
  have HA := Lib.hid (fun W (hb : Below w.heap.size w W) => ref_units_any q m d g W hm (HQ.out.below hb))
  have hx0 : ∃ cs : Array Value, True := ⟨#[], trivial⟩
  have hy0 := QBox.new (w.alloc (.cells #[.int .i64 cap, .int .i64 t, .int .i64 lim, .slice p n c] 35)) 0 0 0 (.slice none 0 0)
  have hx0 : ((w.alloc (.cells #[.int .i64 cap, .int .i64 t, .int .i64 lim, .slice p n c] 35)).alloc (.cells #[.int .i64 0, .int .i64 0, .int .i64 0, .slice none 0 0] 35)).cell? ⟨w.heap.size, 3, none⟩ = some (.slice p n c) := by simp
  clear hp hq h
  unfold maxLen at hn hm
  go_enter Try.func21, Try.ntmps21
  go_wp2_with fail
  refine HV.out.mono ?_
  rintro e w1 ⟨⟨r, rfl, hr⟩, hb1⟩
  have HR := Lib.hid hr
  have hB1 := hB0.trans (hb1.mono hB0.size)
  have hy1 := hy0.below hb1
  have hx1 := (hb1.cell (p := ⟨w.heap.size, 3, none⟩) (by simp; omega)).trans hx0
  rw [World.size_alloc] at hy1
  obtain ⟨z0, z1, z2, z3⟩ := hy1.cells
  have f0 := hy1.free 0
  have f1 := hy1.free 1
  have f2 := hy1.free 2
  have f3 := hy1.free 3
  have hyl := hy1.lt
  have hBB := fun a b c d => Below_set (Below_set (Below_set (Below_set hB1 (b := w.heap.size + 1) (i := 0) (by omega) a) (b := w.heap.size + 1) (i := 1) (by omega) b) (b := w.heap.size + 1) (i := 2) (by omega) c) (b := w.heap.size + 1) (i := 3) (by omega) d
  have HB := Lib.hid hBB
  have HBL := Lib.hid hB1
  clear hr hb1 hy0 hx0 hB0 hBB hB1
  cases r with
  | false =>
    go_wp2_with fail
    refine bodyPost_ret (v := .tuple #[.agg #[.int .i64 0, .int .i64 0, .int .i64 0, .slice none 0 0], .slice none 0 0, .slice none 0 0, .int .i64 360]) (by simp [results, Try.results21, go_sem, z0, z1, z2, z3]) rfl ?_
    exact ⟨rfl, HB.out _ _ _ _⟩
  | true =>
    go_wp2_with fail
    refine (HA.out _ HBL.out).mono ?_
    rintro e w2 ⟨⟨r, rfl, hr⟩, hb2⟩
    cases hb2
    have HR2 := Lib.hid hr
    clear hr
    cases r with
    | false =>
      go_wp2_with fail
      refine bodyPost_ret (v := .tuple #[.agg #[.int .i64 0, .int .i64 0, .int .i64 0, .slice none 0 0], .slice none 0 0, .slice none 0 0, .int .i64 360]) (by simp [results, Try.results21, go_sem, z0, z1, z2, z3]) rfl ?_
      exact ⟨rfl, HB.out _ _ _ _⟩
    | true =>
      have hne : ¬ m = n := fun e => HH.out ⟨HR.out.1 (by trivial), HR2.out.1 (by trivial), e⟩
      have hne2 : ¬ (m : Int) = (n : Int) := by omega
      go_wp2_with fail
      refine bodyPost_ret (v := .tuple #[.agg #[.int .i64 0, .int .i64 0, .int .i64 0, .slice none 0 0], .slice none 0 0, .slice none 0 0, .int .i64 360]) (by simp [results, Try.results21, go_sem, z0, z1, z2, z3]) rfl ?_
      exact ⟨rfl, HB.out _ _ _ _⟩
theorem round_all (cap t lim : Int) (p q : Option Addr) (n c m d : Nat) (f g : Nat → Int) (w : World) (hn : n ≤ maxLen) (hm : m ≤ maxLen) (hp : ReadsI w p n f) (hq : ReadsI w q m g) :
    Calls Try.prog 16 #[.agg #[.int .i64 cap, .int .i64 t, .int .i64 lim, .slice p n c], .slice q m d] w (IsRoundA w cap t lim n f m g) := by
  by_cases h : RoundGood cap t lim n f m g
  · obtain ⟨⟨⟨c1, c2⟩, ⟨l1, l2⟩, hd, t1, t2, hf⟩, hg, rfl⟩ := h
    have h' : RoundGood cap t lim m f m g := ⟨⟨⟨c1, c2⟩, ⟨l1, l2⟩, hd, t1, t2, hf⟩, hg, rfl⟩
    have h1 := round_any cap.toNat t.toNat lim.toNat m c d p q (fun i => (f i).toNat) (fun i => (g i).toNat) w (by omega) (by omega) hd.1 hd.2.1 (by omega) (fun i hi => by have := hf i hi; have := hd.2.2 i hi; show (f i).toNat ≤ lim.toNat; omega) (fun i hi => by have := hg.2.2 i hi; show (g i).toNat ≤ 1000000; omega)
      (hp.congr fun i hi => by have := hd.2.2 i hi; show f i = ((f i).toNat : Int); omega) (hq.congr fun i hi => by have := hg.2.2 i hi; show g i = ((g i).toNat : Int); omega)
    rw [Int.toNat_of_nonneg c1, Int.toNat_of_nonneg t1, Int.toNat_of_nonneg l1] at h1
    exact h1.mono fun e w' h => IsRoundA.good h' h
  · exact (round_bad cap t lim p q n c m d f g w hn hm hp hq h).mono fun e w' h2 => IsRoundA.bad h h2.1 h2.2
theorem ref_round_all (cap t lim : Int) (p q : Option Addr) (n c m d : Nat) (f g : Nat → Int) (w : World) (hn : n ≤ maxLen) (hm : m ≤ maxLen) (hp : ReadsI w p n f) (hq : ReadsI w q m g) :
    Calls Try.prog 21 #[.agg #[.int .i64 cap, .int .i64 t, .int .i64 lim, .slice p n c], .slice q m d] w (IsRoundA w cap t lim n f m g) := by
  by_cases h : RoundGood cap t lim n f m g
  · obtain ⟨⟨⟨c1, c2⟩, ⟨l1, l2⟩, hd, t1, t2, hf⟩, hg, rfl⟩ := h
    have h' : RoundGood cap t lim m f m g := ⟨⟨⟨c1, c2⟩, ⟨l1, l2⟩, hd, t1, t2, hf⟩, hg, rfl⟩
    have h1 := ref_round_any cap.toNat t.toNat lim.toNat m c d p q (fun i => (f i).toNat) (fun i => (g i).toNat) w (by omega) (by omega) hd.1 hd.2.1 (by omega) (fun i hi => by have := hf i hi; have := hd.2.2 i hi; show (f i).toNat ≤ lim.toNat; omega) (fun i hi => by have := hg.2.2 i hi; show (g i).toNat ≤ 1000000; omega)
      (hp.congr fun i hi => by have := hd.2.2 i hi; show f i = ((f i).toNat : Int); omega) (hq.congr fun i hi => by have := hg.2.2 i hi; show g i = ((g i).toNat : Int); omega)
    rw [Int.toNat_of_nonneg c1, Int.toNat_of_nonneg t1, Int.toNat_of_nonneg l1] at h1
    exact h1.mono fun e w' h => IsRoundA.good h' h
  · exact (ref_round_bad cap t lim p q n c m d f g w hn hm hp hq h).mono fun e w' h2 => IsRoundA.bad h h2.1 h2.2
end Go.Proofs.Ytdodhfodojjfeaa
