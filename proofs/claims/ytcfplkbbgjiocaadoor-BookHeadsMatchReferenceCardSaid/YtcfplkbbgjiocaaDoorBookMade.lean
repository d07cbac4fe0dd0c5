/- Chapter 27: the reference's Made leads to a valid book. Conditions: deeds that can be read; numbers of 64 bits. -/
import Derived.Test.YtcfplkbbgjiocaaDoorBookSums
import Derived.Test.YtcfplkbbgjiocaaDoorRefDispute
import Derived.Test.YtcfplkbbgjiocaaDoorPure
namespace Go.Proofs.YtcfplkbbgjiocaaDoor
open Go Go.RowKit Go.Shelf
/-- A slice of arrays of five integers that came in. -/
structure ArrsIn (W : World) (p : Option Addr) (n : Nat) (h : Nat → Nat → Int) : Prop where
  small : n ≤ maxLen
  cell : ∀ i, i < n → ∃ b off, p = some ⟨b, off, none⟩ ∧ ∀ j, j < n → ∀ c, c < 5 → W.cell? ⟨b, off + j * 5 + c, none⟩ = some (.int .i64 (h j c))
  bd : ∀ i, i < n → ∀ c, c < 5 → -9223372036854775808 ≤ h i c ∧ h i c ≤ 9223372036854775807
theorem ArrsIn.below {W W' : World} {p : Option Addr} {n : Nat} {h : Nat → Nat → Int} (a : ArrsIn W p n h) (hb : Below W.heap.size W W') : ArrsIn W' p n h :=
  ⟨a.small, fun i hi => by
    obtain ⟨b, off, hp, hc⟩ := a.cell i hi
    exact ⟨b, off, hp, fun j hj c hc' => (hb.cell (p := ⟨b, off + j * 5 + c, none⟩) (cell_lt (hc j hj c hc'))).trans (hc j hj c hc')⟩, a.bd⟩
/-- A deed that went well leads to a valid book. -/
def DeedOk (tn n : Nat) (t2 c2 : Int) (k2 : Nat) (g2 : Nat → Pst) (er : Int) : Prop :=
  (er = 0 → t2 = (tn : Int) ∧ BookOk (tn : Int) c2 k2 g2 ∧ k2 ≤ n + 2 ∧ ∀ i, i < k2 → (g2 i).sub ≤ 5) ∧ 0 ≤ c2 ∧ c2 ≤ 12 ∧ (er = 0 ∨ er = 270)
theorem post_deed {tn n : Nat} {closed t2 c2 idx er : Int} {g g2 : Nat → Pst} {p : Pst} {k2 : Nat} (h : PostSpec (tn : Int) closed n g p t2 c2 k2 g2 idx er) (hs : ∀ i, i < n → (g i).sub ≤ 5) (hp : p.sub ≤ 5) (hc : 0 ≤ closed ∧ closed ≤ 12) : DeedOk tn n t2 c2 k2 g2 er := by
  rcases h with ⟨hg, rfl, _, rfl, rfl, rfl, hf⟩ | ⟨_, rfl, _, rfl, rfl, rfl⟩
  · refine ⟨fun _ => ⟨rfl, (bookOk_snoc.2 ⟨hg.1, hg.2.2⟩).congr hf, by omega, fun i hi => ?_⟩, hc.1, hc.2, .inl rfl⟩
    rw [hf i hi]
    unfold snocP
    split
    · exact hp
    · exact hs i (by omega)
  · exact ⟨fun h => by omega, by omega, by omega, .inr rfl⟩
theorem disp_deed {tn n : Nat} {closed i day amount t2 c2 er : Int} {g g2 : Nat → Pst} {k2 : Nat} (h : DispSpec (tn : Int) closed n g i day amount t2 c2 k2 g2 er) (hs : ∀ i, i < n → (g i).sub ≤ 5) (hc : 0 ≤ closed ∧ closed ≤ 12) : DeedOk tn n t2 c2 k2 g2 er := by
  rcases h with ⟨hg, rfl, rfl, rfl, h1, h2⟩ | ⟨_, rfl, rfl, rfl, rfl⟩
  · have hi := hg.2.1
    have hb : (backP (g i.toNat) i day).sub ≤ 5 := hs i.toNat (by omega)
    have hw : (newP (g i.toNat) day amount).sub ≤ 5 := hs i.toNat (by omega)
    have ho1 := bookOk_snoc.2 ⟨hg.1, hg.2.2.2.2.1⟩
    have hs1 : ∀ j, j < n + 1 → (snocP g n (backP (g i.toNat) i day) j).sub ≤ 5 := fun j hj => by
      unfold snocP
      split
      · exact hb
      · exact hs j (by omega)
    by_cases hp : 0 < amount
    · obtain ⟨rfl, hf⟩ := h1 hp
      refine ⟨fun _ => ⟨rfl, (bookOk_snoc.2 ⟨ho1, hg.2.2.2.2.2 hp⟩).congr hf, by omega, fun j hj => ?_⟩, hc.1, hc.2, .inl rfl⟩
      rw [hf j hj]
      show (snocP (snocP g n _) (n + 1) _ j).sub ≤ 5
      by_cases e : j = n + 1
      · rw [show snocP (snocP g n (backP (g i.toNat) i day)) (n + 1) (newP (g i.toNat) day amount) j = newP (g i.toNat) day amount from if_pos e]
        exact hw
      · rw [show snocP (snocP g n (backP (g i.toNat) i day)) (n + 1) (newP (g i.toNat) day amount) j = snocP g n (backP (g i.toNat) i day) j from if_neg e]
        exact hs1 j (by omega)
    · obtain ⟨rfl, hf⟩ := h2 hp
      refine ⟨fun _ => ⟨rfl, ho1.congr hf, by omega, fun j hj => ?_⟩, hc.1, hc.2, .inl rfl⟩
      rw [hf j hj]
      exact hs1 j hj
  · exact ⟨fun h => by omega, by omega, by omega, .inr rfl⟩
theorem close_deed {tn n : Nat} {closed month t2 c2 er : Int} {g g2 : Nat → Pst} {k2 : Nat} (h : CloseSpec (tn : Int) closed n g month t2 c2 k2 g2 er) (hs : ∀ i, i < n → (g i).sub ≤ 5) : DeedOk tn n t2 c2 k2 g2 er := by
  rcases h with ⟨hg, rfl, rfl, rfl, rfl, hf⟩ | ⟨_, rfl, rfl, rfl, rfl⟩
  · obtain ⟨h1, rfl, h3⟩ := hg
    unfold within at h3
    refine ⟨fun _ => ⟨rfl, (show BookOk (tn : Int) (month + 1) k2 g from ⟨⟨h1.1.1, by omega, by omega⟩, h1.2⟩).congr hf, by omega, fun i hi => ?_⟩, by omega, by omega, .inl rfl⟩
    rw [hf i hi]
    exact hs i hi
  · exact ⟨fun h => by omega, by omega, by omega, .inr rfl⟩
theorem BkBox.setAll {W : World} {B : Nat} {t c : Int} {v : Value} (h : BkBox W B t v c) (t' c' : Int) (v' : Value) : BkBox (((W.setCell ⟨B, 0, none⟩ (.int .i64 t')).setCell ⟨B, 1, none⟩ v').setCell ⟨B, 2, none⟩ (.int .i64 c')) B t' v' c' := heap_set (heap_set (heap_set h _) _) _
theorem BkBox.three {W : World} {B : Nat} {t c : Int} {v : Value} (h : BkBox W B t v c) {b : Nat} (hne : B ≠ b) (v0 v1 v2 : Value) : BkBox (((W.setCell ⟨b, 0, none⟩ v0).setCell ⟨b, 1, none⟩ v1).setCell ⟨b, 2, none⟩ v2) B t v c := ((h.other hne v0).other hne v1).other hne v2
theorem three_far (W : World) {b X : Nat} (hne : X ≠ b) (o : Nat) (v0 v1 v2 : Value) : (((W.setCell ⟨X, 0, none⟩ v0).setCell ⟨X, 1, none⟩ v1).setCell ⟨X, 2, none⟩ v2).cell? ⟨b, o, none⟩ = W.cell? ⟨b, o, none⟩ :=
  (World.cell?_setCell_far _ ⟨X, 2, none⟩ ⟨b, o, none⟩ v2 hne).trans ((World.cell?_setCell_far _ ⟨X, 1, none⟩ ⟨b, o, none⟩ v1 hne).trans (World.cell?_setCell_far W ⟨X, 0, none⟩ ⟨b, o, none⟩ v0 hne))
/-- What Made answers. -/
def IsMadeB (w : World) (e : Ending) (w' : World) : Prop := ∃ (tn n c : Nat) (closed : Int) (q : Option Addr) (g : Nat → Pst), e = .returned (.agg #[.int .i64 (tn : Int), .slice q n c, .int .i64 closed]) ∧
  BookOk (tn : Int) closed n g ∧ n ≤ 48 ∧ (∀ i, i < n → (g i).sub ≤ 5) ∧ ReadsP w' q n g ∧ (∀ a, q = some a → w.heap.size ≤ a.block) ∧ Below w.heap.size w w'
/-- The same, and how much room the slice has. -/
def IsMadeC (w : World) (e : Ending) (w' : World) : Prop := ∃ (tn n c : Nat) (closed : Int) (q : Option Addr) (g : Nat → Pst), e = .returned (.agg #[.int .i64 (tn : Int), .slice q n c, .int .i64 closed]) ∧
  BookOk (tn : Int) closed n g ∧ n ≤ 48 ∧ (∀ i, i < n → (g i).sub ≤ 5) ∧ ReadsP w' q n g ∧ (∀ a, q = some a → w.heap.size ≤ a.block) ∧ n ≤ c ∧ Below w.heap.size w w'
set_option maxRecDepth 100000 in
set_option maxHeartbeats 8000000 in
theorem Made_cap (x : Int) (q0 : Option Addr) (m c0 : Nat) (h : Nat → Nat → Int) (w : World) (hin : ArrsIn w q0 m h) (bx : -9223372036854775808 ≤ x ∧ x ≤ 9223372036854775807) :
    Calls Tryd.prog 8 #[.int .i64 x, .slice q0 m c0] w (IsMadeC w) := by
  have hm := hin.small
  unfold maxLen at hm
  obtain ⟨bx1, bx2⟩ := bx
  have k0 := pickN_lt x (show 0 < 3 by omega)
  have q1 := fun W => ref_pick_any x 3 3 W rfl bx1 bx2 (by omega) (by omega)
  obtain ⟨t, ht⟩ : ∃ t, pickN x 3 = t := ⟨_, rfl⟩
  rw [ht] at k0 q1
  have Q1 := Lib.hid q1
  have HIN := Lib.hid hin
  clear ht q1 hin
  go_enter Tryd.func8, Tryd.ntmps8
  go_wp2_with fail
  refine (Q1.out _).mono ?_
  rintro e w1 ⟨rfl, rfl⟩
  have hal1 : Below w.heap.size w (w.alloc (.cells #[.int .i64 0, .slice none 0 0, .int .i64 0] 24)) := (Below.refl _ _).alloc (Nat.le_refl _) _
  have hr1 := BkBox.new w 0 0 (.slice none 0 0)
  obtain ⟨w1, hw1⟩ : ∃ w1, w.alloc (.cells #[.int .i64 0, .slice none 0 0, .int .i64 0] 24) = w1 := ⟨_, rfl⟩
  have hz1 : w1.heap.size = w.heap.size + 1 := by rw [← hw1, World.size_alloc]
  rw [hw1] at hal1 hr1
  obtain ⟨tn, htn⟩ : ∃ tn : Nat, tn = t + 2 := ⟨_, rfl⟩
  have hal2 : Below w1.heap.size w1 (w1.alloc (.cells #[.int .i64 (tn : Int), .slice none 0 0, .int .i64 0] 24)) := (Below.refl _ _).alloc (Nat.le_refl _) _
  have hb2 := BkBox.new w1 (tn : Int) 0 (.slice none 0 0)
  obtain ⟨w2, hw2⟩ : ∃ w2, w1.alloc (.cells #[.int .i64 (tn : Int), .slice none 0 0, .int .i64 0] 24) = w2 := ⟨_, rfl⟩
  have hz2 : w2.heap.size = w.heap.size + 2 := by rw [← hw2, World.size_alloc, hz1]
  rw [hw2] at hal2 hb2
  rw [hz1] at hb2
  have hW2 : (w.alloc (.cells #[.int .i64 0, .slice none 0 0, .int .i64 0] 24)).alloc (.cells #[.int .i64 (2 + (t : Int)), .slice none 0 0, .int .i64 0] 24) = w2 := by
    rw [hw1, ← hw2, htn]
    congr 5
    omega
  have HR2 := Lib.hid (hr1.below hal2)
  have HB2 := Lib.hid hb2
  have HBL2 := Lib.hid (hal1.trans (hal2.mono hal1.size))
  have HZ2 := Lib.hid hz2
  have HTN := Lib.hid htn
  have HTB : Hid (2 ≤ tn ∧ tn ≤ 4) := Lib.hid (by omega)
  have HW2 := Lib.hid hW2
  have HBK0 : Hid (BookOk (tn : Int) 0 0 (fun _ => (⟨0, 0, 0, 0, 0, 0, 0⟩ : Pst))) := Lib.hid ⟨⟨⟨by omega, by omega⟩, ⟨by omega, by omega⟩⟩, fun i hi => by omega⟩
  clear hal1 hr1 hw1 hz1 hal2 hb2 hw2 hz2 hW2 htn
  go_upto_region 2 with fail
  rw [HW2.out]
  obtain ⟨S, hS⟩ : ∃ S, w.heap.size = S := ⟨_, rfl⟩
  have HS := Lib.hid hS
  rw [hS] at HR2 HB2 HZ2
  rw [hS]
  clear hS HW2 Q1
  have hr0 : ReadsP w2 none 0 (fun _ => (⟨0, 0, 0, 0, 0, 0, 0⟩ : Pst)) := fun i hi => by omega
  go_wp2_with fail
  go_loopw [6, 7] (fun dv iv wr => ∃ (i n c : Nat) (day closed : Int) (q : Option Addr) (g : Nat → Pst), iv = .int .i64 i ∧ dv = .int .i64 day ∧ i ≤ m ∧ n ≤ 2 * i ∧ i ≤ 24 ∧ 0 ≤ day ∧ day ≤ 359 ∧ Hid (BookOk (tn : Int) closed n g) ∧ Hid (∀ j, j < n → (g j).sub ≤ 5) ∧
    BkBox wr (S + 1) (tn : Int) (.slice q n c) closed ∧ Hid (ReadsP wr q n g) ∧ Hid (∀ a, q = some a → S + 2 ≤ a.block) ∧ Hid (n ≤ c) ∧ Below (S + 1) w2 wr) (fun _ iv _ => m - (intOf iv).toNat)
  case atStart => exact ⟨0, 0, 0, 0, 0, none, _, rfl, rfl, by omega, by omega, by omega, by omega, by omega, HBK0, Lib.hid (fun j hj => by omega), HB2.out, Lib.hid hr0, Lib.hid nofun, Lib.hid (Nat.le_refl _), Below.refl _ _⟩
  case round =>
    obtain ⟨i, n, c, day, closed, q, g, rfl, rfl, him, hn2, hi24, hd0, hd1, HOK, HSUB, hbk, HRD, HQ, HCP, hB⟩ := hrel
    clear hr0
    by_cases hlt : i < m
    · by_cases hl24 : i < 24
      · have HBR : Hid (Below w.heap.size w wr) := Lib.hid (HBL2.out.trans (hB.mono (by have := HS.out; omega)))
        obtain ⟨b0, o0, rfl, hcs0⟩ := HIN.out.cell i hlt
        have HB0S : Hid (b0 < S) := Lib.hid (by have := cell_lt (hcs0 i hlt 0 (by omega)); have := HS.out; omega)
        have hcs : ∀ j, j < m → ∀ c, c < 5 → wr.cell? ⟨b0, o0 + j * 5 + c, none⟩ = some (.int .i64 (h j c)) := fun j hj c hc' => (HBR.out.cell (p := ⟨b0, o0 + j * 5 + c, none⟩) (cell_lt (hcs0 j hj c hc'))).trans (hcs0 j hj c hc')
        clear hcs0
        have HL0 := Lib.hid (hcs i hlt 0 (by omega))
        have HL1 := Lib.hid (hcs i hlt 1 (by omega))
        have HL2 := Lib.hid (hcs i hlt 2 (by omega))
        have HL3 := Lib.hid (hcs i hlt 3 (by omega))
        have HL4 := Lib.hid (hcs i hlt 4 (by omega))
        obtain ⟨x0, hx0⟩ : ∃ x, h i 0 = x := ⟨_, rfl⟩
        obtain ⟨x1, hx1⟩ : ∃ x, h i 1 = x := ⟨_, rfl⟩
        obtain ⟨x2, hx2⟩ : ∃ x, h i 2 = x := ⟨_, rfl⟩
        obtain ⟨x3, hx3⟩ : ∃ x, h i 3 = x := ⟨_, rfl⟩
        obtain ⟨x4, hx4⟩ : ∃ x, h i 4 = x := ⟨_, rfl⟩
        have bd0 := HIN.out.bd i hlt 0 (by omega)
        have bd1 := HIN.out.bd i hlt 1 (by omega)
        have bd2 := HIN.out.bd i hlt 2 (by omega)
        have bd3 := HIN.out.bd i hlt 3 (by omega)
        have bd4 := HIN.out.bd i hlt 4 (by omega)
        rw [hx0] at HL0 bd0
        rw [hx1] at HL1 bd1
        rw [hx2] at HL2 bd2
        rw [hx3] at HL3 bd3
        rw [hx4] at HL4 bd4
        have htb := HTB.out
        have Q0 := Lib.hid (fun W => ref_pick_any x0 6 6 W rfl bd0.1 bd0.2 (by omega) (by omega))
        have Q1 := Lib.hid (fun W => ref_pick_any x1 20 20 W rfl bd1.1 bd1.2 (by omega) (by omega))
        have Q2 := Lib.hid (fun W => ref_pick_any x2 (tn : Int) tn W rfl bd2.1 bd2.2 (by omega) (by omega))
        have Q3 := Lib.hid (fun W => ref_pick_any x3 ((tn : Int) - 1) (tn - 1) W (by omega) bd3.1 bd3.2 (by omega) (by omega))
        have Q4 := Lib.hid (fun W => ref_pick_any x4 1000 1000 W rfl bd4.1 bd4.2 (by omega) (by omega))
        have Q5 := Lib.hid (fun W => ref_pick_any x4 6 6 W rfl bd4.1 bd4.2 (by omega) (by omega))
        have Q6 := Lib.hid (fun W => ref_pick_any x3 ((n : Int) + 1) (n + 1) W (by omega) bd3.1 bd3.2 (by omega) (by omega))
        have z0 := pickN_lt x0 (show 0 < 6 by omega)
        have z1 := pickN_lt x1 (show 0 < 20 by omega)
        have z2 := pickN_lt x2 (show 0 < tn by omega)
        have z3 := pickN_lt x3 (show 0 < tn - 1 by omega)
        have z4 := pickN_lt x4 (show 0 < 1000 by omega)
        have z5 := pickN_lt x4 (show 0 < 6 by omega)
        obtain ⟨r0, hr0⟩ : ∃ r, pickN x0 6 = r := ⟨_, rfl⟩
        obtain ⟨r1, hr1⟩ : ∃ r, pickN x1 20 = r := ⟨_, rfl⟩
        obtain ⟨r2, hr2⟩ : ∃ r, pickN x2 tn = r := ⟨_, rfl⟩
        obtain ⟨r3, hr3⟩ : ∃ r, pickN x3 (tn - 1) = r := ⟨_, rfl⟩
        obtain ⟨r4, hr4⟩ : ∃ r, pickN x4 1000 = r := ⟨_, rfl⟩
        obtain ⟨r5, hr5⟩ : ∃ r, pickN x4 6 = r := ⟨_, rfl⟩
        obtain ⟨r6, hr6⟩ : ∃ r, pickN x3 (n + 1) = r := ⟨_, rfl⟩
        rw [hr0] at Q0 z0
        rw [hr1] at Q1 z1
        rw [hr2] at Q2 z2
        rw [hr3] at Q3 z3
        rw [hr4] at Q4 z4
        rw [hr5] at Q5 z5
        rw [hr6] at Q6
        clear hx0 hx1 hx2 hx3 hx4 bd0 bd1 bd2 bd3 bd4 hr0 hr1 hr2 hr3 hr4 hr5 hr6 hcs htb
        obtain ⟨c0, c1, c2⟩ := hbk.cells
        have l1 := HL1.out
        have l2 := HL2.out
        have v0 : (0 : Int) ≤ (i : Int) := by omega
        have v1 : (i : Int) < (m : Int) := by omega
        obtain ⟨d2, hd2, e0, e1⟩ : ∃ d2 : Int, (if day + (r1 : Int) < 359 then day + (r1 : Int) else 359) = d2 ∧ 0 ≤ d2 ∧ d2 ≤ 359 := ⟨_, rfl, by split <;> omega, by split <;> omega⟩
        have HD2 := Lib.hid hd2
        clear hd2
        go_upto_region 7 with (go_at_call 29; refine (Q1.out _).mono ?_; rintro e w1 ⟨rfl, rfl⟩)
        rw [HD2.out]
        clear HD2
        go_quiet ((go_at_call 29; exact Calls.quiet_of_same ((Q2.out _).mono fun e w1 h => ⟨h.1, h.2.symm⟩)))
        go_upto_region 8 with fail
        have hdn := Below_drewN' (Below.refl wr.heap.size wr) nq
        have hzn : (wr.drewN nq).heap.size = wr.heap.size := rfl
        obtain ⟨w5, hw5⟩ : ∃ w5, wr.drewN nq = w5 := ⟨_, rfl⟩
        rw [hw5] at hdn hzn ⊢
        have HBK5 := Lib.hid (hbk.below hdn)
        have HRD5 := Lib.hid (HRD.out.below hdn)
        have HB5 := Lib.hid (hB.trans (hdn.mono (Nat.le_of_lt hbk.lt)))
        have HBR5 := Lib.hid (HBR.out.trans (hdn.mono HBR.out.size))
        have HL5 : Hid (∀ c v, wr.cell? ⟨b0, o0 + i * 5 + c, none⟩ = some v → w5.cell? ⟨b0, o0 + i * 5 + c, none⟩ = some v) := Lib.hid (fun c v hc => (hdn.cell (p := ⟨b0, o0 + i * 5 + c, none⟩) (cell_lt hc)).trans hc)
        clear hw5 hdn hzn hbk hB c0 c1 c2 l1 l2
        have l0 := HL5.out _ _ HL0.out
        have l3 := HL5.out _ _ HL3.out
        have l4 := HL5.out _ _ HL4.out
        obtain ⟨c0, c1, c2⟩ := HBK5.out.cells
        have hks : ∀ W, Below w5.heap.size w5 W → (W.cell? ⟨S + 1, 0, none⟩ = some (.int .i64 (tn : Int)) ∧ W.cell? ⟨b0, o0 + i * 5 + 3, none⟩ = some (.int .i64 x3) ∧ W.cell? ⟨b0, o0 + i * 5 + 4, none⟩ = some (.int .i64 x4)) := fun W hb =>
          ⟨(HBK5.out.below hb).cells.1, (hb.cell (p := ⟨b0, o0 + i * 5 + 3, none⟩) (cell_lt l3)).trans l3, (hb.cell (p := ⟨b0, o0 + i * 5 + 4, none⟩) (cell_lt l4)).trans l4⟩
        have HKS := Lib.hid hks
        clear hks
        have htb := HTB.out
        have t0 : ¬ (tn : Int) = 0 := by omega
        have t1 : (2 : Int) ≤ (tn : Int) := by omega
        have t2 : (tn : Int) ≤ 4 := by omega
        obtain ⟨cr, hcr, hcr2⟩ : ∃ cr : Int, ((r2 : Int) + 1 + (r3 : Int)).tmod (tn : Int) = cr ∧ ((r2 : Int) + 1 + (r3 : Int)) % (tn : Int) = cr := ⟨_, rfl, (Int.tmod_eq_emod_of_nonneg (by omega)).symm⟩
        have t3 : ¬ tn = 0 := by omega
        have g1 : IntKind.i64.wrap ((tn : Int) - 1) = (tn : Int) - 1 := IntWalk.i64_in _ (by omega)
        have g2 : IntKind.i64.wrap ((r2 : Int) + 1) = (r2 : Int) + 1 := IntWalk.i64_in _ (by omega)
        have g3 : IntKind.i64.wrap ((r2 : Int) + 1 + (r3 : Int)) = (r2 : Int) + 1 + (r3 : Int) := IntWalk.i64_in _ (by omega)
        have g4 : IntKind.i64.wrap (1 + (r4 : Int)) = 1 + (r4 : Int) := IntWalk.i64_in _ (by omega)
        clear htb
        go_cut [9] (fun s9 wx => ∃ P, s9 = .pointer (some ⟨P, 0, none⟩) ∧ PBox wx P ⟨1, d2, r2, cr, 1 + r4, r5, -1⟩ ∧ Below w5.heap.size w5 wx ∧ w5.heap.size ≤ P)
        case first =>
          refine wp_region_held_drew (S := (fun W => W.cell? ⟨S + 1, 0, none⟩ = some (.int .i64 (tn : Int)) ∧ W.cell? ⟨b0, o0 + i * 5 + 3, none⟩ = some (.int .i64 x3) ∧ W.cell? ⟨b0, o0 + i * 5 + 4, none⟩ = some (.int .i64 x4))) (by kernel_rfl) ?_ (fun hHeld => ?_)
          · exact HKS.out _ ((Below.refl _ _).drew)
          refine wpAnyH_take (i := 0) (v := ?_) rfl (by kernel_rfl) (by kernel_rfl) (by kernel_rfl) (fun _ _ _ h => h) (Or.inl ⟨by rfl, ?_⟩) (by assumption) ?_
          rotate_left
          · intro w hSw
            try dsimp only at hSw
            go_simp
            all_goals with_reducible rfl
          try simp only [Act.put, List.getElem_toArray, List.getElem_cons_zero, List.setIfInBounds_toArray, List.set_cons_zero, List.set_cons_succ]
          refine wpAnyH_take (i := 1) (v := ?_) rfl (by kernel_rfl) (by kernel_rfl) (by kernel_rfl) (fun _ _ _ h => h) (Or.inl ⟨by rfl, ?_⟩) (by assumption) ?_
          rotate_left
          · intro w hSw
            try dsimp only at hSw
            go_simp
            all_goals with_reducible rfl
          try simp only [Act.put, List.getElem_toArray, List.getElem_cons_succ, List.getElem_cons_zero, List.setIfInBounds_toArray, List.set_cons_zero, List.set_cons_succ]
          refine wpAnyH_take (i := 2) (v := ?_) rfl (by kernel_rfl) (by kernel_rfl) (by kernel_rfl) (fun _ _ _ h => h) (Or.inl ⟨by rfl, ?_⟩) (by assumption) ?_
          rotate_left
          · intro w hSw
            try dsimp only at hSw
            go_simp
            all_goals with_reducible rfl
          try simp only [Act.put, List.getElem_toArray, List.getElem_cons_succ, List.getElem_cons_zero, List.setIfInBounds_toArray, List.set_cons_zero, List.set_cons_succ]
          refine wpAnyH_take (i := 3) (v := ?_) rfl (by kernel_rfl) (by kernel_rfl) (by kernel_rfl) (fun _ _ _ h => h) (Or.inl ⟨by rfl, ?_⟩) (by assumption) ?_
          rotate_left
          · intro w hSw
            try dsimp only at hSw
            go_simp
            all_goals with_reducible rfl
          try simp only [Act.put, List.getElem_toArray, List.getElem_cons_succ, List.getElem_cons_zero, List.setIfInBounds_toArray, List.set_cons_zero, List.set_cons_succ]
          refine wpAnyH_take (i := 4) (v := ?_) rfl (by kernel_rfl) (by kernel_rfl) (by kernel_rfl) (fun _ _ _ h => h) (Or.inl ⟨by rfl, ?_⟩) (by assumption) ?_
          rotate_left
          · intro w hSw
            try dsimp only at hSw
            go_simp
            all_goals with_reducible rfl
          try simp only [Act.put, List.getElem_toArray, List.getElem_cons_succ, List.getElem_cons_zero, List.setIfInBounds_toArray, List.set_cons_zero, List.set_cons_succ]
          refine wpAnyH_take (i := 5) (v := ?_) rfl (by kernel_rfl) (by kernel_rfl) (by kernel_rfl) (fun _ _ _ h => h) (Or.inl ⟨by rfl, ?_⟩) (by assumption) ?_
          rotate_left
          · intro w hSw
            try dsimp only at hSw
            go_simp
            all_goals with_reducible rfl
          try simp only [Act.put, List.getElem_toArray, List.getElem_cons_succ, List.getElem_cons_zero, List.setIfInBounds_toArray, List.set_cons_zero, List.set_cons_succ]
          refine wpAnyH_take (i := 6) (v := ?_) rfl (by kernel_rfl) (by kernel_rfl) (by kernel_rfl) (fun _ _ _ h => h) (Or.inl ⟨by rfl, ?_⟩) (by assumption) ?_
          rotate_left
          · intro w hSw
            try dsimp only at hSw
            go_simp
            all_goals with_reducible rfl
          try simp only [Act.put, List.getElem_toArray, List.getElem_cons_succ, List.getElem_cons_zero, List.setIfInBounds_toArray, List.set_cons_zero, List.set_cons_succ]
          refine wpAnyH_take (i := 7) (v := ?_) rfl (by kernel_rfl) (by kernel_rfl) (by kernel_rfl) (fun _ _ _ h => h) (Or.inl ⟨by rfl, ?_⟩) (by assumption) ?_
          rotate_left
          · intro w hSw
            try dsimp only at hSw
            go_simp
            all_goals with_reducible rfl
          try simp only [Act.put, List.getElem_toArray, List.getElem_cons_succ, List.getElem_cons_zero, List.setIfInBounds_toArray, List.set_cons_zero, List.set_cons_succ]
          refine wpAnyH_take (i := 8) (v := ?_) rfl (by kernel_rfl) (by kernel_rfl) (by kernel_rfl) (fun _ _ _ h => h) (Or.inl ⟨by rfl, ?_⟩) (by assumption) ?_
          rotate_left
          · intro w hSw
            try dsimp only at hSw
            go_simp
            all_goals with_reducible rfl
          try simp only [Act.put, List.getElem_toArray, List.getElem_cons_succ, List.getElem_cons_zero, List.setIfInBounds_toArray, List.set_cons_zero, List.set_cons_succ]
          refine wpAnyH_take (i := 9) (v := ?_) rfl (by kernel_rfl) (by kernel_rfl) (by kernel_rfl) (fun _ _ _ h => h) (Or.inl ⟨by rfl, ?_⟩) (by assumption) ?_
          rotate_left
          · intro w hSw
            try dsimp only at hSw
            go_simp
            all_goals with_reducible rfl
          try simp only [Act.put, List.getElem_toArray, List.getElem_cons_succ, List.getElem_cons_zero, List.setIfInBounds_toArray, List.set_cons_zero, List.set_cons_succ]
          refine wpAnyH_take (i := 10) (v := ?_) rfl (by kernel_rfl) (by kernel_rfl) (by kernel_rfl) (fun _ _ _ h => h) (Or.inl ⟨by rfl, ?_⟩) (by assumption) ?_
          rotate_left
          · intro w hSw
            try dsimp only at hSw
            go_simp
            all_goals with_reducible rfl
          try simp only [Act.put, List.getElem_toArray, List.getElem_cons_succ, List.getElem_cons_zero, List.setIfInBounds_toArray, List.set_cons_zero, List.set_cons_succ]
          refine wpAnyH_take (i := 11) (v := ?_) rfl (by kernel_rfl) (by kernel_rfl) (by kernel_rfl) (fun _ _ _ h => h) (Or.inl ⟨by rfl, ?_⟩) (by assumption) ?_
          rotate_left
          · intro w hSw
            try dsimp only at hSw
            go_simp
            all_goals with_reducible rfl
          try simp only [Act.put, List.getElem_toArray, List.getElem_cons_succ, List.getElem_cons_zero, List.setIfInBounds_toArray, List.set_cons_zero, List.set_cons_succ]
          refine wpAnyH_call (i := 12) 29 #[.int .i64 x3, .int .i64 ((tn : Int) - 1)] rfl (by kernel_rfl) (by kernel_rfl) (by kernel_rfl) (fun _ _ _ h => h) (by rfl) ?_ (fun W _ => Q3.out W) (by assumption) ?_
          · intro w hSw
            try dsimp only at hSw
            go_simp
          try simp only [Act.put, List.getElem_toArray, List.getElem_cons_succ, List.getElem_cons_zero, List.setIfInBounds_toArray, List.set_cons_zero, List.set_cons_succ]
          refine wpAnyH_take (i := 13) (v := ?_) rfl (by kernel_rfl) (by kernel_rfl) (by kernel_rfl) (fun _ _ _ h => h) (Or.inl ⟨by rfl, ?_⟩) (by assumption) ?_
          rotate_left
          · intro w hSw
            try dsimp only at hSw
            go_simp
            all_goals with_reducible rfl
          try simp only [Act.put, List.getElem_toArray, List.getElem_cons_succ, List.getElem_cons_zero, List.setIfInBounds_toArray, List.set_cons_zero, List.set_cons_succ]
          refine wpAnyH_take (i := 14) (v := ?_) rfl (by kernel_rfl) (by kernel_rfl) (by kernel_rfl) (fun _ _ _ h => h) (Or.inl ⟨by rfl, ?_⟩) (by assumption) ?_
          rotate_left
          · intro w hSw
            try dsimp only at hSw
            go_simp
            all_goals with_reducible rfl
          try simp only [Act.put, List.getElem_toArray, List.getElem_cons_succ, List.getElem_cons_zero, List.setIfInBounds_toArray, List.set_cons_zero, List.set_cons_succ]
          refine wpAnyH_take (i := 15) (v := ?_) rfl (by kernel_rfl) (by kernel_rfl) (by kernel_rfl) (fun _ _ _ h => h) (Or.inl ⟨by rfl, ?_⟩) (by assumption) ?_
          rotate_left
          · intro w hSw
            try dsimp only at hSw
            go_simp
            all_goals with_reducible rfl
          try simp only [Act.put, List.getElem_toArray, List.getElem_cons_succ, List.getElem_cons_zero, List.setIfInBounds_toArray, List.set_cons_zero, List.set_cons_succ]
          refine wpAnyH_take (i := 16) (v := ?_) rfl (by kernel_rfl) (by kernel_rfl) (by kernel_rfl) (fun _ _ _ h => h) (Or.inl ⟨by rfl, ?_⟩) (by assumption) ?_
          rotate_left
          · intro w hSw
            try dsimp only at hSw
            go_simp
            all_goals with_reducible rfl
          try simp only [Act.put, List.getElem_toArray, List.getElem_cons_succ, List.getElem_cons_zero, List.setIfInBounds_toArray, List.set_cons_zero, List.set_cons_succ]
          refine wpAnyH_take (i := 17) (v := ?_) rfl (by kernel_rfl) (by kernel_rfl) (by kernel_rfl) (fun _ _ _ h => h) (Or.inl ⟨by rfl, ?_⟩) (by assumption) ?_
          rotate_left
          · intro w hSw
            try dsimp only at hSw
            go_simp
            all_goals with_reducible rfl
          try simp only [Act.put, List.getElem_toArray, List.getElem_cons_succ, List.getElem_cons_zero, List.setIfInBounds_toArray, List.set_cons_zero, List.set_cons_succ]
          refine wpAnyH_take (i := 18) (v := ?_) rfl (by kernel_rfl) (by kernel_rfl) (by kernel_rfl) (fun _ _ _ h => h) (Or.inl ⟨by rfl, ?_⟩) (by assumption) ?_
          rotate_left
          · intro w hSw
            try dsimp only at hSw
            go_simp
            all_goals with_reducible rfl
          try simp only [Act.put, List.getElem_toArray, List.getElem_cons_succ, List.getElem_cons_zero, List.setIfInBounds_toArray, List.set_cons_zero, List.set_cons_succ]
          refine wpAnyH_take (i := 19) (v := ?_) rfl (by kernel_rfl) (by kernel_rfl) (by kernel_rfl) (fun _ _ _ h => h) (Or.inl ⟨by rfl, ?_⟩) (by assumption) ?_
          rotate_left
          · intro w hSw
            try dsimp only at hSw
            go_simp
            all_goals with_reducible rfl
          try simp only [Act.put, List.getElem_toArray, List.getElem_cons_succ, List.getElem_cons_zero, List.setIfInBounds_toArray, List.set_cons_zero, List.set_cons_succ]
          refine wpAnyH_take (i := 20) (v := ?_) rfl (by kernel_rfl) (by kernel_rfl) (by kernel_rfl) (fun _ _ _ h => h) (Or.inl ⟨by rfl, ?_⟩) (by assumption) ?_
          rotate_left
          · intro w hSw
            try dsimp only at hSw
            go_simp
            all_goals with_reducible rfl
          try simp only [Act.put, List.getElem_toArray, List.getElem_cons_succ, List.getElem_cons_zero, List.setIfInBounds_toArray, List.set_cons_zero, List.set_cons_succ]
          refine wpAnyH_take (i := 21) (v := ?_) rfl (by kernel_rfl) (by kernel_rfl) (by kernel_rfl) (fun _ _ _ h => h) (Or.inl ⟨by rfl, ?_⟩) (by assumption) ?_
          rotate_left
          · intro w hSw
            try dsimp only at hSw
            go_simp
            all_goals with_reducible rfl
          try simp only [Act.put, List.getElem_toArray, List.getElem_cons_succ, List.getElem_cons_zero, List.setIfInBounds_toArray, List.set_cons_zero, List.set_cons_succ]
          refine wpAnyH_call (i := 22) 29 #[.int .i64 x4, .int .i64 1000] rfl (by kernel_rfl) (by kernel_rfl) (by kernel_rfl) (fun _ _ _ h => h) (by rfl) ?_ (fun W _ => Q4.out W) (by assumption) ?_
          · intro w hSw
            try dsimp only at hSw
            go_simp
          try simp only [Act.put, List.getElem_toArray, List.getElem_cons_succ, List.getElem_cons_zero, List.setIfInBounds_toArray, List.set_cons_zero, List.set_cons_succ]
          refine wpAnyH_take (i := 23) (v := ?_) rfl (by kernel_rfl) (by kernel_rfl) (by kernel_rfl) (fun _ _ _ h => h) (Or.inl ⟨by rfl, ?_⟩) (by assumption) ?_
          rotate_left
          · intro w hSw
            try dsimp only at hSw
            go_simp
            all_goals with_reducible rfl
          try simp only [Act.put, List.getElem_toArray, List.getElem_cons_succ, List.getElem_cons_zero, List.setIfInBounds_toArray, List.set_cons_zero, List.set_cons_succ]
          refine wpAnyH_take (i := 24) (v := ?_) rfl (by kernel_rfl) (by kernel_rfl) (by kernel_rfl) (fun _ _ _ h => h) (Or.inl ⟨by rfl, ?_⟩) (by assumption) ?_
          rotate_left
          · intro w hSw
            try dsimp only at hSw
            go_simp
            all_goals with_reducible rfl
          try simp only [Act.put, List.getElem_toArray, List.getElem_cons_succ, List.getElem_cons_zero, List.setIfInBounds_toArray, List.set_cons_zero, List.set_cons_succ]
          refine wpAnyH_take (i := 25) (v := ?_) rfl (by kernel_rfl) (by kernel_rfl) (by kernel_rfl) (fun _ _ _ h => h) (Or.inl ⟨by rfl, ?_⟩) (by assumption) ?_
          rotate_left
          · intro w hSw
            try dsimp only at hSw
            go_simp
            all_goals with_reducible rfl
          try simp only [Act.put, List.getElem_toArray, List.getElem_cons_succ, List.getElem_cons_zero, List.setIfInBounds_toArray, List.set_cons_zero, List.set_cons_succ]
          refine wpAnyH_take (i := 26) (v := ?_) rfl (by kernel_rfl) (by kernel_rfl) (by kernel_rfl) (fun _ _ _ h => h) (Or.inl ⟨by rfl, ?_⟩) (by assumption) ?_
          rotate_left
          · intro w hSw
            try dsimp only at hSw
            go_simp
            all_goals with_reducible rfl
          try simp only [Act.put, List.getElem_toArray, List.getElem_cons_succ, List.getElem_cons_zero, List.setIfInBounds_toArray, List.set_cons_zero, List.set_cons_succ]
          refine wpAnyH_take (i := 27) (v := ?_) rfl (by kernel_rfl) (by kernel_rfl) (by kernel_rfl) (fun _ _ _ h => h) (Or.inl ⟨by rfl, ?_⟩) (by assumption) ?_
          rotate_left
          · intro w hSw
            try dsimp only at hSw
            go_simp
            all_goals with_reducible rfl
          try simp only [Act.put, List.getElem_toArray, List.getElem_cons_succ, List.getElem_cons_zero, List.setIfInBounds_toArray, List.set_cons_zero, List.set_cons_succ]
          refine wpAnyH_take (i := 28) (v := ?_) rfl (by kernel_rfl) (by kernel_rfl) (by kernel_rfl) (fun _ _ _ h => h) (Or.inl ⟨by rfl, ?_⟩) (by assumption) ?_
          rotate_left
          · intro w hSw
            try dsimp only at hSw
            go_simp
            all_goals with_reducible rfl
          try simp only [Act.put, List.getElem_toArray, List.getElem_cons_succ, List.getElem_cons_zero, List.setIfInBounds_toArray, List.set_cons_zero, List.set_cons_succ]
          refine wpAnyH_call (i := 29) 29 #[.int .i64 x4, .int .i64 6] rfl (by kernel_rfl) (by kernel_rfl) (by kernel_rfl) (fun _ _ _ h => h) (by rfl) ?_ (fun W _ => Q5.out W) (by assumption) ?_
          · intro w hSw
            try dsimp only at hSw
            go_simp
          try simp only [Act.put, List.getElem_toArray, List.getElem_cons_succ, List.getElem_cons_zero, List.setIfInBounds_toArray, List.set_cons_zero, List.set_cons_succ]
          refine wpAnyH_take (i := 30) (v := ?_) rfl (by kernel_rfl) (by kernel_rfl) (by kernel_rfl) (fun _ _ _ h => h) (Or.inl ⟨by rfl, ?_⟩) (by assumption) ?_
          rotate_left
          · intro w hSw
            try dsimp only at hSw
            go_simp
            all_goals with_reducible rfl
          try simp only [Act.put, List.getElem_toArray, List.getElem_cons_succ, List.getElem_cons_zero, List.setIfInBounds_toArray, List.set_cons_zero, List.set_cons_succ]
          refine wpAnyH_ready (rs := [31]) (by kernel_rfl) (by simp) ?_
          refine AllReadyH.cons rfl (fun K hK => ?_) AllReadyH.nil
          go_simp
          refine hK.out _ _ ?_ (fun hHeld2 => ?_)
          · exact HKS.out _ (((Below.refl w5.heap.size w5).drew).alloc (Nat.le_refl _) _)
          clear hK K hHeld
          have hHeld := hHeld2
          clear hHeld2
          try simp only [Act.put, List.getElem_toArray, List.getElem_cons_succ, List.getElem_cons_zero, List.setIfInBounds_toArray, List.set_cons_zero, List.set_cons_succ]
          refine wpAnyH_ready (rs := [32]) (by kernel_rfl) (by simp) ?_
          refine AllReadyH.cons rfl (fun K hK => ?_) AllReadyH.nil
          go_simp
          refine hK.out _ _ ?_ (fun hHeld2 => ?_)
          · exact HKS.out _ (((Below.refl w5.heap.size w5).alloc (Nat.le_refl _) _).drew)
          refine wpAnyH_done (by kernel_rfl) ?_ _
          go_wp2_with fail
          go_meet
          exact ⟨_, rfl, PBox.new w5 ⟨1, d2, r2, cr, 1 + r4, r5, -1⟩, ((Below.refl w5.heap.size w5).alloc (Nat.le_refl _) _).drew, Nat.le_refl _⟩
        case rest =>
          obtain ⟨P, rfl, hpb, hb6, hP⟩ := hcut
          have HBK6 := Lib.hid (HBK5.out.below hb6)
          have HRD6 := Lib.hid (HRD5.out.below hb6)
          have HB6 := Lib.hid (HB5.out.trans (hb6.mono (Nat.le_of_lt HBK5.out.lt)))
          have HBR6 := Lib.hid (HBR5.out.trans (hb6.mono HBR5.out.size))
          have HL6 : Hid (∀ c v, w5.cell? ⟨b0, o0 + i * 5 + c, none⟩ = some v → wc.cell? ⟨b0, o0 + i * 5 + c, none⟩ = some v) := Lib.hid (fun c v hc => (hb6.cell (p := ⟨b0, o0 + i * 5 + c, none⟩) (cell_lt hc)).trans hc)
          clear c0 c1 c2 g1 g2 g3 g4 t0 t1 t2 t3 hcr hcr2 HKS
          have L0 := Lib.hid (HL6.out _ _ l0)
          have L3 := Lib.hid (HL6.out _ _ l3)
          have L4 := Lib.hid (HL6.out _ _ l4)
          clear l0 l3 l4 hb6
          obtain ⟨c0, c1, c2⟩ := HBK6.out.cells
          obtain ⟨q0, q1, q2, q3, q4, q5, q6⟩ := hpb.cells
          have hPS : S + 2 ≤ P := by have := HBK5.out.lt; omega
          have HPO := Lib.hid (ref_Post_any (tn : Int) closed q n c g ⟨1, d2, r2, cr, 1 + r4, r5, -1⟩ wc (by omega) HRD6.out)
          clear hpb hP
          go_wp2_with fail
          refine HPO.out.mono ?_
          rintro e w7 ⟨t', c', q', k', kc, g', idx, er, rfl, hsp, hrd7, hq7, hcp7, hb7⟩
          have HCP8 := Lib.hid hcp7
          clear hcp7
          have hdeed := post_deed hsp HSUB.out (show (r5 : Int) ≤ 5 by omega) HOK.out.1.2
          have hal8 : Below w7.heap.size w7 (w7.alloc (.cells #[.int .i64 t', .slice q' k' kc, .int .i64 c'] 24)) := (Below.refl _ _).alloc (Nat.le_refl _) _
          have ho8 := BkBox.new w7 t' c' (.slice q' k' kc)
          obtain ⟨w8, hw8⟩ : ∃ w8, w7.alloc (.cells #[.int .i64 t', .slice q' k' kc, .int .i64 c'] 24) = w8 := ⟨_, rfl⟩
          have hz8 : w8.heap.size = w7.heap.size + 1 := by rw [← hw8, World.size_alloc]
          have HW8 := Lib.hid hw8
          rw [hw8] at hal8 ho8
          have hb78 := hb7.trans (hal8.mono hb7.size)
          have HBK8 := Lib.hid (HBK6.out.below hb78)
          have HRD8 := Lib.hid (HRD6.out.below hb78)
          have HRD7 := Lib.hid (HRD6.out.below hb7)
          have HAL8 := Lib.hid hal8
          have HRD8' := Lib.hid (hrd7.below hal8)
          have HB8 := Lib.hid (HB6.out.trans (hb78.mono (Nat.le_of_lt HBK6.out.lt)))
          have HBR8 := Lib.hid (HBR6.out.trans (hb78.mono HBR6.out.size))
          have HO8 := Lib.hid ho8
          have HZ8 := Lib.hid hz8
          have HL8 : Hid (∀ c v, wc.cell? ⟨b0, o0 + i * 5 + c, none⟩ = some v → w8.cell? ⟨b0, o0 + i * 5 + c, none⟩ = some v) := Lib.hid (fun c v hc => (hb78.cell (p := ⟨b0, o0 + i * 5 + c, none⟩) (cell_lt hc)).trans hc)
          have HQ8 : Hid (∀ a, q' = some a → S + 2 ≤ a.block) := Lib.hid (fun a h => by have := hq7 a h; have := HBK6.out.lt; omega)
          have HDEED := Lib.hid hdeed
          have HS7 : Hid (S + 2 ≤ w7.heap.size) := Lib.hid (by have := HBK6.out.lt; have := hb7.size; omega)
          clear c0 c1 c2 q0 q1 q2 q3 q4 q5 q6 hsp hrd7 hq7 hb7 hal8 ho8 hw8 hz8 hb78 hdeed
          go_upto_region 10 with fail
          rw [HW8.out]
          obtain ⟨X, hX⟩ : ∃ X, w7.heap.size = X := ⟨_, rfl⟩
          rw [hX] at HO8 HZ8 HS7 HAL8
          have HX7 := Lib.hid hX
          rw [hX]
          clear hX HW8
          have l0 := HL8.out _ _ L0.out
          have l0b : w8.cell? ⟨b0, o0 + i * 5, none⟩ = some (.int .i64 x0) := l0
          have l3 := HL8.out _ _ L3.out
          have l4 := HL8.out _ _ L4.out
          by_cases h4 : r0 = 4
          · have d4 : ((r0 : Int) == 4) = true := by simp [h4]
            have HR4 : Hid (r0 = 4) := Lib.hid h4
            clear h4
            obtain ⟨c0, c1, cc2⟩ := HBK8.out.cells
            go_upto_region 12 with (go_at_call 29; refine (Q0.out _).mono ?_; rintro e w1 ⟨rfl, rfl⟩)
            have hks : ∀ W, Below w8.heap.size w8 W → (W.cell? ⟨S + 1, 0, none⟩ = some (.int .i64 (tn : Int)) ∧ W.cell? ⟨S + 1, 1, none⟩ = some (.slice q n c) ∧ W.cell? ⟨S + 1, 2, none⟩ = some (.int .i64 closed) ∧ W.cell? ⟨b0, o0 + i * 5 + 3, none⟩ = some (.int .i64 x3) ∧ W.cell? ⟨b0, o0 + i * 5 + 4, none⟩ = some (.int .i64 x4)) := fun W hb => by
              obtain ⟨z0, z1, z2⟩ := (HBK8.out.below hb).cells
              exact ⟨z0, z1, z2, (hb.cell (p := ⟨b0, o0 + i * 5 + 3, none⟩) (cell_lt l3)).trans l3, (hb.cell (p := ⟨b0, o0 + i * 5 + 4, none⟩) (cell_lt l4)).trans l4⟩
            have HKS := Lib.hid hks
            have HDI := Lib.hid (fun W (hr : ReadsP W q n g) => ref_Dispute_any (tn : Int) closed (r6 : Int) d2 (r4 : Int) q n c g W (by omega) hr)
            have g1 : IntKind.i64.wrap ((n : Int) + 1) = (n : Int) + 1 := IntWalk.i64_in _ (by omega)
            clear hks
            refine wp_region_held_drew (S := (fun W => W.cell? ⟨S + 1, 0, none⟩ = some (.int .i64 (tn : Int)) ∧ W.cell? ⟨S + 1, 1, none⟩ = some (.slice q n c) ∧ W.cell? ⟨S + 1, 2, none⟩ = some (.int .i64 closed) ∧ W.cell? ⟨b0, o0 + i * 5 + 3, none⟩ = some (.int .i64 x3) ∧ W.cell? ⟨b0, o0 + i * 5 + 4, none⟩ = some (.int .i64 x4))) (by kernel_rfl) ?_ (fun hHeld => ?_)
            · exact HKS.out _ ((Below.refl _ _).drew)
            refine wpAnyH_take (i := 0) (v := ?_) rfl (by kernel_rfl) (by kernel_rfl) (by kernel_rfl) (fun _ _ _ h => h) (Or.inl ⟨by rfl, ?_⟩) (by assumption) ?_
            rotate_left
            · intro w hSw
              try dsimp only at hSw
              go_simp
              all_goals with_reducible rfl
            try simp only [Act.put, List.getElem_toArray, List.getElem_cons_zero, List.setIfInBounds_toArray, List.set_cons_zero, List.set_cons_succ]
            refine wpAnyH_take (i := 1) (v := ?_) rfl (by kernel_rfl) (by kernel_rfl) (by kernel_rfl) (fun _ _ _ h => h) (Or.inl ⟨by rfl, ?_⟩) (by assumption) ?_
            rotate_left
            · intro w hSw
              try dsimp only at hSw
              go_simp
              all_goals with_reducible rfl
            try simp only [Act.put, List.getElem_toArray, List.getElem_cons_succ, List.getElem_cons_zero, List.setIfInBounds_toArray, List.set_cons_zero, List.set_cons_succ]
            refine wpAnyH_take (i := 2) (v := ?_) rfl (by kernel_rfl) (by kernel_rfl) (by kernel_rfl) (fun _ _ _ h => h) (Or.inl ⟨by rfl, ?_⟩) (by assumption) ?_
            rotate_left
            · intro w hSw
              try dsimp only at hSw
              go_simp
              all_goals with_reducible rfl
            try simp only [Act.put, List.getElem_toArray, List.getElem_cons_succ, List.getElem_cons_zero, List.setIfInBounds_toArray, List.set_cons_zero, List.set_cons_succ]
            refine wpAnyH_take (i := 3) (v := ?_) rfl (by kernel_rfl) (by kernel_rfl) (by kernel_rfl) (fun _ _ _ h => h) (Or.inl ⟨by rfl, ?_⟩) (by assumption) ?_
            rotate_left
            · intro w hSw
              try dsimp only at hSw
              go_simp
              all_goals with_reducible rfl
            try simp only [Act.put, List.getElem_toArray, List.getElem_cons_succ, List.getElem_cons_zero, List.setIfInBounds_toArray, List.set_cons_zero, List.set_cons_succ]
            refine wpAnyH_take (i := 4) (v := ?_) rfl (by kernel_rfl) (by kernel_rfl) (by kernel_rfl) (fun _ _ _ h => h) (Or.inl ⟨by rfl, ?_⟩) (by assumption) ?_
            rotate_left
            · intro w hSw
              try dsimp only at hSw
              go_simp
              all_goals with_reducible rfl
            try simp only [Act.put, List.getElem_toArray, List.getElem_cons_succ, List.getElem_cons_zero, List.setIfInBounds_toArray, List.set_cons_zero, List.set_cons_succ]
            refine wpAnyH_take (i := 5) (v := ?_) rfl (by kernel_rfl) (by kernel_rfl) (by kernel_rfl) (fun _ _ _ h => h) (Or.inl ⟨by rfl, ?_⟩) (by assumption) ?_
            rotate_left
            · intro w hSw
              try dsimp only at hSw
              go_simp
              all_goals with_reducible rfl
            try simp only [Act.put, List.getElem_toArray, List.getElem_cons_succ, List.getElem_cons_zero, List.setIfInBounds_toArray, List.set_cons_zero, List.set_cons_succ]
            refine wpAnyH_take (i := 6) (v := ?_) rfl (by kernel_rfl) (by kernel_rfl) (by kernel_rfl) (fun _ _ _ h => h) (Or.inl ⟨by rfl, ?_⟩) (by assumption) ?_
            rotate_left
            · intro w hSw
              try dsimp only at hSw
              go_simp
              all_goals with_reducible rfl
            try simp only [Act.put, List.getElem_toArray, List.getElem_cons_succ, List.getElem_cons_zero, List.setIfInBounds_toArray, List.set_cons_zero, List.set_cons_succ]
            refine wpAnyH_take (i := 7) (v := ?_) rfl (by kernel_rfl) (by kernel_rfl) (by kernel_rfl) (fun _ _ _ h => h) (Or.inl ⟨by rfl, ?_⟩) (by assumption) ?_
            rotate_left
            · intro w hSw
              try dsimp only at hSw
              go_simp
              all_goals with_reducible rfl
            try simp only [Act.put, List.getElem_toArray, List.getElem_cons_succ, List.getElem_cons_zero, List.setIfInBounds_toArray, List.set_cons_zero, List.set_cons_succ]
            refine wpAnyH_take (i := 8) (v := ?_) rfl (by kernel_rfl) (by kernel_rfl) (by kernel_rfl) (fun _ _ _ h => h) (Or.inl ⟨by rfl, ?_⟩) (by assumption) ?_
            rotate_left
            · intro w hSw
              try dsimp only at hSw
              go_simp
              all_goals with_reducible rfl
            try simp only [Act.put, List.getElem_toArray, List.getElem_cons_succ, List.getElem_cons_zero, List.setIfInBounds_toArray, List.set_cons_zero, List.set_cons_succ]
            refine wpAnyH_take (i := 9) (v := ?_) rfl (by kernel_rfl) (by kernel_rfl) (by kernel_rfl) (fun _ _ _ h => h) (Or.inl ⟨by rfl, ?_⟩) (by assumption) ?_
            rotate_left
            · intro w hSw
              try dsimp only at hSw
              go_simp
              all_goals with_reducible rfl
            try simp only [Act.put, List.getElem_toArray, List.getElem_cons_succ, List.getElem_cons_zero, List.setIfInBounds_toArray, List.set_cons_zero, List.set_cons_succ]
            refine wpAnyH_call (i := 10) 29 #[.int .i64 x3, .int .i64 ((n : Int) + 1)] rfl (by kernel_rfl) (by kernel_rfl) (by kernel_rfl) (fun _ _ _ h => h) (by rfl) ?_ (fun W _ => Q6.out W) (by assumption) ?_
            · intro w hSw
              try dsimp only at hSw
              go_simp
            try simp only [Act.put, List.getElem_toArray, List.getElem_cons_succ, List.getElem_cons_zero, List.setIfInBounds_toArray, List.set_cons_zero, List.set_cons_succ]
            refine wpAnyH_take (i := 11) (v := ?_) rfl (by kernel_rfl) (by kernel_rfl) (by kernel_rfl) (fun _ _ _ h => h) (Or.inl ⟨by rfl, ?_⟩) (by assumption) ?_
            rotate_left
            · intro w hSw
              try dsimp only at hSw
              go_simp
              all_goals with_reducible rfl
            try simp only [Act.put, List.getElem_toArray, List.getElem_cons_succ, List.getElem_cons_zero, List.setIfInBounds_toArray, List.set_cons_zero, List.set_cons_succ]
            refine wpAnyH_take (i := 12) (v := ?_) rfl (by kernel_rfl) (by kernel_rfl) (by kernel_rfl) (fun _ _ _ h => h) (Or.inl ⟨by rfl, ?_⟩) (by assumption) ?_
            rotate_left
            · intro w hSw
              try dsimp only at hSw
              go_simp
              all_goals with_reducible rfl
            try simp only [Act.put, List.getElem_toArray, List.getElem_cons_succ, List.getElem_cons_zero, List.setIfInBounds_toArray, List.set_cons_zero, List.set_cons_succ]
            refine wpAnyH_take (i := 13) (v := ?_) rfl (by kernel_rfl) (by kernel_rfl) (by kernel_rfl) (fun _ _ _ h => h) (Or.inl ⟨by rfl, ?_⟩) (by assumption) ?_
            rotate_left
            · intro w hSw
              try dsimp only at hSw
              go_simp
              all_goals with_reducible rfl
            try simp only [Act.put, List.getElem_toArray, List.getElem_cons_succ, List.getElem_cons_zero, List.setIfInBounds_toArray, List.set_cons_zero, List.set_cons_succ]
            refine wpAnyH_take (i := 14) (v := ?_) rfl (by kernel_rfl) (by kernel_rfl) (by kernel_rfl) (fun _ _ _ h => h) (Or.inl ⟨by rfl, ?_⟩) (by assumption) ?_
            rotate_left
            · intro w hSw
              try dsimp only at hSw
              go_simp
              all_goals with_reducible rfl
            try simp only [Act.put, List.getElem_toArray, List.getElem_cons_succ, List.getElem_cons_zero, List.setIfInBounds_toArray, List.set_cons_zero, List.set_cons_succ]
            refine wpAnyH_take (i := 15) (v := ?_) rfl (by kernel_rfl) (by kernel_rfl) (by kernel_rfl) (fun _ _ _ h => h) (Or.inl ⟨by rfl, ?_⟩) (by assumption) ?_
            rotate_left
            · intro w hSw
              try dsimp only at hSw
              go_simp
              all_goals with_reducible rfl
            try simp only [Act.put, List.getElem_toArray, List.getElem_cons_succ, List.getElem_cons_zero, List.setIfInBounds_toArray, List.set_cons_zero, List.set_cons_succ]
            refine wpAnyH_take (i := 16) (v := ?_) rfl (by kernel_rfl) (by kernel_rfl) (by kernel_rfl) (fun _ _ _ h => h) (Or.inl ⟨by rfl, ?_⟩) (by assumption) ?_
            rotate_left
            · intro w hSw
              try dsimp only at hSw
              go_simp
              all_goals with_reducible rfl
            try simp only [Act.put, List.getElem_toArray, List.getElem_cons_succ, List.getElem_cons_zero, List.setIfInBounds_toArray, List.set_cons_zero, List.set_cons_succ]
            refine wpAnyH_call (i := 17) 29 #[.int .i64 x4, .int .i64 1000] rfl (by kernel_rfl) (by kernel_rfl) (by kernel_rfl) (fun _ _ _ h => h) (by rfl) ?_ (fun W _ => Q4.out W) (by assumption) ?_
            · intro w hSw
              try dsimp only at hSw
              go_simp
            try simp only [Act.put, List.getElem_toArray, List.getElem_cons_succ, List.getElem_cons_zero, List.setIfInBounds_toArray, List.set_cons_zero, List.set_cons_succ]
            refine wpAnyH_ready (rs := [18]) (by kernel_rfl) (by simp) ?_
            refine AllReadyH.cons rfl (fun K hK => ?_) AllReadyH.nil
            go_simp
            go_at_call 31
            refine (HDI.out _ (HRD8.out.below (Below.refl _ _).drew)).mono ?_
            rintro e w9 ⟨t2, c2, q2, k2, kc2, g2, er2, rfl, hsp, hrd9, hq9, hcp9, hb9⟩
            have HCP9 := Lib.hid hcp9
            clear hcp9
            have hb9' := (Below.refl w8.heap.size w8).drew.trans hb9
            have hdeed9 := disp_deed hsp HSUB.out HOK.out.1.2
            have hbx9 := HO8.out.below hb9'
            obtain ⟨z0, z1, z2⟩ := hbx9.cells
            have f0 := hbx9.free 0
            have f1 := hbx9.free 1
            have f2 := hbx9.free 2
            refine hK.out _ _ ?_ (fun hHeld2 => ?_)
            · exact HKS.out _ hb9'
            clear hK K hHeld
            have hHeld := hHeld2
            clear hHeld2
            try simp only [Act.put, List.getElem_toArray, List.getElem_cons_succ, List.getElem_cons_zero, List.setIfInBounds_toArray, List.set_cons_zero, List.set_cons_succ]
            refine wpAnyH_take (i := 19) (v := ?_) rfl (by kernel_rfl) (by kernel_rfl) (by kernel_rfl) (fun _ _ _ h => h) (Or.inl ⟨by rfl, ?_⟩) (by assumption) ?_
            rotate_left
            · intro w hSw
              try dsimp only at hSw
              go_simp
              all_goals with_reducible rfl
            try simp only [Act.put, List.getElem_toArray, List.getElem_cons_succ, List.getElem_cons_zero, List.setIfInBounds_toArray, List.set_cons_zero, List.set_cons_succ]
            refine wpAnyH_take (i := 20) (v := ?_) rfl (by kernel_rfl) (by kernel_rfl) (by kernel_rfl) (fun _ _ _ h => h) (Or.inl ⟨by rfl, ?_⟩) (by assumption) ?_
            rotate_left
            · intro w hSw
              try dsimp only at hSw
              go_simp
              all_goals with_reducible rfl
            try simp only [Act.put, List.getElem_toArray, List.getElem_cons_succ, List.getElem_cons_zero, List.setIfInBounds_toArray, List.set_cons_zero, List.set_cons_succ]
            refine wpAnyH_take (i := 21) (v := ?_) rfl (by kernel_rfl) (by kernel_rfl) (by kernel_rfl) (fun _ _ _ h => h) (Or.inl ⟨by rfl, ?_⟩) (by assumption) ?_
            rotate_left
            · intro w hSw
              try dsimp only at hSw
              go_simp
              all_goals with_reducible rfl
            try simp only [Act.put, List.getElem_toArray, List.getElem_cons_succ, List.getElem_cons_zero, List.setIfInBounds_toArray, List.set_cons_zero, List.set_cons_succ]
            refine wpAnyH_ready (rs := [22]) (by kernel_rfl) (by simp) ?_
            refine AllReadyH.cons rfl (fun K hK => ?_) AllReadyH.nil
            go_simp
            refine hK.out _ _ ?_ (fun hHeld2 => ?_)
            · obtain ⟨y1, y2, y3, y4, y5⟩ := HKS.out _ hb9'
              have hXS : X ≠ S + 1 := by have := HS7.out; omega
              have hXb : X ≠ b0 := by have := HS7.out; have := HB0S.out; omega
              exact ⟨(three_far _ hXS _ _ _ _).trans y1, (three_far _ hXS _ _ _ _).trans y2, (three_far _ hXS _ _ _ _).trans y3, (three_far _ hXb _ _ _ _).trans y4, (three_far _ hXb _ _ _ _).trans y5⟩
            clear hK K hHeld
            have hHeld := hHeld2
            clear hHeld2
            try simp only [Act.put, List.getElem_toArray, List.getElem_cons_succ, List.getElem_cons_zero, List.setIfInBounds_toArray, List.set_cons_zero, List.set_cons_succ]
            refine wpAnyH_take (i := 23) (v := ?_) rfl (by kernel_rfl) (by kernel_rfl) (by kernel_rfl) (fun _ _ _ h => h) (Or.inl ⟨by rfl, ?_⟩) (by assumption) ?_
            rotate_left
            · intro w hSw
              try dsimp only at hSw
              go_simp
              all_goals with_reducible rfl
            try simp only [Act.put, List.getElem_toArray, List.getElem_cons_succ, List.getElem_cons_zero, List.setIfInBounds_toArray, List.set_cons_zero, List.set_cons_succ]
            refine wpAnyH_done (by kernel_rfl) ?_ _
            have hXS : S + 1 ≠ X := by have := HS7.out; omega
            have HDEED9 := Lib.hid hdeed9
            have HO9 := Lib.hid (hbx9.setAll t2 c2 (.slice q2 k2 kc2))
            have HRD9 := Lib.hid (readsP_three hrd9 (b := X) (fun a h => by have h1 : w8.heap.size ≤ a.block := hq9 a h; have := HZ8.out; omega) (.int .i64 t2) (.slice q2 k2 kc2) (.int .i64 c2))
            have HQ9 : Hid (∀ a, q2 = some a → S + 2 ≤ a.block) := Lib.hid (fun a h => by have h1 : w8.heap.size ≤ a.block := hq9 a h; have := HZ8.out; have := HS7.out; omega)
            have HB9 := Lib.hid (below_three (HB8.out.trans (hb9'.mono (by have := HS7.out; have := HZ8.out; omega))) (b := X) (by have := HS7.out; omega) (.int .i64 t2) (.slice q2 k2 kc2) (.int .i64 c2))
            have HBK9 := Lib.hid ((HBK8.out.below hb9').three hXS (.int .i64 t2) (.slice q2 k2 kc2) (.int .i64 c2))
            have HRDG9 := Lib.hid (HRD7.out.below (W' := (((w9.setCell ⟨X, 0, none⟩ (.int .i64 t2)).setCell ⟨X, 1, none⟩ (.slice q2 k2 kc2)).setCell ⟨X, 2, none⟩ (.int .i64 c2))) (by
              rw [HX7.out]
              exact below_three (HAL8.out.trans (hb9'.mono (by have := HZ8.out; omega))) (Nat.le_refl _) _ _ _))
            obtain ⟨w10, hw10⟩ : ∃ w10, (((w9.setCell ⟨X, 0, none⟩ (.int .i64 t2)).setCell ⟨X, 1, none⟩ (.slice q2 k2 kc2)).setCell ⟨X, 2, none⟩ (.int .i64 c2)) = w10 := ⟨_, rfl⟩
            rw [hw10] at HO9 HRD9 HB9 HBK9 HRDG9 ⊢
            clear hdeed9 hbx9 hw10 hHeld hrd9 hq9 hb9 hb9' z0 z1 z2 f0 f1 f2 c0 c1 cc2 l0 l0b l3 l4
            have hez := HDEED9.out.2.2.2
            have HBK9F := HBK9.out
            have f0 := HBK9F.free 0
            have f1 := HBK9F.free 1
            have f2 := HBK9F.free 2
            obtain ⟨c0, c1, c2'⟩ := HBK9F.cells
            obtain ⟨o0', o1', o2'⟩ := HO9.out.cells
            rcases hez with rfl | rfl
            · obtain ⟨rfl, hok2, hk2, hsub2⟩ := HDEED9.out.1 rfl
              have HF := Lib.hid (HBK9F.setAll (tn : Int) c2 (.slice q2 k2 kc2))
              have HRF := Lib.hid (readsP_three HRD9.out (b := S + 1) (fun a h => by have := HQ9.out a h; omega) (.int .i64 (tn : Int)) (.slice q2 k2 kc2) (.int .i64 c2))
              have HBF := Lib.hid (below_three HB9.out (b := S + 1) (Nat.le_refl _) (.int .i64 (tn : Int)) (.slice q2 k2 kc2) (.int .i64 c2))
              have HOK2 := Lib.hid hok2
              have HSUB2 := Lib.hid hsub2
              clear hok2 hsub2 HBK9F
              go_wp2_with fail
              exact ⟨⟨i + 1, k2, kc2, _, c2, q2, g2, by go_num, rfl, by omega, by omega, by omega, e0, e1, HOK2, HSUB2, HF.out, HRF, HQ9, HCP9, HBF.out⟩, by simp [intOf]; omega⟩
            · clear HBK9F
              go_wp2_with fail
              exact ⟨⟨i + 1, n, c, _, closed, q, g, by go_num, rfl, by omega, by omega, by omega, e0, e1, HOK, HSUB, HBK9.out, HRDG9, HQ, HCP, HB9.out⟩, by simp [intOf]; omega⟩
          · have d4 : ((r0 : Int) == 4) = false := by simp; omega
            by_cases h5 : r0 = 5
            · have d5 : ((r0 : Int) == 5) = true := by simp [h5]
              have HR5 : Hid (r0 = 5) := Lib.hid h5
              clear h4 h5
              obtain ⟨c0, c1, cc2⟩ := HBK8.out.cells
              have HCL := Lib.hid (ref_Close_any (tn : Int) closed closed q n c g w8 (by omega) HRD8.out)
              go_wp2_with (go_at_call 29; refine (Q0.out _).mono ?_; rintro e w1 ⟨rfl, rfl⟩)
              refine HCL.out.mono ?_
              rintro e w9 ⟨t2, c2, q2, k2, kc2, g2, er2, rfl, hsp, hrd9, hq9, hcp9, hb9⟩
              have HCP9 := Lib.hid hcp9
              clear hcp9
              have hdeed9 := close_deed hsp HSUB.out
              have hbx9 := HO8.out.below hb9
              obtain ⟨z0, z1, z2⟩ := hbx9.cells
              have f0 := hbx9.free 0
              have f1 := hbx9.free 1
              have f2 := hbx9.free 2
              have hXS : S + 1 ≠ X := by have := HS7.out; omega
              have HDEED9 := Lib.hid hdeed9
              have HO9 := Lib.hid (hbx9.setAll t2 c2 (.slice q2 k2 kc2))
              have HRD9 := Lib.hid (readsP_three hrd9 (b := X) (fun a h => by have h1 : w8.heap.size ≤ a.block := hq9 a h; have := HZ8.out; omega) (.int .i64 t2) (.slice q2 k2 kc2) (.int .i64 c2))
              have HQ9 : Hid (∀ a, q2 = some a → S + 2 ≤ a.block) := Lib.hid (fun a h => by have h1 : w8.heap.size ≤ a.block := hq9 a h; have := HZ8.out; have := HS7.out; omega)
              have HB9 := Lib.hid (below_three (HB8.out.trans (hb9.mono (by have := HS7.out; have := HZ8.out; omega))) (b := X) (by have := HS7.out; omega) (.int .i64 t2) (.slice q2 k2 kc2) (.int .i64 c2))
              have HBK9 := Lib.hid ((HBK8.out.below hb9).three hXS (.int .i64 t2) (.slice q2 k2 kc2) (.int .i64 c2))
              have HRDG9 := Lib.hid (HRD7.out.below (W' := (((w9.setCell ⟨X, 0, none⟩ (.int .i64 t2)).setCell ⟨X, 1, none⟩ (.slice q2 k2 kc2)).setCell ⟨X, 2, none⟩ (.int .i64 c2))) (by
                rw [HX7.out]
                exact below_three (HAL8.out.trans (hb9.mono (by have := HZ8.out; omega))) (Nat.le_refl _) _ _ _))
              have hc0 := hdeed9.2.1
              have hc12 := hdeed9.2.2.1
              obtain ⟨o0x, o1x, o2x⟩ := HO9.out.cells
              clear hdeed9 hbx9 hrd9 hq9 hb9 c0 c1 cc2 l0 l0b l3 l4 hsp
              obtain ⟨w10, hw10⟩ : ∃ w10, (((w9.setCell ⟨X, 0, none⟩ (.int .i64 t2)).setCell ⟨X, 1, none⟩ (.slice q2 k2 kc2)).setCell ⟨X, 2, none⟩ (.int .i64 c2)) = w10 := ⟨_, rfl⟩
              go_upto_region 15 with fail
              rw [hw10] at HO9 HRD9 HB9 HBK9 HRDG9 o0x o1x o2x
              clear hw10 z0 z1 z2 f0 f1 f2 o0x o1x o2x
              have hez := HDEED9.out.2.2.2
              have HBK9F := HBK9.out
              have f0 := HBK9F.free 0
              have f1 := HBK9F.free 1
              have f2 := HBK9F.free 2
              obtain ⟨c0, c1, c2'⟩ := HBK9F.cells
              obtain ⟨o0', o1', o2'⟩ := HO9.out.cells
              rcases hez with rfl | rfl
              · obtain ⟨rfl, hok2, hk2, hsub2⟩ := HDEED9.out.1 rfl
                have HF := Lib.hid (HBK9F.setAll (tn : Int) c2 (.slice q2 k2 kc2))
                have HRF := Lib.hid (readsP_three HRD9.out (b := S + 1) (fun a h => by have := HQ9.out a h; omega) (.int .i64 (tn : Int)) (.slice q2 k2 kc2) (.int .i64 c2))
                have HBF := Lib.hid (below_three HB9.out (b := S + 1) (Nat.le_refl _) (.int .i64 (tn : Int)) (.slice q2 k2 kc2) (.int .i64 c2))
                have HOK2 := Lib.hid hok2
                have HSUB2 := Lib.hid hsub2
                clear hok2 hsub2 HBK9F
                go_wp2_with fail
                exact ⟨⟨i + 1, k2, kc2, _, c2, q2, g2, by go_num, rfl, by omega, by omega, by omega, (by split <;> (try split) <;> omega), (by split <;> (try split) <;> omega), HOK2, HSUB2, HF.out, HRF, HQ9, HCP9, HBF.out⟩, by simp [intOf]; omega⟩
              · clear HBK9F
                go_wp2_with fail
                exact ⟨⟨i + 1, n, c, _, closed, q, g, by go_num, rfl, by omega, by omega, by omega, (by split <;> (try split) <;> omega), (by split <;> (try split) <;> omega), HOK, HSUB, HBK9.out, HRDG9, HQ, HCP, HB9.out⟩, by simp [intOf]; omega⟩
            · have d5 : ((r0 : Int) == 5) = false := by simp; omega
              obtain ⟨t2, rfl⟩ : ∃ t2, t2 = t' := ⟨_, rfl⟩
              obtain ⟨c2, rfl⟩ : ∃ c2, c2 = c' := ⟨_, rfl⟩
              obtain ⟨q2, rfl⟩ : ∃ q2, q2 = q' := ⟨_, rfl⟩
              obtain ⟨k2, rfl⟩ : ∃ k2, k2 = k' := ⟨_, rfl⟩
              obtain ⟨kc2, rfl⟩ : ∃ kc2, kc2 = kc := ⟨_, rfl⟩
              obtain ⟨g2, rfl⟩ : ∃ g2, g2 = g' := ⟨_, rfl⟩
              obtain ⟨er2, rfl⟩ : ∃ er2, er2 = er := ⟨_, rfl⟩
              have HO9 := HO8
              have HRD9 := HRD8'
              have HQ9 := HQ8
              have HCP9 := HCP8
              have HB9 := HB8
              have HBK9 := HBK8
              have HRDG9 := HRD8
              have HDEED9 := HDEED
              clear HO8 HRD8' HQ8 HB8 HBK8 HRD8 HDEED h4 h5
              go_upto_region 16 with (go_at_call 29; refine (Q0.out _).mono ?_; rintro e w1 ⟨rfl, rfl⟩)
              clear l0 l0b l3 l4
              have hez := HDEED9.out.2.2.2
              have HBK9F := HBK9.out
              have f0 := HBK9F.free 0
              have f1 := HBK9F.free 1
              have f2 := HBK9F.free 2
              obtain ⟨c0, c1, c2'⟩ := HBK9F.cells
              obtain ⟨o0', o1', o2'⟩ := HO9.out.cells
              rcases hez with rfl | rfl
              · obtain ⟨rfl, hok2, hk2, hsub2⟩ := HDEED9.out.1 rfl
                have HF := Lib.hid (HBK9F.setAll (tn : Int) c2 (.slice q2 k2 kc2))
                have HRF := Lib.hid (readsP_three HRD9.out (b := S + 1) (fun a h => by have := HQ9.out a h; omega) (.int .i64 (tn : Int)) (.slice q2 k2 kc2) (.int .i64 c2))
                have HBF := Lib.hid (below_three HB9.out (b := S + 1) (Nat.le_refl _) (.int .i64 (tn : Int)) (.slice q2 k2 kc2) (.int .i64 c2))
                have HOK2 := Lib.hid hok2
                have HSUB2 := Lib.hid hsub2
                clear hok2 hsub2 HBK9F
                go_wp2_with fail
                exact ⟨⟨i + 1, k2, kc2, _, c2, q2, g2, by go_num, rfl, by omega, by omega, by omega, e0, e1, HOK2, HSUB2, HF.out, HRF, HQ9, HCP9, HBF.out⟩, by simp [intOf]; omega⟩
              · clear HBK9F
                go_wp2_with fail
                exact ⟨⟨i + 1, n, c, _, closed, q, g, by go_num, rfl, by omega, by omega, by omega, e0, e1, HOK, HSUB, HBK9.out, HRDG9, HQ, HCP, HB9.out⟩, by simp [intOf]; omega⟩
      · have hBW : Below w.heap.size w wr := HBL2.out.trans (hB.mono (by have := HS.out; omega))
        have hr := HR2.out.low hB (by omega)
        obtain ⟨r0, r1, r2⟩ := hr.cells
        have f0 := hr.free 0
        have f1 := hr.free 1
        have f2 := hr.free 2
        obtain ⟨c0, c1, c2⟩ := hbk.cells
        have HRF := Lib.hid (readsP_three HRD.out (b := S) (fun a h => by have := HQ.out a h; omega) (.int .i64 (tn : Int)) (.slice q n c) (.int .i64 closed))
        have HBF := Lib.hid (below_three hBW (b := S) (by have := HS.out; omega) (.int .i64 (tn : Int)) (.slice q n c) (.int .i64 closed))
        clear hbk hB hr hBW
        go_wp2_with fail
        refine bodyPost_ret (v := .agg #[.int .i64 (tn : Int), .slice q n c, .int .i64 closed]) (by simp [results, Tryd.results8, go_sem, r0, r1, r2]) rfl ?_
        exact ⟨tn, n, c, closed, q, g, rfl, HOK.out, by omega, HSUB.out, HRF.out, (fun a h => by have := HQ.out a h; have := HS.out; omega), HCP.out, HBF.out⟩
    · have hBW : Below w.heap.size w wr := HBL2.out.trans (hB.mono (by have := HS.out; omega))
      have hr := HR2.out.low hB (by omega)
      obtain ⟨r0, r1, r2⟩ := hr.cells
      have f0 := hr.free 0
      have f1 := hr.free 1
      have f2 := hr.free 2
      obtain ⟨c0, c1, c2⟩ := hbk.cells
      have HRF := Lib.hid (readsP_three HRD.out (b := S) (fun a h => by have := HQ.out a h; omega) (.int .i64 (tn : Int)) (.slice q n c) (.int .i64 closed))
      have HBF := Lib.hid (below_three hBW (b := S) (by have := HS.out; omega) (.int .i64 (tn : Int)) (.slice q n c) (.int .i64 closed))
      clear hbk hB hr hBW
      go_wp2_with fail
      refine bodyPost_ret (v := .agg #[.int .i64 (tn : Int), .slice q n c, .int .i64 closed]) (by simp [results, Tryd.results8, go_sem, r0, r1, r2]) rfl ?_
      exact ⟨tn, n, c, closed, q, g, rfl, HOK.out, by omega, HSUB.out, HRF.out, (fun a h => by have := HQ.out a h; have := HS.out; omega), HCP.out, HBF.out⟩
theorem Made_any (x : Int) (q0 : Option Addr) (m c0 : Nat) (h : Nat → Nat → Int) (w : World) (hin : ArrsIn w q0 m h) (bx : -9223372036854775808 ≤ x ∧ x ≤ 9223372036854775807) :
    Calls Tryd.prog 8 #[.int .i64 x, .slice q0 m c0] w (IsMadeB w) :=
  (Made_cap x q0 m c0 h w hin bx).mono fun _ _ ⟨tn, n, c, cl, q, g, h1, h2, h3, h4, h5, h6, _, h7⟩ => ⟨tn, n, c, cl, q, g, h1, h2, h3, h4, h5, h6, h7⟩
end Go.Proofs.YtcfplkbbgjiocaaDoor
