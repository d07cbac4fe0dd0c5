/- Package book: balances.add. Conditions: teams in range, small balances. -/
import Derived.Test.YtcfplkbbgjiocaaBookUniq
namespace Go.Proofs.Ytcfplkbbgjiocaa
open Go Go.RowKit Go.Shelf
/-- Four numbers in a block that may be written. -/
def ABox (W : World) (G : Nat) (f : Nat → Int) : Prop := ∃ (cs : Array Value) (t : TypeId), W.heap[G]? = some (.cells cs t (0, 0)) ∧ ∀ i, i < 4 → cs[i]? = some (.int .i64 (f i))
section
variable {W W' : World} {G : Nat} {f : Nat → Int}
theorem ABox.lt (h : ABox W G f) : G < W.heap.size := by
  obtain ⟨cs, t, h, _⟩ := h
  exact (Array.getElem?_eq_some_iff.1 h).1
theorem ABox.cell (h : ABox W G f) (i : Nat) (hi : i < 4) : W.cell? ⟨G, i, none⟩ = some (.int .i64 (f i)) := by
  obtain ⟨cs, t, h, hc⟩ := h
  unfold World.cell?
  simp only [h]
  exact hc i hi
theorem ABox.free (h : ABox W G f) (i : Nat) : W.frozen? ⟨G, i, none⟩ = false := by
  obtain ⟨cs, t, h, _⟩ := h
  unfold World.frozen?
  rw [h]
  simp
theorem ABox.below (h : ABox W G f) (hb : Below W.heap.size W W') : ABox W' G f := by
  have hl := h.lt
  obtain ⟨cs, t, h, hc⟩ := h
  exact ⟨cs, t, (hb.block _ hl).trans h, hc⟩
theorem ABox.drew (h : ABox W G f) : ABox W.drew G f := h
theorem ABox.set (h : ABox W G f) (j : Nat) (hj : j < 4) (x : Int) : ABox (W.setCell ⟨G, j, none⟩ (.int .i64 x)) G (fun i => if i = j then x else f i) := by
  obtain ⟨cs, t, h, hc⟩ := h
  have hl := (Array.getElem?_eq_some_iff.1 (hc j hj)).1
  refine ⟨_, t, heap_set h _, fun i hi => ?_⟩
  by_cases e : i = j
  · subst e
    rw [Array.getElem?_setIfInBounds_self_of_lt hl]
    simp
  · rw [Array.getElem?_setIfInBounds_ne (by omega), hc i hi]
    simp [e]
theorem ABox.congr {f' : Nat → Int} (h : ABox W G f) (e : ∀ i, i < 4 → f' i = f i) : ABox W G f' := by
  obtain ⟨cs, t, h, hc⟩ := h
  exact ⟨cs, t, h, fun i hi => by rw [hc i hi, e i hi]⟩
end
set_option maxRecDepth 100000 in
set_option maxHeartbeats 4000000 in
theorem add_any (G : Nat) (f : Nat → Int) (p : Pst) (c d : Nat) (w : World) (hA : ABox w G f) (hc : p.cre = (c : Int)) (hd : p.deb = (d : Int)) (hc4 : c < 4) (hd4 : d < 4) (hcd : c ≠ d) (hf : ∀ i, i < 4 → -300000000000 ≤ f i ∧ f i ≤ 300000000000) (ha : 0 ≤ p.amt ∧ p.amt ≤ 1000000000) :
    Calls Try.prog 35 #[.pointer (some ⟨G, 0, none⟩), .agg p.cells] w fun e w' => (∃ v, e = .returned v) ∧ ABox w' G (fun i => f i + eff p i) ∧ Below G w w' ∧ (∀ b, b < w.heap.size → b ≠ G → w'.heap[b]? = w.heap[b]?) := by
  have hGl := hA.lt
  have hal : Below w.heap.size w (w.alloc (.cells p.cells 27)) := (Below.refl _ _).alloc (Nat.le_refl _) _
  have hA1 := hA.below hal
  have hp1 := PCells.new w p 27
  obtain ⟨P, hP⟩ : ∃ P, w.heap.size = P := ⟨_, rfl⟩
  have HP := Lib.hid hP
  obtain ⟨w1, hw1⟩ : ∃ w1, w.alloc (.cells p.cells 27) = w1 := ⟨_, rfl⟩
  have HW1 := Lib.hid hw1
  rw [hw1] at hal hA1 hp1
  rw [hP] at hp1 hGl
  obtain ⟨q0, q1, q2, q3, q4, q5, q6⟩ := hp1
  rw [hc] at q3
  rw [hd] at q2
  have HA1 := Lib.hid hA1
  have HAL := Lib.hid hal
  have x1 := hA1.cell c hc4
  have x2 := hA1.free c
  have v0 : (0 : Int) ≤ (c : Int) := by omega
  have v1 : (c : Int) < 4 := by omega
  have v2 : (0 : Int) ≤ (d : Int) := by omega
  have v3 : (d : Int) < 4 := by omega
  have hfc := hf c hc4
  have hfd := hf d hd4
  have HEF : Hid (∀ i : Nat, eff p i = (if i = c then p.amt else 0) - (if i = d then p.amt else 0)) := Lib.hid (fun i => by
    unfold eff
    rw [hc, hd]
    by_cases e1 : i = c <;> by_cases e2 : i = d
    · omega
    · rw [if_pos (by omega), if_neg (by omega), if_pos e1, if_neg e2]
    · rw [if_neg (by omega), if_pos (by omega), if_neg e1, if_pos e2]
    · rw [if_neg (by omega), if_neg (by omega), if_neg e1, if_neg e2])
  obtain ⟨a, hae⟩ : ∃ a, p.amt = a := ⟨_, rfl⟩
  rw [hae] at q4 ha HEF
  obtain ⟨y, hy⟩ : ∃ y, f c = y := ⟨_, rfl⟩
  obtain ⟨z, hz⟩ : ∃ z, f d = z := ⟨_, rfl⟩
  have HY := Lib.hid hy
  have HZ := Lib.hid hz
  rw [hy] at x1 hfc
  rw [hz] at hfd
  obtain ⟨ha1, ha2⟩ := ha
  obtain ⟨hfc1, hfc2⟩ := hfc
  obtain ⟨hfd1, hfd2⟩ := hfd
  clear hA hal hA1 hw1 hP hf hae hy hz hc hd
  go_enter Try.func35, Try.ntmps35
  go_upto_region 1 with fail
  rw [HW1.out, HP.out]
  clear HW1
  go_region
  all_goals (try go_wp2_with fail)
  have hPG : G ≠ P := by have := HA1.out.lt; omega
  have k : ∀ o, (w1.setCell ⟨G, c, none⟩ (.int .i64 (y + a))).drew.cell? ⟨P, o, none⟩ = w1.cell? ⟨P, o, none⟩ := fun o => World.cell?_setCell_far w1 ⟨G, c, none⟩ ⟨P, o, none⟩ _ hPG
  have r2 := (k _).trans q2
  have r4 := (k _).trans q4
  have hA2 := (HA1.out.set c hc4 (y + a)).drew
  have HK2 : Hid (∀ b, b < w.heap.size → b ≠ G → (w1.setCell ⟨G, c, none⟩ (.int .i64 (y + a))).drew.heap[b]? = w.heap[b]?) := Lib.hid (fun b hb hne => (Below.heap_setCell _ _ _ b hne).trans (HAL.out.block b hb))
  have HB2 : Hid (Below G w (w1.setCell ⟨G, c, none⟩ (.int .i64 (y + a))).drew) := Lib.hid (Below_set (HAL.out.mono (by have := HP.out; omega)) (b := G) (i := c) (Nat.le_refl G) (.int .i64 (y + a))).drew
  obtain ⟨w2, hw2⟩ : ∃ w2, (w1.setCell ⟨G, c, none⟩ (.int .i64 (y + a))).drew = w2 := ⟨_, rfl⟩
  rw [hw2] at r2 r4 hA2 HK2 HB2 ⊢
  have x3 := hA2.cell d hd4
  have x4 := hA2.free d
  rw [if_neg (fun e => hcd e.symm), HZ.out] at x3
  have HA2 := Lib.hid hA2
  clear hw2 k hA2 x1 x2 q0 q1 q2 q3 q4 q5 q6
  go_region
  all_goals (try go_wp2_with fail)
  have hA3 : ABox (w2.setCell ⟨G, d, none⟩ (.int .i64 (z - a))).drew G (fun i => f i + eff p i) := (HA2.out.set d hd4 (z - a)).drew.congr (fun i hi => by
    rw [HEF.out i]
    by_cases e1 : i = d
    · rw [if_pos e1, if_pos e1, if_neg (by omega), e1, HZ.out]
      omega
    · rw [if_neg e1, if_neg e1]
      by_cases e2 : i = c
      · rw [if_pos e2, if_pos e2, e2, HY.out]
        omega
      · rw [if_neg e2, if_neg e2]
        omega)
  have HA3 := Lib.hid hA3
  clear hA3
  refine bodyPost_end (v := .tuple #[]) (by simp [results, Try.results35, go_sem]) rfl ?_
  exact ⟨⟨_, rfl⟩, HA3.out, (Below_set HB2.out (b := G) (i := d) (Nat.le_refl G) (.int .i64 (z - a))).drew, fun b hb hne => (Below.heap_setCell _ _ _ b hne).trans (HK2.out b hb hne)⟩
end Go.Proofs.Ytcfplkbbgjiocaa
