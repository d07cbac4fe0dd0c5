/- Package book: balances.list. Conditions: two to four teams. -/
import Derived.Test.YtcfplkbbgjiocaaBookNum
import Derived.ChangeKeysEq
namespace Go.Proofs.Ytcfplkbbgjiocaa
open Go Go.RowKit Go.Shelf
theorem eq4 (x0 x1 x2 x3 : Int) (W : World) : (Op.equalIn 10000 63 (.agg #[.int .i64 x0, .int .i64 x1, .int .i64 x2, .int .i64 x3]) (.agg #[.int .i64 0, .int .i64 0, .int .i64 0, .int .i64 0])).run Try.prog W = .ok (decide (x0 = 0 ∧ x1 = 0 ∧ x2 = 0 ∧ x3 = 0)) W := by
  obtain ⟨i0, hi0, hj0, hj1, hj2⟩ := infoInt
  have hc : Try.prog.cellsOf 3 = 1 := by kernel_rfl
  have hs : ∀ w, (sizeOf 3).run Try.prog w = .ok 1 w := fun w => by simp [sizeOf, typeInfo, hi0, hj1]
  have hu := Try.underlying3
  rw [run_equalIn_array (P := Try.prog) W 9999 _ _ Try.underlying63 hi0, hc]
  simp only [show List.range 4 = [0, 1, 2, 3] from rfl, Op.eqItems]
  by_cases h0 : x0 = 0
  · by_cases h1 : x1 = 0
    · by_cases h2 : x2 = 0
      · by_cases h3 : x3 = 0 <;> simp [part, hs, run_equalIn_int, hu, h0, h1, h2, h3]
      · simp [part, hs, run_equalIn_int, hu, h0, h1, h2]
    · simp [part, hs, run_equalIn_int, hu, h0, h1]
  · simp [part, hs, run_equalIn_int, hu, h0]
/-- The block of a slice may be written. -/
def FreeAt (W : World) (p : Option Addr) : Prop := ∀ a, p = some a → ∃ (cs : Array Value) (t : TypeId), W.heap[a.block]? = some (.cells cs t (0, 0))
theorem FreeAt.below {W W' : World} {p : Option Addr} (h : FreeAt W p) (hb : Below W.heap.size W W') : FreeAt W' p := fun a ha => by
  obtain ⟨cs, t, hc⟩ := h a ha
  exact ⟨cs, t, (hb.block a.block (Array.getElem?_eq_some_iff.1 hc).1).trans hc⟩
theorem FreeAt.put {W : World} {p : Option Addr} {D : Nat} {o : Obj} (h : FreeAt W p) (hp : ∀ a, p = some a → D < a.block) : FreeAt (W.putObj D o) p := fun a ha => by
  obtain ⟨cs, t, hc⟩ := h a ha
  have := hp a ha
  exact ⟨cs, t, (World.putObj_heap_other (by omega)).trans hc⟩
theorem own_freeI {W : World} {base e size n : Nat} {p : Option Addr} {c : Nat} {xs : List Value} (h : W.ownsRow base e size (.slice p n c) n xs) : FreeAt W p := fun a ha => by
  rcases h.2 with ⟨h1, _⟩ | ⟨G, cap, cur, h1, _, h2, _⟩
  · cases h1
    cases ha
  · cases h1
    cases ha
    exact ⟨cur, e, h2⟩
set_option maxRecDepth 100000 in
set_option maxHeartbeats 4000000 in
theorem list_any (f : Nat → Int) (tn : Nat) (w : World) (h1 : 1 ≤ tn) (h4 : tn ≤ 4) :
    Calls Try.prog 36 #[.agg #[.int .i64 (f 0), .int .i64 (f 1), .int .i64 (f 2), .int .i64 (f 3)], .int .i64 (tn : Int)] w fun e w' => ∃ (p : Option Addr) (c : Nat), e = .returned (.slice p tn c) ∧ ReadsI w' p tn f ∧ (∀ a, p = some a → w.heap.size ≤ a.block) ∧ FreeAt w' p ∧ Below w.heap.size w w' := by
  obtain ⟨i0, hi0, hj0, hj1, hj2⟩ := infoInt
  obtain ⟨x0, hx0⟩ : ∃ x, f 0 = x := ⟨_, rfl⟩
  obtain ⟨x1, hx1⟩ : ∃ x, f 1 = x := ⟨_, rfl⟩
  obtain ⟨x2, hx2⟩ : ∃ x, f 2 = x := ⟨_, rfl⟩
  obtain ⟨x3, hx3⟩ : ∃ x, f 3 = x := ⟨_, rfl⟩
  have HF : Hid (∀ i, i < 4 → f i = if i = 0 then x0 else if i = 1 then x1 else if i = 2 then x2 else x3) := Lib.hid (fun i hi => by
    rcases (show i = 0 ∨ i = 1 ∨ i = 2 ∨ i = 3 by omega) with rfl | rfl | rfl | rfl <;> simp [hx0, hx1, hx2, hx3])
  rw [hx0, hx1, hx2, hx3]
  clear hx0 hx1 hx2 hx3
  have v0 : (0 : Int) ≤ (tn : Int) := by omega
  have v1 : (tn : Int) ≤ 4 := by omega
  have hq := eq4 x0 x1 x2 x3
  by_cases hz : x0 = 0 ∧ x1 = 0 ∧ x2 = 0 ∧ x3 = 0
  · have HZ := Lib.hid hz
    have d1 : decide (x0 = 0 ∧ x1 = 0 ∧ x2 = 0 ∧ x3 = 0) = true := decide_eq_true hz
    rw [d1] at hq
    clear hz d1
    have hmk := fun W : World => run_make (P := Try.prog) W 37 3 i0 (.int .i64 0) Try.underlying37 hi0 hj0 .i64 .i64 (tn : Int) (tn : Int) (by omega) (by omega) (by rw [hj2]; omega) (by omega)
    simp only [Int.toNat_natCast, hj1] at hmk
    go_enter Try.func36, Try.ntmps36
    go_wp2_with fail
    go_ret
    refine ⟨_, tn, rfl, fun i hi => ⟨_, 0, rfl, fun j hj => ?_⟩, fun a h => ?_, fun a h => ?_, ?_⟩
    · have e : f j = 0 := by
        rw [HF.out j (by omega), HZ.out.1, HZ.out.2.1, HZ.out.2.2.1, HZ.out.2.2.2]
        simp
      have h := World.alloc_heap_new (w.alloc (.cells #[.int .i64 x0, .int .i64 x1, .int .i64 x2, .int .i64 x3] 63)) (.cells (madeCells #[Value.int .i64 0] tn) 3)
      have hm : (madeCells #[Value.int .i64 0] tn).toList = List.replicate tn (.int .i64 0) := by
        have := made_one (.int .i64 0) rfl tn
        rw [Nat.mul_one] at this
        exact this
      rw [World.size_alloc] at h
      rw [e, Nat.zero_add]
      unfold World.cell?
      rw [h]
      show (madeCells #[Value.int .i64 0] tn)[j]? = _
      rw [← Array.getElem?_toList, hm, List.getElem?_replicate, if_pos hj]
    · cases h
      show w.heap.size ≤ _
      simp
    · cases h
      have h := World.alloc_heap_new (w.alloc (.cells #[.int .i64 x0, .int .i64 x1, .int .i64 x2, .int .i64 x3] 63)) (.cells (madeCells #[Value.int .i64 0] tn) 3)
      rw [World.size_alloc] at h
      exact ⟨_, _, h⟩
    · exact ((Below.refl _ _).alloc (Nat.le_refl _) _).alloc (by simp) _
  · have d1 : decide (x0 = 0 ∧ x1 = 0 ∧ x2 = 0 ∧ x3 = 0) = false := decide_eq_false hz
    rw [d1] at hq
    clear hz d1
    go_enter Try.func36, Try.ntmps36
    have hown : ((w.alloc (.cells #[.int .i64 x0, .int .i64 x1, .int .i64 x2, .int .i64 x3] 63)).alloc (.cells #[] 3)).ownsRow w.heap.size 3 1 (.slice (some ⟨w.heap.size + 1, 0, none⟩) 0 0) 0 [] := by
      have h := World.ownsRow_lit (base := w.heap.size) (e := 3) (size := 1) (w.alloc (.cells #[.int .i64 x0, .int .i64 x1, .int .i64 x2, .int .i64 x3] 63)) #[] 0 (by simp) (by decide) rfl
      rw [World.size_alloc] at h
      exact h
    have hB : Below w.heap.size w ((w.alloc (.cells #[.int .i64 x0, .int .i64 x1, .int .i64 x2, .int .i64 x3] 63)).alloc (.cells #[] 3)) := ((Below.refl _ _).alloc (Nat.le_refl _) _).alloc (by simp) _
    have hnw : ∀ j u, ((List.range tn).map fun i => Value.int .i64 (f i))[j]? = some u → ((w.alloc (.cells #[.int .i64 x0, .int .i64 x1, .int .i64 x2, .int .i64 x3] 63)).alloc (.cells #[] 3)).cell? ((⟨w.heap.size, 0, none⟩ : Addr).add j) = some u := fun j u hu => by
      have hj : j < tn := by have := (List.getElem?_eq_some_iff.1 hu).1; simpa using this
      have h := World.alloc_heap_new w (.cells #[.int .i64 x0, .int .i64 x1, .int .i64 x2, .int .i64 x3] 63)
      have hk := (((Below.refl (w.alloc (.cells #[.int .i64 x0, .int .i64 x1, .int .i64 x2, .int .i64 x3] 63)).heap.size _).alloc (Nat.le_refl _) (.cells #[] 3)).block w.heap.size (by rw [World.size_alloc]; omega)).trans h
      rw [addr_add', Nat.zero_add]
      unfold World.cell?
      simp only [hk]
      simp only [List.getElem?_map, List.getElem?_range hj, Option.map_some, Option.some.injEq] at hu
      rw [← hu, HF.out j (by omega)]
      rcases (show j = 0 ∨ j = 1 ∨ j = 2 ∨ j = 3 by omega) with rfl | rfl | rfl | rfl <;> simp
    have hone : ∀ u ∈ ((List.range tn).map fun i => Value.int .i64 (f i)), u.oneCell' = true := fun u hu => by
      obtain ⟨i, _, rfl⟩ := List.mem_map.1 hu
      rfl
    have HOWN := Lib.hid hown
    have HNW := Lib.hid hnw
    have HONE := Lib.hid hone
    have HB := Lib.hid hB
    clear hown hnw hone hB
    go_wp2_with (
      at_builtin
      refine wpList_append_lies (o := ⟨some 13, _, _, _, _, _⟩) _ rfl _ _ 37 rfl w.heap.size 3 i0 (.int .i64 0) 1 8 Try.underlying37 hi0 hj0 hj1 hj2 rfl (by decide) (.slice (some ⟨w.heap.size + 1, 0, none⟩) 0 0) 0 [] rfl HOWN.out ⟨w.heap.size, 0, none⟩ tn 4 ((List.range tn).map fun i => Value.int .i64 (f i)) rfl (by simp) HNW.out HONE.out (by omega) (by unfold maxLen; omega) (by omega) (by simp; omega) _ rfl ?_
      intro g2 cp2 w4 hown4 hgrow4 hat4 hlt4
      have hb4 := HB.out.grown hgrow4 (by simp; omega) (fun k e => by simp [Value.ownBlock] at e; omega)
      clear hgrow4 hat4)
    go_ret
    have hown5 : w4.ownsRow w.heap.size 3 1 (.slice (some ⟨g2, 0, none⟩) tn cp2) tn ((List.range tn).map fun i => Value.int .i64 (f i)) := by simpa using hown4
    obtain ⟨pp, cc, he, hrd, hpb⟩ := own_readsI hown5
    cases he
    have hfr := own_freeI hown5
    first | exact ⟨_, _, rfl, hrd, hpb, hfr, hb4⟩ | (simp only [Nat.zero_add]; exact ⟨_, _, rfl, hrd, hpb, hfr, hb4⟩)
end Go.Proofs.Ytcfplkbbgjiocaa
