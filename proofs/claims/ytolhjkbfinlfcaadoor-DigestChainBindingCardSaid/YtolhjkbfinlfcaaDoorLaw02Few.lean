/- The law of chapter 2: few. Condition: strings that can be read. -/
import Derived.Test.YtolhjkbfinlfcaaDoorLaw02Sum
import Derived.Test.YtolhjkbfinlfcaaDoorDigBind
import Derived.Test.YtolhjkbfinlfcaaDoorRefProof
import Derived.Test.YtolhjkbfinlfcaaDoorSlices
namespace Go.Proofs.YtolhjkbfinlfcaaDoor
open Go Go.RowKit
theorem StrsIn.reads {W : World} {p : Option Addr} {n : Nat} {f : Nat → ByteArray} (h : StrsIn W p n f) : ReadsS W p n f := fun i hi => by
  obtain ⟨b, off, hp, _, hc⟩ := h.cell i hi
  exact ⟨b, off, hp, hc⟩
theorem StrsIn.most {W : World} {p : Option Addr} {n : Nat} {f : Nat → ByteArray} (h : StrsIn W p n f) : n ≤ 9223372036854775807 := h.small
/-- Cut to 60 bytes. -/
def cut60 (s : ByteArray) : ByteArray := s.extract 0 (min s.size 60)
theorem cut60_size (s : ByteArray) : (cut60 s).size ≤ 60 := by unfold cut60; rw [ByteArray.size_extract]; omega
theorem cut60_facts (s : ByteArray) : ∃ (m : Nat) (E : ByteArray), m ≤ s.size ∧ E.size ≤ 60 ∧ min (s.size : Int) 60 = (m : Int) ∧ (if (60 : Int) < (s.size : Int) then 60 else (s.size : Int)) = (m : Int) ∧ (if 60 < s.size then 60 else (s.size : Int)) = (m : Int) ∧ s.extract 0 m = E ∧ cut60 s = E := by
  refine ⟨min s.size 60, cut60 s, by omega, cut60_size s, by omega, ?_, ?_, rfl, rfl⟩
  · split <;> omega
  · split <;> omega
def cutL (F : Nat → ByteArray) (n : Nat) : List ByteArray := (List.range n).map (fun i => cut60 (F i))
theorem cutL_length (F : Nat → ByteArray) (n : Nat) : (cutL F n).length = n := by simp [cutL]
theorem cutL_succ (F : Nat → ByteArray) (n : Nat) : cutL F (n + 1) = cutL F n ++ [cut60 (F n)] := by simp [cutL, List.range_succ]
theorem cutL_at (F : Nat → ByteArray) (n i : Nat) (h : i < n) : getS (cutL F n) i = cut60 (F i) := by
  unfold getS cutL
  rw [List.getD_eq_getElem?_getD, List.getElem?_map, List.getElem?_range h]
  rfl
/-- A list of at most N strings of at most 60 bytes each is returned. -/
def FewRet (N : Nat) (e : Ending) (w' : World) : Prop := ∃ (q : Option Addr) (m cq : Nat) (G : Nat → ByteArray), e = .returned (.slice q m cq) ∧ m ≤ N ∧ m ≤ cq ∧ ReadsS w' q m G ∧ ∀ i, (G i).size ≤ 60
theorem cutL_size (F : Nat → ByteArray) (n j : Nat) : (getS (cutL F n) j).size ≤ 60 := by
  by_cases h : j < n
  · rw [cutL_at F n j h]
    exact cut60_size _
  · have e : getS (cutL F n) j = ⟨#[]⟩ := by
      unfold getS
      rw [List.getD_eq_getElem?_getD, List.getElem?_eq_none (by rw [cutL_length]; omega)]
      rfl
    rw [e]
    decide
set_option maxRecDepth 100000 in
set_option maxHeartbeats 2000000 in
theorem few_any (p : Option Addr) (n c N : Nat) (F : Nat → ByteArray) (w : World) (hN : N ≤ 1000) (hn : n ≤ 9223372036854775807) (hr : ReadsS w p n F) :
    Calls Tryd.prog 13 #[.slice p n c, .int .i64 (N : Nat)] w fun e w' => FewRet N e w' ∧ Below w.heap.size w w' := by
  obtain ⟨i0, hi, hz0, hz1, hz2⟩ := infoStr
  have HR := Lib.hid hr
  clear hr
  go_enter Tryd.func13, Tryd.ntmps13
  go_wp2_with fail
  go_loopw [5, 6] (fun v5 v6 wr => ∃ i : Nat, v6 = .int .i64 (i : Nat) ∧ i ≤ N ∧ i ≤ n ∧ wr.ownsRow w.heap.size 9 1 v5 i ((cutL F i).map strV) ∧ Below w.heap.size w wr) (fun _ v6 _ => N - (intOf v6).toNat)
  case atStart => exact ⟨0, rfl, by omega, by omega, World.ownsRow_nil _ _ _ _, Below.refl _ _⟩
  case round =>
    obtain ⟨i, rfl, hiN, hin, hown, hB⟩ := hrel
    by_cases hlt : i < n ∧ i < N
    · obtain ⟨h1, h2⟩ := hlt
      obtain ⟨b, o, rfl, hc⟩ := HR.out i h1
      have c0 := hc i h1
      have c1 := (hB.cell (p := ⟨b, o + i, none⟩) (cell_lt' c0)).trans c0
      have v0 : (0 : Int) ≤ (i : Int) := by omega
      have v1 : (i : Int) < (n : Int) := by omega
      have v2 : (i : Int) < (N : Int) := by omega
      have hsu := cutL_succ F i
      obtain ⟨x, hx⟩ : ∃ x, F i = x := ⟨_, rfl⟩
      rw [hx] at c1 hsu
      obtain ⟨m, E, hm1, hm2, hm3, hm4, hm5, hm6, hm7⟩ := cut60_facts x
      rw [hm7] at hsu
      have HSU := Lib.hid hsu
      have hmx : (m : Int) ≤ (x.size : Int) := by omega
      clear hc c0 hx hsu hm7
      go_wp2_with fail
      have hsz := hB.size
      go_region_law (refine step_append_lies _ (by rfl) (.tmp 18) (.tmp 30) 22 (by rfl) w.heap.size 9 i0 (.string ⟨#[]⟩) 1 16 Tryd.underlying22 hi hz0 hz1 hz2 rfl (by decide) _ i _ (by rfl) ((hown.alloc _).drew) ⟨wr.heap.size, 0, none⟩ 1 1 [.string E] (by rfl) rfl (cell_one_new wr _ _) (h1 := by simp [Value.oneCell']) (hm := by decide) (h63 := by unfold maxLen; omega) (hbytes := by omega) (hbase := Nat.le_trans hB.size (by show wr.heap.size ≤ (wr.alloc _).heap.size; simp)) (H := wr.heap.size + 1) (hH := by show (wr.alloc _).heap.size = _; simp) ?_; intro g cp1 w7 hown1 hgrow1 hat1 hlt1; have hb7 := ((hB.alloc hB.size _).drew).grown hgrow1 (by simp; omega) (fun j ej => (hown.lt j ej).1))
      all_goals go_wp2_with fail
      all_goals
        refine ⟨⟨i + 1, by go_num, by omega, by omega, ?_, hb7⟩, by simp [intOf]; omega⟩
        rw [HSU.out, List.map_append]
        exact hown1
    · have hex : ¬ (i < n ∧ i < N) := hlt
      by_cases h1 : i < n
      · have v1 : (i : Int) < (n : Int) := by omega
        have v2 : ¬ (i : Int) < (N : Int) := by omega
        obtain ⟨q, cq, rfl, hcq, hrd⟩ := own_readsS (L := cutL F i) (by rw [cutL_length]; exact hown)
        rw [cutL_length] at hcq hrd ⊢
        go_wp2_with fail
        go_ret
        exact ⟨⟨q, i, cq, getS (cutL F i), rfl, hiN, hcq, hrd, fun j => cutL_size F i j⟩, hB⟩
      · have v1 : ¬ (i : Int) < (n : Int) := by omega
        obtain ⟨q, cq, rfl, hcq, hrd⟩ := own_readsS (L := cutL F i) (by rw [cutL_length]; exact hown)
        rw [cutL_length] at hcq hrd ⊢
        go_wp2_with fail
        go_ret
        exact ⟨⟨q, i, cq, getS (cutL F i), rfl, hiN, hcq, hrd, fun j => cutL_size F i j⟩, hB⟩
end Go.Proofs.YtolhjkbfinlfcaaDoor
