/- BookMatchesReference: the law's body returns true. Conditions: a book and deeds that can be read; numbers of 64 bits. -/
import Derived.Test.YtcfplkbbgjiocaaBookSane
namespace Go.Proofs.Ytcfplkbbgjiocaa
open Go Go.RowKit Go.Shelf
theorem add_zero' (a : Option Addr) : a.map (fun x => x.add 0) = a := by
  cases a with
  | none => rfl
  | some a => obtain ⟨b, o, s⟩ := a; cases s <;> simp [Addr.add]
theorem PBox.low {W W' : World} {F b : Nat} {p : Pst} (h : PBox W b p) (hb : Below F W W') (hF : b < F) : PBox W' b p := (hb.block _ hF).trans h
/-- A book in a slice of books. -/
def BkAt (W : World) (G j : Nat) (t : Int) (v : Value) (c : Int) : Prop := W.cell? ⟨G, j * 3, none⟩ = some (.int .i64 t) ∧ W.cell? ⟨G, j * 3 + 1, none⟩ = some v ∧ W.cell? ⟨G, j * 3 + 2, none⟩ = some (.int .i64 c)
theorem BkAt.below {W W' : World} {G j : Nat} {t c : Int} {v : Value} (h : BkAt W G j t v c) (hb : Below W.heap.size W W') : BkAt W' G j t v c :=
  ⟨(hb.cell (p := ⟨G, j * 3, none⟩) (cell_lt h.1)).trans h.1, (hb.cell (p := ⟨G, j * 3 + 1, none⟩) (cell_lt h.1)).trans h.2.1, (hb.cell (p := ⟨G, j * 3 + 2, none⟩) (cell_lt h.1)).trans h.2.2⟩
theorem cell_new (W : World) (cs : Array Value) (t : TypeId) (a : Nat) (v : Value) (h : cs[a]? = some v) : (W.alloc (.cells cs t)).drew.cell? ⟨W.heap.size, a, none⟩ = some v := by
  show (W.alloc (.cells cs t)).cell? ⟨W.heap.size, a, none⟩ = some v
  unfold World.cell?
  rw [World.alloc_heap_new]
  exact h
theorem size_new (W : World) (o : Obj) : W.heap.size < (W.alloc o).drew.heap.size := by
  show W.heap.size < (W.alloc o).heap.size
  rw [World.size_alloc]
  omega
theorem DispSpec.small {teams closed i day amount : Int} {n : Nat} {g : Nat → Pst} {t c : Int} {k : Nat} {f : Nat → Pst} {e : Int} (h : DispSpec teams closed n g i day amount t c k f e) {N : Nat} (hn : n + 2 ≤ N) : k ≤ N := by
  rcases h with ⟨_, _, _, _, h1, h2⟩ | ⟨_, _, h, _⟩
  · by_cases hp : 0 < amount
    · have := (h1 hp).1; omega
    · have := (h2 hp).1; omega
  · omega
theorem CloseSpec.small {teams closed month : Int} {n : Nat} {g : Nat → Pst} {t c : Int} {k : Nat} {f : Nat → Pst} {e : Int} (h : CloseSpec teams closed n g month t c k f e) : k ≤ n := by
  rcases h with ⟨_, _, _, _, h, _⟩ | ⟨_, _, h, _⟩ <;> omega
theorem StatSpec.small {teams closed month : Int} {n : Nat} {g : Nat → Pst} {k : Nat} {f : Nat → Int} {e : Int} (h : StatSpec teams closed n g month k f e) : k ≤ 4 := by
  rcases h with ⟨h, _, h1, _⟩ | ⟨_, _, h⟩
  · have := h.1.1.1
    unfold within at this
    omega
  · omega
theorem OwedSpec.small {teams closed sub : Int} {n : Nat} {g : Nat → Pst} {k : Nat} {f : Nat → Int} {e : Int} (h : OwedSpec teams closed n g sub k f e) : k ≤ 4 := by
  rcases h with ⟨h, _, h1, _⟩ | ⟨_, _, h⟩
  · have := h.1.1.1
    unfold within at this
    omega
  · omega
set_option maxRecDepth 100000 in
set_option maxHeartbeats 8000000 in
theorem bookMatches_any (T cl0 : Int) (p0 : Option Addr) (n0 c0 : Nat) (g0 : Nat → Pst) (x : Int) (q1 : Option Addr) (m1 c1 : Nat) (h : Nat → Nat → Int) (p : Pst) (i day amount month : Int) (w : World) (hr : ReadsP w p0 n0 g0) (hc0 : n0 ≤ c0) (hin : ArrsIn w q1 m1 h)
    (bx : -9223372036854775808 ≤ x ∧ x ≤ 9223372036854775807) (bi : -9223372036854775808 ≤ i ∧ i ≤ 9223372036854775807) (bm : -9223372036854775808 ≤ month ∧ month ≤ 9223372036854775807) (bs : -9223372036854775808 ≤ p.sub ∧ p.sub ≤ 9223372036854775807) :
    Calls Try.prog 3 #[.agg #[.int .i64 T, .slice p0 n0 c0, .int .i64 cl0], .int .i64 x, .slice q1 m1 c1, .agg p.cells, .int .i64 i, .int .i64 day, .int .i64 amount, .int .i64 month] w fun e w' => e = .returned (.bool true) ∧ Below w.heap.size w w' := by
  have HRD := Lib.hid hr
  have HIN := Lib.hid hin
  have BX := Lib.hid bx
  have BI := Lib.hid bi
  have BM := Lib.hid bm
  have BS := Lib.hid bs
  obtain ⟨n1, hn1⟩ : ∃ n1, min n0 8 = n1 := ⟨_, rfl⟩
  have x1 : (if (8 : Int) < (n0 : Int) then (8 : Int) else (n0 : Int)) = (n1 : Int) := by rw [← hn1]; split <;> omega
  have x2 : (if 8 < n0 then (8 : Int) else (n0 : Int)) = (n1 : Int) := by rw [← hn1]; split <;> omega
  have hn1c : n1 ≤ c0 := by omega
  have hn18 : n1 ≤ 8 := by omega
  have hn1n : n1 ≤ n0 := by omega
  have hs1 := add_zero' p0
  clear hr hin bx bi bm bs hn1
  have hz1 := BkBox.new w T cl0 (.slice p0 n0 c0)
  have hb1 : Below w.heap.size w (w.alloc (.cells #[.int .i64 T, .slice p0 n0 c0, .int .i64 cl0] 24)) := (Below.refl _ _).alloc (Nat.le_refl _) _
  obtain ⟨wa, hwa⟩ : ∃ wa, w.alloc (.cells #[.int .i64 T, .slice p0 n0 c0, .int .i64 cl0] 24) = wa := ⟨_, rfl⟩
  have hsa : wa.heap.size = w.heap.size + 1 := by rw [← hwa, World.size_alloc]
  have HWA := Lib.hid hwa
  rw [hwa] at hz1 hb1
  have hal2 : Below wa.heap.size wa (wa.alloc (.cells p.cells 27)) := (Below.refl _ _).alloc (Nat.le_refl _) _
  have hp2 := PBox.new wa p
  obtain ⟨wb, hwb⟩ : ∃ wb, wa.alloc (.cells p.cells 27) = wb := ⟨_, rfl⟩
  have HWB := Lib.hid hwb
  rw [hwb] at hal2 hp2
  rw [hsa] at hp2
  have HZ2 := Lib.hid (hz1.below hal2)
  have HP2 := Lib.hid hp2
  have HB2 := Lib.hid (hb1.trans (hal2.mono hb1.size))
  clear hz1 hb1 hwa hal2 hp2 hwb hsa
  go_enter Try.func3, Try.ntmps3
  go_upto_region 1 with fail
  rw [HWA.out, HWB.out]
  clear HWA HWB
  obtain ⟨S, hS⟩ : ∃ S, w.heap.size = S := ⟨_, rfl⟩
  rw [hS] at HZ2 HP2
  have HS := Lib.hid hS
  rw [hS]
  clear hS
  go_wp2_with fail
  refine (sane_any _).mono ?_
  rintro e w1 ⟨rfl, hb1⟩
  have hz1 := HZ2.out.below hb1
  have HP1 := Lib.hid (HP2.out.below hb1)
  have HB1 := Lib.hid (HB2.out.trans (hb1.mono HB2.out.size))
  obtain ⟨y0, y1, y2⟩ := hz1.cells
  have f1 := hz1.free 1
  have HZ1 := Lib.hid hz1
  clear hb1 hz1
  go_upto_region 3 with fail
  have hB3 : Below S w1 (w1.setCell ⟨S, 1, none⟩ (.slice p0 n1 c0)) := Below_set (Below.refl _ _) (Nat.le_refl _) _
  have hz3 := HZ1.out.setV (.slice p0 n1 c0)
  have hp3 : PBox (w1.setCell ⟨S, 1, none⟩ (.slice p0 n1 c0)) (S + 1) p := (Below.heap_setCell _ _ _ _ (by show S + 1 ≠ S; omega)).trans HP1.out
  obtain ⟨w3, hw3⟩ : ∃ w3, w1.setCell ⟨S, 1, none⟩ (.slice p0 n1 c0) = w3 := ⟨_, rfl⟩
  rw [hw3] at hB3 hz3 hp3 ⊢
  have HB3 := Lib.hid (HB1.out.trans (hB3.mono (Nat.le_of_eq HS.out)))
  have HRD3 := Lib.hid ((HRD.out.below HB3.out).cut hn1n)
  have HIN3 := Lib.hid (HIN.out.below HB3.out)
  have HP3 := Lib.hid hp3
  have HZ3 := Lib.hid hz3
  clear hw3 y0 y1 y2 f1 hB3 hz3 hp3 HRD HIN HZ2 HP2 HB2 HZ1 HP1 HB1 x1 x2 hs1
  obtain ⟨y0, y1, y2⟩ := HZ3.out.cells
  have HMA := Lib.hid (fun W (hb : Below w3.heap.size w3 W) => Made_any x q1 m1 c1 h W (HIN3.out.below hb) BX.out)
  have HKS : Hid (∀ W, Below w3.heap.size w3 W → Below w3.heap.size w3 W ∧ W.cell? ⟨S, 0, none⟩ = some (.int .i64 T) ∧ W.cell? ⟨S, 1, none⟩ = some (.slice p0 n1 c0) ∧ W.cell? ⟨S, 2, none⟩ = some (.int .i64 cl0)) := Lib.hid (fun W hb => ⟨hb, (HZ3.out.below hb).cells⟩)
  refine wp_region_held_drew (S := (fun W => Below w3.heap.size w3 W ∧ W.cell? ⟨S, 0, none⟩ = some (.int .i64 T) ∧ W.cell? ⟨S, 1, none⟩ = some (.slice p0 n1 c0) ∧ W.cell? ⟨S, 2, none⟩ = some (.int .i64 cl0))) (by kernel_rfl) ?_ (fun hHeld => ?_)
  · exact HKS.out _ (Below.refl _ _).drew
  refine wpAnyH_take (i := 0) (v := ?_) rfl (by kernel_rfl) (by kernel_rfl) (by kernel_rfl) (fun _ _ _ h => h) (Or.inl ⟨by rfl, ?_⟩) (by assumption) ?_
  rotate_left
  · intro w hSw
    try dsimp only at hSw
    go_simp
    all_goals with_reducible rfl
  try simp only [Act.put, List.getElem_toArray, List.getElem_cons_zero, List.setIfInBounds_toArray, List.set_cons_zero, List.set_cons_succ]
  refine wpAnyH_take (i := 1) (v := ?_) rfl (by kernel_rfl) (by kernel_rfl) (by kernel_rfl) (fun _ _ _ h => h) (Or.inl ⟨by rfl, ?_⟩) (by assumption) ?_
  rotate_left
  · intro w hSw
    try dsimp only at hSw
    go_simp
    all_goals with_reducible rfl
  try simp only [Act.put, List.getElem_toArray, List.getElem_cons_succ, List.getElem_cons_zero, List.setIfInBounds_toArray, List.set_cons_zero, List.set_cons_succ]
  refine wpAnyH_take (i := 2) (v := ?_) rfl (by kernel_rfl) (by kernel_rfl) (by kernel_rfl) (fun _ _ _ h => h) (Or.inl ⟨by rfl, ?_⟩) (by assumption) ?_
  rotate_left
  · intro w hSw
    try dsimp only at hSw
    go_simp
    all_goals with_reducible rfl
  try simp only [Act.put, List.getElem_toArray, List.getElem_cons_succ, List.getElem_cons_zero, List.setIfInBounds_toArray, List.set_cons_zero, List.set_cons_succ]
  refine wpAnyH_take (i := 6) (v := ?_) rfl (by kernel_rfl) (by kernel_rfl) (by kernel_rfl) (fun _ _ _ h => h) (Or.inl ⟨by rfl, ?_⟩) (by assumption) ?_
  rotate_left
  · intro w hSw
    try dsimp only at hSw
    go_simp
    all_goals with_reducible rfl
  try simp only [Act.put, List.getElem_toArray, List.getElem_cons_succ, List.getElem_cons_zero, List.setIfInBounds_toArray, List.set_cons_zero, List.set_cons_succ]
  refine wpAnyH_ready (rs := [3]) (by kernel_rfl) (by simp) ?_
  refine AllReadyH.cons rfl (fun K hK => ?_) AllReadyH.nil
  go_simp
  go_at_call 8
  refine (HMA.out _ (Below.refl _ _).drew).mono ?_
  rintro e w4 ⟨tn, n2, c2, cl2, q2, g2, rfl, hok, hn48, hsub, hrd4, _, hb4⟩
  have hb4' := (Below.refl w3.heap.size w3).drew.trans hb4
  refine hK.out _ _ ?_ (fun hHeld2 => ?_)
  · exact HKS.out _ hb4'
  clear hK K hHeld
  have hHeld := hHeld2
  clear hHeld2
  try simp only [Act.put, List.getElem_toArray, List.getElem_cons_succ, List.getElem_cons_zero, List.setIfInBounds_toArray, List.set_cons_zero, List.set_cons_succ]
  refine wpAnyH_ready (rs := [4]) (by kernel_rfl) (by simp) ?_
  refine AllReadyH.cons rfl (fun K hK => ?_) AllReadyH.nil
  go_simp
  refine hK.out _ _ ?_ (fun hHeld2 => ?_)
  · exact HKS.out _ (hb4'.alloc hb4'.size _)
  clear hK K hHeld
  have hHeld := hHeld2
  clear hHeld2
  try simp only [Act.put, List.getElem_toArray, List.getElem_cons_succ, List.getElem_cons_zero, List.setIfInBounds_toArray, List.set_cons_zero, List.set_cons_succ]
  refine wpAnyH_take (i := 5) (v := ?_) rfl (by kernel_rfl) (by kernel_rfl) (by kernel_rfl) (fun _ _ _ h => h) (Or.inl ⟨by rfl, ?_⟩) (by assumption) ?_
  rotate_left
  · intro w hSw
    try dsimp only at hSw
    go_simp
    all_goals with_reducible rfl
  try simp only [Act.put, List.getElem_toArray, List.getElem_cons_succ, List.getElem_cons_zero, List.setIfInBounds_toArray, List.set_cons_zero, List.set_cons_succ]
  refine wpAnyH_done (by kernel_rfl) ?_ _
  go_wp2_with fail
  have hal5 : Below w4.heap.size w4 (w4.alloc (.cells #[.int .i64 T, .slice p0 n1 c0, .int .i64 cl0, .int .i64 (tn : Int), .slice q2 n2 c2, .int .i64 cl2] 24)) := (Below.refl _ _).alloc (Nat.le_refl _) _
  have hcs : ∀ j, j < 2 → ∃ (t cl : Int) (q : Option Addr) (n c : Nat) (g : Nat → Pst), BkAt (w4.alloc (.cells #[.int .i64 T, .slice p0 n1 c0, .int .i64 cl0, .int .i64 (tn : Int), .slice q2 n2 c2, .int .i64 cl2] 24)) w4.heap.size j t (.slice q n c) cl ∧
      ReadsP (w4.alloc (.cells #[.int .i64 T, .slice p0 n1 c0, .int .i64 cl0, .int .i64 (tn : Int), .slice q2 n2 c2, .int .i64 cl2] 24)) q n g ∧ n ≤ 48 := fun j hj => by
    rcases (show j = 0 ∨ j = 1 by omega) with rfl | rfl
    · exact ⟨T, cl0, p0, n1, c0, g0, by simp [BkAt], (HRD3.out.below hb4').below hal5, by omega⟩
    · exact ⟨tn, cl2, q2, n2, c2, g2, by simp [BkAt], hrd4.below hal5, hn48⟩
  have hp5 := (HP3.out.below hb4').below hal5
  have hl5 : w4.heap.size < (w4.alloc (.cells #[.int .i64 T, .slice p0 n1 c0, .int .i64 cl0, .int .i64 (tn : Int), .slice q2 n2 c2, .int .i64 cl2] 24)).heap.size := by simp
  obtain ⟨w5, hw5⟩ : ∃ w5, w4.alloc (.cells #[.int .i64 T, .slice p0 n1 c0, .int .i64 cl0, .int .i64 (tn : Int), .slice q2 n2 c2, .int .i64 cl2] 24) = w5 := ⟨_, rfl⟩
  rw [hw5] at hal5 hcs hp5 hl5 ⊢
  have HB5 := Lib.hid ((HB3.out.trans (hb4'.mono HB3.out.size)).trans (hal5.mono (Nat.le_trans HB3.out.size hb4'.size)))
  obtain ⟨G, hG⟩ : ∃ G, w4.heap.size = G := ⟨_, rfl⟩
  rw [hG] at hcs hl5 ⊢
  have HC5 := Lib.hid hcs
  have HP5 := Lib.hid hp5
  clear hal5 hcs hp5 hw5 hG hb4 hb4' hHeld hrd4 hok hsub HKS HMA y0 y1 y2 HIN3 HRD3 HP3 HZ3 HB3 BX
  go_loopw [67] (fun z wr => ∃ j : Nat, j ≤ 2 ∧ z = .int .i64 j ∧ Below w5.heap.size w5 wr) (fun z _ => 2 - (intOf z).toNat)
  case atStart => exact ⟨0, by omega, rfl, Below.refl _ _⟩
  case round =>
    obtain ⟨j, hj, rfl, hb⟩ := hrel
    by_cases hj2 : j < 2
    · obtain ⟨t, cl, q, n, c, g, hat, hrd, hn⟩ := HC5.out j hj2
      obtain ⟨a0, a1, a2⟩ := hat.below hb
      have hrd1 := hrd.below hb
      have v0 : (0 : Int) ≤ (j : Int) := by omega
      have v1 : (j : Int) < 2 := by omega
      have hal6 : Below wr.heap.size wr (wr.alloc (.cells #[.int .i64 t, .slice q n c, .int .i64 cl] 24)) := (Below.refl _ _).alloc (Nat.le_refl _) _
      have hbk := BkBox.new wr t cl (.slice q n c)
      have HRD := Lib.hid hrd1
      have HPW := Lib.hid (HP5.out.below hb)
      clear hat hrd hrd1
      go_upto_region 6 with fail
      obtain ⟨wA, hwA⟩ : ∃ wA, wr.alloc (.cells #[.int .i64 t, .slice q n c, .int .i64 cl] 24) = wA := ⟨_, rfl⟩
      rw [hwA] at hal6 hbk ⊢
      obtain ⟨B, hB⟩ : ∃ B, wr.heap.size = B := ⟨_, rfl⟩
      have HBW := Lib.hid (hb.trans (hal6.mono hb.size))
      have HRA := Lib.hid (HRD.out.below hal6)
      have HPA := Lib.hid (HPW.out.below hal6)
      rw [hB] at hbk ⊢
      have HBK := Lib.hid hbk
      have HF : Hid (∀ W, Below wA.heap.size wA W → ReadsP W q n g ∧ BkBox W B t (.slice q n c) cl ∧ PBox W (S + 1) p) := Lib.hid (fun W hb => ⟨HRA.out.below hb, HBK.out.below hb, HPA.out.below hb⟩)
      clear hwA hal6 hbk a0 a1 a2 v0 v1 hB HRD HPW HRA HPA HBK
      obtain ⟨hrd, hbk, hpb⟩ := HF.out wA (Below.refl _ _)
      obtain ⟨b0, b1, b2⟩ := hbk.cells
      obtain ⟨z0, z1, z2, z3, z4, z5, z6⟩ := hpb.cells
      have HPO := Lib.hid (Post_any t cl q n c g p wA (by unfold maxLen; omega) hrd)
      clear hrd hbk hpb hb
      go_wp2_with fail
      refine HPO.out.mono ?_
      rintro e w2 ⟨t', c', q', k', kc, f', idx, er, rfl, hsp, hrd2, _, hb2⟩
      have HSP := Lib.hid hsp
      have hal3 : Below w2.heap.size w2 (w2.alloc (.cells #[.int .i64 t', .slice q' k' kc, .int .i64 c'] 24)) := (Below.refl _ _).alloc (Nat.le_refl _) _
      have hbk3 := BkBox.new w2 t' c' (.slice q' k' kc)
      clear hsp b0 b1 b2 z0 z1 z2 z3 z4 z5 z6 HPO
      go_upto_region 7 with fail
      obtain ⟨w3', hw3⟩ : ∃ w3', w2.alloc (.cells #[.int .i64 t', .slice q' k' kc, .int .i64 c'] 24) = w3' := ⟨_, rfl⟩
      rw [hw3] at hal3 hbk3 ⊢
      obtain ⟨D1, hD1⟩ : ∃ D1, w2.heap.size = D1 := ⟨_, rfl⟩
      have HB3 := Lib.hid (hb2.trans (hal3.mono hb2.size))
      have HRD3 := Lib.hid (hrd2.below hal3)
      rw [hD1] at hbk3 ⊢
      have HBK3 := Lib.hid hbk3
      clear hrd2 hb2 hal3 hbk3 hw3 hD1
      obtain ⟨hrd, hbk, hpb⟩ := HF.out w3' HB3.out
      obtain ⟨b0, b1, b2⟩ := hbk.cells
      obtain ⟨z0, z1, z2, z3, z4, z5, z6⟩ := hpb.cells
      have HPO := Lib.hid (ref_Post_any t cl q n c g p w3' (by omega) hrd)
      clear hrd hbk hpb
      go_wp2_with fail
      refine HPO.out.mono ?_
      rintro e w4' ⟨t'', c'', q'', k'', kd, f'', idx', er', rfl, hsp, hrd4, _, hb4⟩
      obtain ⟨rfl, rfl, rfl, rfl, rfl, hff⟩ := HSP.out.unique hsp
      have hk49 : k' ≤ 49 := by
        rcases hsp with ⟨_, _, _, h, _⟩ | ⟨_, _, _, h, _⟩ <;> omega
      have hal5 : Below w4'.heap.size w4' (w4'.alloc (.cells #[.int .i64 t', .slice q'' k' kd, .int .i64 c'] 24)) := (Below.refl _ _).alloc (Nat.le_refl _) _
      have hbk5 := BkBox.new w4' t' c' (.slice q'' k' kd)
      clear hsp b0 b1 b2 z0 z1 z2 z3 z4 z5 z6 HPO HSP
      go_upto_region 8 with fail
      obtain ⟨w6, hw6⟩ : ∃ w6, w4'.alloc (.cells #[.int .i64 t', .slice q'' k' kd, .int .i64 c'] 24) = w6 := ⟨_, rfl⟩
      rw [hw6] at hal5 hbk5 ⊢
      obtain ⟨D2, hD2⟩ : ∃ D2, w4'.heap.size = D2 := ⟨_, rfl⟩
      have hb46 := hb4.trans (hal5.mono hb4.size)
      have HB6 := Lib.hid (HB3.out.trans (hb46.mono HB3.out.size))
      have HSM := Lib.hid (fun W (hb : Below w6.heap.size w6 W) => (same_yes t' c' q' q'' k' kc kd f' f'' W (by omega) ((HRD3.out.below hb46).below hb) ((hrd4.below hal5).below hb) hff).mono fun e w' h => (⟨h.1, hb.trans (h.2.mono hb.size)⟩ : e = Ending.returned (.bool true) ∧ Below w6.heap.size w6 w'))
      rw [hD2] at hbk5 ⊢
      have HBK5 := Lib.hid hbk5
      have HBK4 := Lib.hid (HBK3.out.below hb46)
      have hv : ∃ r : Bool, r = true ↔ BookOk t cl n g := by
        by_cases h : BookOk t cl n g
        · exact ⟨true, by simp [h]⟩
        · exact ⟨false, by simp [h]⟩
      obtain ⟨r, hr⟩ := hv
      have HV1 := Lib.hid (fun W (hb : Below w6.heap.size w6 W) => (valid_any t cl q n c g W (by unfold maxLen; omega) (HF.out W (HB6.out.trans (hb.mono HB6.out.size))).1).mono fun e w' (h : Says e (BookOk t cl n g) ∧ Below W.heap.size W w') => (⟨by
        obtain ⟨⟨s, rfl, hs⟩, _⟩ := h
        rw [Bool.eq_iff_iff.2 (hs.trans hr.symm)], hb.trans (h.2.mono hb.size)⟩ : e = Ending.returned (.bool r) ∧ Below w6.heap.size w6 w'))
      have HV2 := Lib.hid (fun W (hb : Below w6.heap.size w6 W) => (ref_valid_any t cl q n c g W (by unfold maxLen; omega) (HF.out W (HB6.out.trans (hb.mono HB6.out.size))).1).mono fun e w' (h : Says e (BookOk t cl n g) ∧ Below W.heap.size W w') => (⟨by
        obtain ⟨⟨s, rfl, hs⟩, _⟩ := h
        rw [Bool.eq_iff_iff.2 (hs.trans hr.symm)], hb.trans (h.2.mono hb.size)⟩ : e = Ending.returned (.bool r) ∧ Below w6.heap.size w6 w'))
      have HKS := Lib.hid (fun W (hb : Below w6.heap.size w6 W) => (⟨hb, (HF.out W (HB6.out.trans (hb.mono HB6.out.size))).2.1.cells, (HBK4.out.below hb).cells, (HBK5.out.below hb).cells⟩ : Below w6.heap.size w6 W ∧ (W.cell? ⟨B, 0, none⟩ = some (.int .i64 t) ∧ W.cell? ⟨B, 1, none⟩ = some (.slice q n c) ∧ W.cell? ⟨B, 2, none⟩ = some (.int .i64 cl)) ∧ (W.cell? ⟨D1, 0, none⟩ = some (.int .i64 t') ∧ W.cell? ⟨D1, 1, none⟩ = some (.slice q' k' kc) ∧ W.cell? ⟨D1, 2, none⟩ = some (.int .i64 c')) ∧ (W.cell? ⟨D2, 0, none⟩ = some (.int .i64 t') ∧ W.cell? ⟨D2, 1, none⟩ = some (.slice q'' k' kd) ∧ W.cell? ⟨D2, 2, none⟩ = some (.int .i64 c'))))
      clear hrd4 hb4 hal5 hbk5 hw6 hD2 hb46 hr hff HRD3 HBK3 HB3
      refine wp_region_held_drew (S := (fun W => Below w6.heap.size w6 W ∧ (W.cell? ⟨B, 0, none⟩ = some (.int .i64 t) ∧ W.cell? ⟨B, 1, none⟩ = some (.slice q n c) ∧ W.cell? ⟨B, 2, none⟩ = some (.int .i64 cl)) ∧ (W.cell? ⟨D1, 0, none⟩ = some (.int .i64 t') ∧ W.cell? ⟨D1, 1, none⟩ = some (.slice q' k' kc) ∧ W.cell? ⟨D1, 2, none⟩ = some (.int .i64 c')) ∧ (W.cell? ⟨D2, 0, none⟩ = some (.int .i64 t') ∧ W.cell? ⟨D2, 1, none⟩ = some (.slice q'' k' kd) ∧ W.cell? ⟨D2, 2, none⟩ = some (.int .i64 c')))) (by kernel_rfl) ?_ (fun hHeld => ?_)
      · exact HKS.out _ (Below.refl _ _).drew
      refine wpAnyH_take (i := 0) (v := ?_) rfl (by kernel_rfl) (by kernel_rfl) (by kernel_rfl) (fun _ _ _ h => h) (Or.inl ⟨by rfl, ?_⟩) (by assumption) ?_
      rotate_left
      · intro w hSw
        try dsimp only at hSw
        go_simp
        all_goals with_reducible rfl
      try simp only [Act.put, List.getElem_toArray, List.getElem_cons_zero, List.setIfInBounds_toArray, List.set_cons_zero, List.set_cons_succ]
      refine wpAnyH_take (i := 2) (v := ?_) rfl (by kernel_rfl) (by kernel_rfl) (by kernel_rfl) (fun _ _ _ h => h) (Or.inl ⟨by rfl, ?_⟩) (by assumption) ?_
      rotate_left
      · intro w hSw
        try dsimp only at hSw
        go_simp
        all_goals with_reducible rfl
      try simp only [Act.put, List.getElem_toArray, List.getElem_cons_succ, List.getElem_cons_zero, List.setIfInBounds_toArray, List.set_cons_zero, List.set_cons_succ]
      refine wpAnyH_ready (rs := [1]) (by kernel_rfl) (by simp) ?_
      refine AllReadyH.cons rfl (fun K hK => ?_) AllReadyH.nil
      go_simp
      go_at_call 11
      refine (HV1.out _ (Below.refl _ _).drew).mono ?_
      rintro e w7 ⟨rfl, hb7⟩
      refine hK.out _ _ ?_ (fun hHeld2 => ?_)
      · exact HKS.out _ hb7
      clear hK K hHeld
      have hHeld := hHeld2
      clear hHeld2
      try simp only [Act.put, List.getElem_toArray, List.getElem_cons_succ, List.getElem_cons_zero, List.setIfInBounds_toArray, List.set_cons_zero, List.set_cons_succ]
      refine wpAnyH_ready (rs := [3]) (by kernel_rfl) (by simp) ?_
      refine AllReadyH.cons rfl (fun K hK => ?_) AllReadyH.nil
      go_simp
      go_at_call 12
      refine (HV2.out _ hb7).mono ?_
      rintro e w8 ⟨rfl, hb8⟩
      refine hK.out _ _ ?_ (fun hHeld2 => ?_)
      · exact HKS.out _ hb8
      clear hK K hHeld
      have hHeld := hHeld2
      clear hHeld2
      try simp only [Act.put, List.getElem_toArray, List.getElem_cons_succ, List.getElem_cons_zero, List.setIfInBounds_toArray, List.set_cons_zero, List.set_cons_succ]
      refine wpAnyH_take (i := 4) (v := ?_) rfl (by kernel_rfl) (by kernel_rfl) (by kernel_rfl) (fun _ _ _ h => h) (Or.inl ⟨by rfl, ?_⟩) (by assumption) ?_
      rotate_left
      · intro w hSw
        try dsimp only at hSw
        go_simp
        all_goals with_reducible rfl
      try simp only [Act.put, List.getElem_toArray, List.getElem_cons_succ, List.getElem_cons_zero, List.setIfInBounds_toArray, List.set_cons_zero, List.set_cons_succ]
      refine wpAnyH_take (i := 5) (v := ?_) rfl (by kernel_rfl) (by kernel_rfl) (by kernel_rfl) (fun _ _ _ h => h) (Or.inl ⟨by rfl, ?_⟩) (by assumption) ?_
      rotate_left
      · intro w hSw
        try dsimp only at hSw
        go_simp
        all_goals with_reducible rfl
      try simp only [Act.put, List.getElem_toArray, List.getElem_cons_succ, List.getElem_cons_zero, List.setIfInBounds_toArray, List.set_cons_zero, List.set_cons_succ]
      refine wpAnyH_take (i := 6) (v := ?_) rfl (by kernel_rfl) (by kernel_rfl) (by kernel_rfl) (fun _ _ _ h => h) (Or.inl ⟨by rfl, ?_⟩) (by assumption) ?_
      rotate_left
      · intro w hSw
        try dsimp only at hSw
        go_simp
        all_goals with_reducible rfl
      try simp only [Act.put, List.getElem_toArray, List.getElem_cons_succ, List.getElem_cons_zero, List.setIfInBounds_toArray, List.set_cons_zero, List.set_cons_succ]
      refine wpAnyH_take (i := 7) (v := ?_) rfl (by kernel_rfl) (by kernel_rfl) (by kernel_rfl) (fun _ _ _ h => h) (Or.inl ⟨by rfl, ?_⟩) (by assumption) ?_
      rotate_left
      · intro w hSw
        try dsimp only at hSw
        go_simp
        all_goals with_reducible rfl
      try simp only [Act.put, List.getElem_toArray, List.getElem_cons_succ, List.getElem_cons_zero, List.setIfInBounds_toArray, List.set_cons_zero, List.set_cons_succ]
      refine wpAnyH_take (i := 8) (v := ?_) rfl (by kernel_rfl) (by kernel_rfl) (by kernel_rfl) (fun _ _ _ h => h) (Or.inl ⟨by rfl, ?_⟩) (by assumption) ?_
      rotate_left
      · intro w hSw
        try dsimp only at hSw
        go_simp
        all_goals with_reducible rfl
      try simp only [Act.put, List.getElem_toArray, List.getElem_cons_succ, List.getElem_cons_zero, List.setIfInBounds_toArray, List.set_cons_zero, List.set_cons_succ]
      refine wpAnyH_take (i := 9) (v := ?_) rfl (by kernel_rfl) (by kernel_rfl) (by kernel_rfl) (fun _ _ _ h => h) (Or.inl ⟨by rfl, ?_⟩) (by assumption) ?_
      rotate_left
      · intro w hSw
        try dsimp only at hSw
        go_simp
        all_goals with_reducible rfl
      try simp only [Act.put, List.getElem_toArray, List.getElem_cons_succ, List.getElem_cons_zero, List.setIfInBounds_toArray, List.set_cons_zero, List.set_cons_succ]
      refine wpAnyH_take (i := 10) (v := ?_) rfl (by kernel_rfl) (by kernel_rfl) (by kernel_rfl) (fun _ _ _ h => h) (Or.inl ⟨by rfl, ?_⟩) (by assumption) ?_
      rotate_left
      · intro w hSw
        try dsimp only at hSw
        go_simp
        all_goals with_reducible rfl
      try simp only [Act.put, List.getElem_toArray, List.getElem_cons_succ, List.getElem_cons_zero, List.setIfInBounds_toArray, List.set_cons_zero, List.set_cons_succ]
      refine wpAnyH_take (i := 11) (v := ?_) rfl (by kernel_rfl) (by kernel_rfl) (by kernel_rfl) (fun _ _ _ h => h) (Or.inl ⟨by rfl, ?_⟩) (by assumption) ?_
      rotate_left
      · intro w hSw
        try dsimp only at hSw
        go_simp
        all_goals with_reducible rfl
      try simp only [Act.put, List.getElem_toArray, List.getElem_cons_succ, List.getElem_cons_zero, List.setIfInBounds_toArray, List.set_cons_zero, List.set_cons_succ]
      refine wpAnyH_take (i := 12) (v := ?_) rfl (by kernel_rfl) (by kernel_rfl) (by kernel_rfl) (fun _ _ _ h => h) (Or.inl ⟨by rfl, ?_⟩) (by assumption) ?_
      rotate_left
      · intro w hSw
        try dsimp only at hSw
        go_simp
        all_goals with_reducible rfl
      try simp only [Act.put, List.getElem_toArray, List.getElem_cons_succ, List.getElem_cons_zero, List.setIfInBounds_toArray, List.set_cons_zero, List.set_cons_succ]
      refine wpAnyH_take (i := 13) (v := ?_) rfl (by kernel_rfl) (by kernel_rfl) (by kernel_rfl) (fun _ _ _ h => h) (Or.inl ⟨by rfl, ?_⟩) (by assumption) ?_
      rotate_left
      · intro w hSw
        try dsimp only at hSw
        go_simp
        all_goals with_reducible rfl
      try simp only [Act.put, List.getElem_toArray, List.getElem_cons_succ, List.getElem_cons_zero, List.setIfInBounds_toArray, List.set_cons_zero, List.set_cons_succ]
      refine wpAnyH_take (i := 14) (v := ?_) rfl (by kernel_rfl) (by kernel_rfl) (by kernel_rfl) (fun _ _ _ h => h) (Or.inl ⟨by rfl, ?_⟩) (by assumption) ?_
      rotate_left
      · intro w hSw
        try dsimp only at hSw
        go_simp
        all_goals with_reducible rfl
      try simp only [Act.put, List.getElem_toArray, List.getElem_cons_succ, List.getElem_cons_zero, List.setIfInBounds_toArray, List.set_cons_zero, List.set_cons_succ]
      refine wpAnyH_take (i := 15) (v := ?_) rfl (by kernel_rfl) (by kernel_rfl) (by kernel_rfl) (fun _ _ _ h => h) (Or.inl ⟨by rfl, ?_⟩) (by assumption) ?_
      rotate_left
      · intro w hSw
        try dsimp only at hSw
        go_simp
        all_goals with_reducible rfl
      try simp only [Act.put, List.getElem_toArray, List.getElem_cons_succ, List.getElem_cons_zero, List.setIfInBounds_toArray, List.set_cons_zero, List.set_cons_succ]
      refine wpAnyH_take (i := 16) (v := ?_) rfl (by kernel_rfl) (by kernel_rfl) (by kernel_rfl) (fun _ _ _ h => h) (Or.inl ⟨by rfl, ?_⟩) (by assumption) ?_
      rotate_left
      · intro w hSw
        try dsimp only at hSw
        go_simp
        all_goals with_reducible rfl
      try simp only [Act.put, List.getElem_toArray, List.getElem_cons_succ, List.getElem_cons_zero, List.setIfInBounds_toArray, List.set_cons_zero, List.set_cons_succ]
      refine wpAnyH_take (i := 17) (v := ?_) rfl (by kernel_rfl) (by kernel_rfl) (by kernel_rfl) (fun _ _ _ h => h) (Or.inl ⟨by rfl, ?_⟩) (by assumption) ?_
      rotate_left
      · intro w hSw
        try dsimp only at hSw
        go_simp
        all_goals with_reducible rfl
      try simp only [Act.put, List.getElem_toArray, List.getElem_cons_succ, List.getElem_cons_zero, List.setIfInBounds_toArray, List.set_cons_zero, List.set_cons_succ]
      refine wpAnyH_ready (rs := [18]) (by kernel_rfl) (by simp) ?_
      refine AllReadyH.cons rfl (fun K hK => ?_) AllReadyH.nil
      go_simp
      go_at_call 13
      refine (HSM.out _ hb8).mono ?_
      rintro e w9 ⟨rfl, hb9⟩
      refine hK.out _ _ ?_ (fun hHeld2 => ?_)
      · exact HKS.out _ hb9
      clear hK K hHeld
      have hHeld := hHeld2
      clear hHeld2
      try simp only [Act.put, List.getElem_toArray, List.getElem_cons_succ, List.getElem_cons_zero, List.setIfInBounds_toArray, List.set_cons_zero, List.set_cons_succ]
      refine wpAnyH_take (i := 19) (v := ?_) rfl (by kernel_rfl) (by kernel_rfl) (by kernel_rfl) (fun _ _ _ h => h) (Or.inl ⟨by rfl, ?_⟩) (by assumption) ?_
      rotate_left
      · intro w hSw
        try dsimp only at hSw
        go_simp
        all_goals with_reducible rfl
      try simp only [Act.put, List.getElem_toArray, List.getElem_cons_succ, List.getElem_cons_zero, List.setIfInBounds_toArray, List.set_cons_zero, List.set_cons_succ]
      refine wpAnyH_take (i := 20) (v := ?_) rfl (by kernel_rfl) (by kernel_rfl) (by kernel_rfl) (fun _ _ _ h => h) (Or.inl ⟨by rfl, ?_⟩) (by assumption) ?_
      rotate_left
      · intro w hSw
        try dsimp only at hSw
        go_simp
        all_goals with_reducible rfl
      try simp only [Act.put, List.getElem_toArray, List.getElem_cons_succ, List.getElem_cons_zero, List.setIfInBounds_toArray, List.set_cons_zero, List.set_cons_succ]
      refine wpAnyH_done (by kernel_rfl) ?_ _
      clear HKS HV1 HV2 HSM HBK4 HBK5 hHeld hk49
      have HB9 := Lib.hid (HB6.out.trans (hb9.mono HB6.out.size))
      clear hb7 hb8 hb9 HB6
      obtain ⟨hrd, hbk, hpb⟩ := HF.out w9 HB9.out
      obtain ⟨b0, b1, b2⟩ := hbk.cells
      have hBl := hbk.lt
      have gw : IntKind.i64.wrap ((n : Int) + 1) = (n : Int) + 1 := IntWalk.i64_in _ (by omega)
      have HQ1 := Lib.hid (fun W => pick_any i ((n : Int) + 1) (n + 1) W (by omega) BI.out.1 BI.out.2 (by omega) (by omega))
      clear hrd hbk hpb
      go_upto_region 11 with (go_at_call 14; refine (HQ1.out _).mono ?_; rintro e w1 ⟨rfl, rfl⟩)
      obtain ⟨pk, hpk⟩ : ∃ k, pickN i (n + 1) = k := ⟨_, rfl⟩
      rw [hpk]
      have hal : Below w9.heap.size w9 (w9.alloc (.cells #[.int .i64 i, .int .i64 (pk : Int)] 3)) := (Below.refl _ _).alloc (Nat.le_refl _) _
      have hcs : ∀ a, a < 2 → ∃ z, (w9.alloc (.cells #[.int .i64 i, .int .i64 (pk : Int)] 3)).cell? ⟨w9.heap.size, a, none⟩ = some (.int .i64 z) := fun a ha => by
        rcases (show a = 0 ∨ a = 1 by omega) with rfl | rfl
        · exact ⟨i, by simp⟩
        · exact ⟨pk, by simp⟩
      have hl : w9.heap.size < (w9.alloc (.cells #[.int .i64 i, .int .i64 (pk : Int)] 3)).heap.size := by simp
      obtain ⟨wD, hwD⟩ : ∃ wD, w9.alloc (.cells #[.int .i64 i, .int .i64 (pk : Int)] 3) = wD := ⟨_, rfl⟩
      rw [hwD] at hal hcs hl ⊢
      have HBD := Lib.hid (HB9.out.trans (hal.mono HB9.out.size))
      obtain ⟨GD, hGD⟩ : ∃ GD, w9.heap.size = GD := ⟨_, rfl⟩
      rw [hGD] at hcs hl ⊢
      have HCD := Lib.hid hcs
      clear hal hcs hwD hGD hpk gw HQ1 b0 b1 b2 HB9
      go_loopw [115] (fun z wr => ∃ a : Nat, a ≤ 2 ∧ z = .int .i64 a ∧ Below wD.heap.size wD wr) (fun z _ => 2 - (intOf z).toNat)
      case atStart => exact ⟨0, by omega, rfl, Below.refl _ _⟩
      case round =>
        obtain ⟨a, ha, rfl, hb⟩ := hrel
        by_cases ha2 : a < 2
        · obtain ⟨z, hz⟩ := HCD.out a ha2
          have cz := (hb.cell (p := ⟨GD, a, none⟩) hl).trans hz
          have v0 : (0 : Int) ≤ (a : Int) := by omega
          have v1 : (a : Int) < 2 := by omega
          have HBR := Lib.hid hb
          have HBr := Lib.hid (HBD.out.trans (hb.mono HBD.out.size))
          obtain ⟨hrd, hbk, hpb⟩ := HF.out wr HBr.out
          obtain ⟨b0, b1, b2⟩ := hbk.cells
          have HDI := Lib.hid (Dispute_any t cl z day amount q n c g wr (by unfold maxLen; omega) hrd)
          clear hrd hbk hpb hz hb hBl
          go_wp2_with fail
          refine HDI.out.mono ?_
          rintro e w2 ⟨t', c', q', k', kc, f', er, rfl, hsp, hrd2, _, hb2⟩
          have HSP := Lib.hid hsp
          have hal3 : Below w2.heap.size w2 (w2.alloc (.cells #[.int .i64 t', .slice q' k' kc, .int .i64 c'] 24)) := (Below.refl _ _).alloc (Nat.le_refl _) _
          have hbk3 := BkBox.new w2 t' c' (.slice q' k' kc)
          clear hsp b0 b1 b2 HDI cz v0 v1
          go_upto_region 14 with fail
          obtain ⟨w3, hw3⟩ : ∃ w3, w2.alloc (.cells #[.int .i64 t', .slice q' k' kc, .int .i64 c'] 24) = w3 := ⟨_, rfl⟩
          rw [hw3] at hal3 hbk3 ⊢
          obtain ⟨E1, hE1⟩ : ∃ E1, w2.heap.size = E1 := ⟨_, rfl⟩
          have HB3 := Lib.hid (HBr.out.trans ((hb2.trans (hal3.mono hb2.size)).mono HBr.out.size))
          have HRD3 := Lib.hid (hrd2.below hal3)
          rw [hE1] at hbk3 ⊢
          have HBK3 := Lib.hid hbk3
          have HBW := Lib.hid (HBR.out.trans ((hb2.trans (hal3.mono hb2.size)).mono HBR.out.size))
          clear hrd2 hb2 hal3 hbk3 hw3 hE1
          obtain ⟨hrd, hbk, hpb⟩ := HF.out w3 HB3.out
          obtain ⟨b0, b1, b2⟩ := hbk.cells
          have HDI := Lib.hid (ref_Dispute_any t cl z day amount q n c g w3 (by omega) hrd)
          clear hrd hbk hpb
          go_wp2_with fail
          refine HDI.out.mono ?_
          rintro e w4 ⟨t'', c'', q'', k'', kd, f'', er', rfl, hsp, hrd4, _, hb4⟩
          obtain ⟨rfl, rfl, rfl, rfl, hff⟩ := HSP.out.unique hsp
          have hk50 : k' ≤ 50 := hsp.small (by omega)
          have hal5 : Below w4.heap.size w4 (w4.alloc (.cells #[.int .i64 t', .slice q'' k' kd, .int .i64 c'] 24)) := (Below.refl _ _).alloc (Nat.le_refl _) _
          have hbk5 := BkBox.new w4 t' c' (.slice q'' k' kd)
          clear hsp b0 b1 b2 HDI HSP
          go_upto_region 15 with fail
          obtain ⟨w5', hw5⟩ : ∃ w5', w4.alloc (.cells #[.int .i64 t', .slice q'' k' kd, .int .i64 c'] 24) = w5' := ⟨_, rfl⟩
          rw [hw5] at hal5 hbk5 ⊢
          obtain ⟨E2, hE2⟩ : ∃ E2, w4.heap.size = E2 := ⟨_, rfl⟩
          have hb45 := hb4.trans (hal5.mono hb4.size)
          have HSM := Lib.hid (same_yes t' c' q' q'' k' kc kd f' f'' w5' (by omega) (HRD3.out.below hb45) (hrd4.below hal5) hff)
          rw [hE2] at hbk5 ⊢
          have HBW5 := Lib.hid (HBW.out.trans (hb45.mono HBW.out.size))
          have hbk4 := HBK3.out.below hb45
          obtain ⟨b0, b1, b2⟩ := hbk5.cells
          obtain ⟨d0, d1, d2⟩ := hbk4.cells
          clear hrd4 hb4 hal5 hbk5 hbk4 hw5 hE2 hb45 hff HRD3 HBK3 HB3 hk50
          go_wp2_with fail
          refine HSM.out.mono ?_
          rintro e w6 ⟨rfl, hb6⟩
          clear b0 b1 b2 d0 d1 d2
          go_wp2_with fail
          exact ⟨⟨a + 1, by omega, by go_num, HBW5.out.trans (hb6.mono HBW5.out.size)⟩, by simp [intOf]; omega⟩
        · have ha3 : ¬ ((a : Int) < 2) := by omega
          obtain ⟨wE, rfl⟩ : ∃ wE : World, wE = wr := ⟨_, rfl⟩
          have HBE := Lib.hid (HBD.out.trans (hb.mono HBD.out.size))
          clear hb HBD HCD hl hBl BI
          go_upto_region 18 with fail
          obtain ⟨hrd, hbk, hpb⟩ := HF.out wE HBE.out
          have HKS : Hid (∀ W, Below wE.heap.size wE W → W.cell? ⟨B, 2, none⟩ = some (.int .i64 cl)) := Lib.hid (fun W hb => (HF.out W (HBE.out.trans (hb.mono HBE.out.size))).2.1.cells.2.2)
          have HQ2 := Lib.hid (fun W => pick_any month 12 12 W rfl BM.out.1 BM.out.2 (by omega) (by omega))
          clear hrd hbk hpb
          refine wp_region_held_drew (S := (fun W => W.cell? ⟨B, 2, none⟩ = some (.int .i64 cl))) (by kernel_rfl) ?_ (fun hHeld => ?_)
          · exact HKS.out _ (Below.refl _ _).drew
          refine wpAnyH_take (i := 0) (v := ?_) rfl (by kernel_rfl) (by kernel_rfl) (by kernel_rfl) (fun _ _ _ h => h) (Or.inl ⟨by rfl, ?_⟩) (by assumption) ?_
          rotate_left
          · intro w hSw
            try dsimp only at hSw
            go_simp
            all_goals with_reducible rfl
          try simp only [Act.put, List.getElem_toArray, List.getElem_cons_zero, List.setIfInBounds_toArray, List.set_cons_zero, List.set_cons_succ]
          refine wpAnyH_take (i := 1) (v := ?_) rfl (by kernel_rfl) (by kernel_rfl) (by kernel_rfl) (fun _ _ _ h => h) (Or.inl ⟨by rfl, ?_⟩) (by assumption) ?_
          rotate_left
          · intro w hSw
            try dsimp only at hSw
            go_simp
            all_goals with_reducible rfl
          try simp only [Act.put, List.getElem_toArray, List.getElem_cons_succ, List.getElem_cons_zero, List.setIfInBounds_toArray, List.set_cons_zero, List.set_cons_succ]
          refine wpAnyH_take (i := 7) (v := ?_) rfl (by kernel_rfl) (by kernel_rfl) (by kernel_rfl) (fun _ _ _ h => h) (Or.inl ⟨by rfl, ?_⟩) (by assumption) ?_
          rotate_left
          · intro w hSw
            try dsimp only at hSw
            go_simp
            all_goals with_reducible rfl
          try simp only [Act.put, List.getElem_toArray, List.getElem_cons_succ, List.getElem_cons_zero, List.setIfInBounds_toArray, List.set_cons_zero, List.set_cons_succ]
          refine wpAnyH_call (i := 2) 14 #[.int .i64 month, .int .i64 12] rfl (by kernel_rfl) (by kernel_rfl) (by kernel_rfl) (fun _ _ _ h => h) (by rfl) ?_ (fun W _ => HQ2.out W) (by assumption) ?_
          · intro w hSw
            try dsimp only at hSw
            go_simp
          try simp only [Act.put, List.getElem_toArray, List.getElem_cons_succ, List.getElem_cons_zero, List.setIfInBounds_toArray, List.set_cons_zero, List.set_cons_succ]
          refine wpAnyH_take (i := 3) (v := ?_) rfl (by kernel_rfl) (by kernel_rfl) (by kernel_rfl) (fun _ _ _ h => h) (Or.inl ⟨by rfl, ?_⟩) (by assumption) ?_
          rotate_left
          · intro w hSw
            try dsimp only at hSw
            go_simp
            all_goals with_reducible rfl
          try simp only [Act.put, List.getElem_toArray, List.getElem_cons_succ, List.getElem_cons_zero, List.setIfInBounds_toArray, List.set_cons_zero, List.set_cons_succ]
          refine wpAnyH_take (i := 4) (v := ?_) rfl (by kernel_rfl) (by kernel_rfl) (by kernel_rfl) (fun _ _ _ h => h) (Or.inl ⟨by rfl, ?_⟩) (by assumption) ?_
          rotate_left
          · intro w hSw
            try dsimp only at hSw
            go_simp
            all_goals with_reducible rfl
          try simp only [Act.put, List.getElem_toArray, List.getElem_cons_succ, List.getElem_cons_zero, List.setIfInBounds_toArray, List.set_cons_zero, List.set_cons_succ]
          refine wpAnyH_ready (rs := [5]) (by kernel_rfl) (by simp) ?_
          refine AllReadyH.cons rfl (fun K hK => ?_) AllReadyH.nil
          go_simp
          refine hK.out _ _ ?_ (fun hHeld2 => ?_)
          · exact HKS.out _ ((Below.refl _ _).alloc (Nat.le_refl _) _).drew
          clear hK K hHeld
          have hHeld := hHeld2
          clear hHeld2
          try simp only [Act.put, List.getElem_toArray, List.getElem_cons_succ, List.getElem_cons_zero, List.setIfInBounds_toArray, List.set_cons_zero, List.set_cons_succ]
          refine wpAnyH_take (i := 6) (v := ?_) rfl (by kernel_rfl) (by kernel_rfl) (by kernel_rfl) (fun _ _ _ h => h) (Or.inl ⟨by rfl, ?_⟩) (by assumption) ?_
          rotate_left
          · intro w hSw
            try dsimp only at hSw
            go_simp
            all_goals with_reducible rfl
          try simp only [Act.put, List.getElem_toArray, List.getElem_cons_succ, List.getElem_cons_zero, List.setIfInBounds_toArray, List.set_cons_zero, List.set_cons_succ]
          refine wpAnyH_done (by kernel_rfl) ?_ _
          go_wp2_with fail
          obtain ⟨pk, hpk⟩ : ∃ k, pickN month 12 = k := ⟨_, rfl⟩
          rw [hpk]
          have hal : Below wE.heap.size wE ((wE.alloc (.cells #[.int .i64 month, .int .i64 (pk : Int), .int .i64 cl] 3)).drew) := ((Below.refl _ _).alloc (Nat.le_refl _) _).drew
          have hcs : ∀ a, a < 3 → ∃ z, ((wE.alloc (.cells #[.int .i64 month, .int .i64 (pk : Int), .int .i64 cl] 3)).drew).cell? ⟨wE.heap.size, a, none⟩ = some (.int .i64 z) := fun a ha => by
            rcases (show a = 0 ∨ a = 1 ∨ a = 2 by omega) with rfl | rfl | rfl
            · exact ⟨month, cell_new wE _ _ _ _ rfl⟩
            · exact ⟨pk, cell_new wE _ _ _ _ rfl⟩
            · exact ⟨cl, cell_new wE _ _ _ _ rfl⟩
          have hl := size_new wE (.cells #[.int .i64 month, .int .i64 (pk : Int), .int .i64 cl] 3)
          obtain ⟨wG, hwG⟩ : ∃ wG, (wE.alloc (.cells #[.int .i64 month, .int .i64 (pk : Int), .int .i64 cl] 3)).drew = wG := ⟨_, rfl⟩
          rw [hwG] at hal hcs hl ⊢
          have HBG := Lib.hid (HBE.out.trans (hal.mono HBE.out.size))
          obtain ⟨GG, hGG⟩ : ∃ GG, wE.heap.size = GG := ⟨_, rfl⟩
          rw [hGG] at hcs hl
          try rw [show wE.drew.heap.size = GG from hGG]
          try rw [hGG]
          have HCG := Lib.hid hcs
          clear hal hcs hwG hGG hpk HQ2 HBE HKS hHeld
          go_loopw [152] (fun z wr => ∃ a : Nat, a ≤ 3 ∧ z = .int .i64 a ∧ Below wG.heap.size wG wr) (fun z _ => 3 - (intOf z).toNat)
          case atStart => exact ⟨0, by omega, rfl, Below.refl _ _⟩
          case round =>
            obtain ⟨a, ha, rfl, hb⟩ := hrel
            by_cases ha2 : a < 3
            · obtain ⟨z, hz⟩ := HCG.out a ha2
              have cz := (hb.cell (p := ⟨GG, a, none⟩) hl).trans hz
              have v0 : (0 : Int) ≤ (a : Int) := by omega
              have v1 : (a : Int) < 3 := by omega
              have HBR := Lib.hid hb
              have HBr := Lib.hid (HBG.out.trans (hb.mono HBG.out.size))
              obtain ⟨hrd, hbk, hpb⟩ := HF.out wr HBr.out
              obtain ⟨b0, b1, b2⟩ := hbk.cells
              have HCO := Lib.hid (Close_any t cl z q n c g wr (by unfold maxLen; omega) hrd)
              clear hrd hbk hpb hz hb
              go_wp2_with fail
              refine HCO.out.mono ?_
              rintro e w2 ⟨t', c', q', k', kc, f', er, rfl, hsp, hrd2, _, hb2⟩
              have HSP := Lib.hid hsp
              have hal3 : Below w2.heap.size w2 (w2.alloc (.cells #[.int .i64 t', .slice q' k' kc, .int .i64 c'] 24)) := (Below.refl _ _).alloc (Nat.le_refl _) _
              have hbk3 := BkBox.new w2 t' c' (.slice q' k' kc)
              clear hsp b0 b1 b2 HCO cz v0 v1
              go_upto_region 22 with fail
              obtain ⟨w3, hw3⟩ : ∃ w3, w2.alloc (.cells #[.int .i64 t', .slice q' k' kc, .int .i64 c'] 24) = w3 := ⟨_, rfl⟩
              rw [hw3] at hal3 hbk3 ⊢
              obtain ⟨E1, hE1⟩ : ∃ E1, w2.heap.size = E1 := ⟨_, rfl⟩
              have HB3 := Lib.hid (HBr.out.trans ((hb2.trans (hal3.mono hb2.size)).mono HBr.out.size))
              have HRD3 := Lib.hid (hrd2.below hal3)
              rw [hE1] at hbk3 ⊢
              have HBK3 := Lib.hid hbk3
              have HBW := Lib.hid (HBR.out.trans ((hb2.trans (hal3.mono hb2.size)).mono HBR.out.size))
              clear hrd2 hb2 hal3 hbk3 hw3 hE1 HBr HBR
              obtain ⟨hrd, hbk, hpb⟩ := HF.out w3 HB3.out
              obtain ⟨b0, b1, b2⟩ := hbk.cells
              have HCO := Lib.hid (ref_Close_any t cl z q n c g w3 (by omega) hrd)
              clear hrd hbk hpb
              go_wp2_with fail
              refine HCO.out.mono ?_
              rintro e w4 ⟨t'', c'', q'', k'', kd, f'', er', rfl, hsp, hrd4, _, hb4⟩
              obtain ⟨rfl, rfl, rfl, rfl, hff⟩ := HSP.out.unique hsp
              have hk48 : k' ≤ n := hsp.small
              have hal5 : Below w4.heap.size w4 (w4.alloc (.cells #[.int .i64 t', .slice q'' k' kd, .int .i64 c'] 24)) := (Below.refl _ _).alloc (Nat.le_refl _) _
              have hbk5 := BkBox.new w4 t' c' (.slice q'' k' kd)
              clear hsp b0 b1 b2 HCO HSP
              go_upto_region 23 with fail
              obtain ⟨w5', hw5⟩ : ∃ w5', w4.alloc (.cells #[.int .i64 t', .slice q'' k' kd, .int .i64 c'] 24) = w5' := ⟨_, rfl⟩
              rw [hw5] at hal5 hbk5 ⊢
              obtain ⟨E2, hE2⟩ : ∃ E2, w4.heap.size = E2 := ⟨_, rfl⟩
              have hb45 := hb4.trans (hal5.mono hb4.size)
              have HB5' := Lib.hid (HB3.out.trans (hb45.mono HB3.out.size))
              have HSM := Lib.hid (fun W (hb : Below w5'.heap.size w5' W) => same_yes t' c' q' q'' k' kc kd f' f'' W (by omega) ((HRD3.out.below hb45).below hb) ((hrd4.below hal5).below hb) hff)
              rw [hE2] at hbk5 ⊢
              have HBW5 := Lib.hid (HBW.out.trans (hb45.mono HBW.out.size))
              have HBK5 := Lib.hid hbk5
              have HBK4 := Lib.hid (HBK3.out.below hb45)
              clear hrd4 hb4 hal5 hbk5 hw5 hE2 hb45 hff HRD3 HBK3 HB3 hk48 HBW
              obtain ⟨hrd, hbk, hpb⟩ := HF.out w5' HB5'.out
              obtain ⟨b0, b1, b2⟩ := hbk.cells
              have HST := Lib.hid (Statement_any t cl z q n c g w5' (by unfold maxLen; omega) hrd)
              clear hrd hbk hpb
              go_wp2_with fail
              refine HST.out.mono ?_
              rintro e w6 ⟨ps, ks, sc, fs, es, rfl, hss, hrs, _, hb6⟩
              have HSS := Lib.hid hss
              have HRS := Lib.hid hrs
              have HB6' := Lib.hid (HB5'.out.trans (hb6.mono HB5'.out.size))
              have HN6 := Lib.hid hb6
              clear b0 b1 b2 hss hrs hb6 HST HB5'
              obtain ⟨hrd, hbk, hpb⟩ := HF.out w6 HB6'.out
              obtain ⟨b0, b1, b2⟩ := hbk.cells
              have HST := Lib.hid (ref_Statement_any t cl z q n c g w6 (by unfold maxLen; omega) hrd)
              clear hrd hbk hpb
              go_wp2_with fail
              refine HST.out.mono ?_
              rintro e w7 ⟨pt, kt, tc, ft, et, rfl, hst, hrt, _, hb7⟩
              obtain ⟨rfl, rfl, hsf⟩ := HSS.out.unique hst
              have hks4 := hst.small
              have HB7' := Lib.hid (HB6'.out.trans (hb7.mono HB6'.out.size))
              have HN7 := Lib.hid (HN6.out.trans (hb7.mono HN6.out.size))
              have HIY := Lib.hid (fun W (hb : Below w7.heap.size w7 W) => ints_yes ps pt ks ks sc tc fs ft W (by omega) rfl ((HRS.out.below hb7).below hb) (hrt.below hb) hsf)
              clear b0 b1 b2 hst hrt hb7 HST HB6' HN6 HRS HSS hsf hks4
              obtain ⟨hrd, hbk, hpb⟩ := HF.out w7 HB7'.out
              obtain ⟨b0, b1, b2⟩ := hbk.cells
              have HBA := Lib.hid (Balance_any t cl i z q n c g w7 (by unfold maxLen; omega) hrd)
              clear hrd hbk hpb
              go_wp2_with fail
              refine HBA.out.mono ?_
              rintro e w8 ⟨⟨xv, ex, rfl, hba⟩, hb8⟩
              have HBS := Lib.hid hba
              have HB8' := Lib.hid (HB7'.out.trans (hb8.mono HB7'.out.size))
              have HN8 := Lib.hid hb8
              clear b0 b1 b2 hba hb8 HBA HB7'
              obtain ⟨hrd, hbk, hpb⟩ := HF.out w8 HB8'.out
              obtain ⟨b0, b1, b2⟩ := hbk.cells
              have HBA := Lib.hid (ref_Balance_any t cl i z q n c g w8 (by unfold maxLen; omega) hrd)
              clear hrd hbk hpb
              go_wp2_with fail
              refine HBA.out.mono ?_
              rintro e w10 ⟨⟨yv, ey, rfl, hba⟩, hb10⟩
              obtain ⟨rfl, rfl⟩ := HBS.out.unique hba
              have HN10 := Lib.hid (HN8.out.trans (hb10.mono HN8.out.size))
              have HM10 := Lib.hid (HN7.out.trans (HN10.out.mono HN7.out.size))
              clear b0 b1 b2 hba hb10 HBA HB8' HN8 HBS HN7
              go_upto_region 27 with fail
              obtain ⟨b0, b1, b2⟩ := (HBK4.out.below HM10.out).cells
              obtain ⟨d0, d1, d2⟩ := (HBK5.out.below HM10.out).cells
              go_wp2_with fail
              refine (HSM.out _ HM10.out).mono ?_
              rintro e w11 ⟨rfl, hb11⟩
              have HN11 := Lib.hid (HN10.out.trans (hb11.mono HN10.out.size))
              have HM11 := Lib.hid (HM10.out.trans (hb11.mono HM10.out.size))
              clear b0 b1 b2 d0 d1 d2 hb11 HN10 HM10 HBK4 HBK5 HSM
              go_wp2_with fail
              refine (HIY.out _ HN11.out).mono ?_
              rintro e w12 ⟨rfl, hb12⟩
              have HM12 := Lib.hid (HM11.out.trans (hb12.mono HM11.out.size))
              go_wp2_with fail
              exact ⟨⟨a + 1, by omega, by go_num, HBW5.out.trans (HM12.out.mono HBW5.out.size)⟩, by simp [intOf]; omega⟩
            · have ha4 : ¬ ((a : Int) < 3) := by omega
              obtain ⟨wI, rfl⟩ : ∃ wI : World, wI = wr := ⟨_, rfl⟩
              have HBI := Lib.hid (HBG.out.trans (hb.mono HBG.out.size))
              clear hb HBG HCG hl
              go_upto_region 30 with fail
              obtain ⟨hrd, hbk, hpb⟩ := HF.out wI HBI.out
              have HKS : Hid (∀ W, Below wI.heap.size wI W → W.cell? ⟨S + 1, 0 + 5, none⟩ = some (.int .i64 p.sub)) := Lib.hid (fun W hb => (HF.out W (HBI.out.trans (hb.mono HBI.out.size))).2.2.cells.2.2.2.2.2.1)
              have HQ3 := Lib.hid (fun W => pick_any p.sub 6 6 W rfl BS.out.1 BS.out.2 (by omega) (by omega))
              clear hrd hbk hpb
              refine wp_region_held_drew (S := (fun W => W.cell? ⟨S + 1, 0 + 5, none⟩ = some (.int .i64 p.sub))) (by kernel_rfl) ?_ (fun hHeld => ?_)
              · exact HKS.out _ (Below.refl _ _).drew
              refine wpAnyH_take (i := 0) (v := ?_) rfl (by kernel_rfl) (by kernel_rfl) (by kernel_rfl) (fun _ _ _ h => h) (Or.inl ⟨by rfl, ?_⟩) (by assumption) ?_
              rotate_left
              · intro w hSw
                try dsimp only at hSw
                go_simp
                all_goals with_reducible rfl
              try simp only [Act.put, List.getElem_toArray, List.getElem_cons_zero, List.setIfInBounds_toArray, List.set_cons_zero, List.set_cons_succ]
              refine wpAnyH_take (i := 1) (v := ?_) rfl (by kernel_rfl) (by kernel_rfl) (by kernel_rfl) (fun _ _ _ h => h) (Or.inl ⟨by rfl, ?_⟩) (by assumption) ?_
              rotate_left
              · intro w hSw
                try dsimp only at hSw
                go_simp
                all_goals with_reducible rfl
              try simp only [Act.put, List.getElem_toArray, List.getElem_cons_succ, List.getElem_cons_zero, List.setIfInBounds_toArray, List.set_cons_zero, List.set_cons_succ]
              refine wpAnyH_take (i := 2) (v := ?_) rfl (by kernel_rfl) (by kernel_rfl) (by kernel_rfl) (fun _ _ _ h => h) (Or.inl ⟨by rfl, ?_⟩) (by assumption) ?_
              rotate_left
              · intro w hSw
                try dsimp only at hSw
                go_simp
                all_goals with_reducible rfl
              try simp only [Act.put, List.getElem_toArray, List.getElem_cons_succ, List.getElem_cons_zero, List.setIfInBounds_toArray, List.set_cons_zero, List.set_cons_succ]
              refine wpAnyH_take (i := 3) (v := ?_) rfl (by kernel_rfl) (by kernel_rfl) (by kernel_rfl) (fun _ _ _ h => h) (Or.inl ⟨by rfl, ?_⟩) (by assumption) ?_
              rotate_left
              · intro w hSw
                try dsimp only at hSw
                go_simp
                all_goals with_reducible rfl
              try simp only [Act.put, List.getElem_toArray, List.getElem_cons_succ, List.getElem_cons_zero, List.setIfInBounds_toArray, List.set_cons_zero, List.set_cons_succ]
              refine wpAnyH_take (i := 7) (v := ?_) rfl (by kernel_rfl) (by kernel_rfl) (by kernel_rfl) (fun _ _ _ h => h) (Or.inl ⟨by rfl, ?_⟩) (by assumption) ?_
              rotate_left
              · intro w hSw
                try dsimp only at hSw
                go_simp
                all_goals with_reducible rfl
              try simp only [Act.put, List.getElem_toArray, List.getElem_cons_succ, List.getElem_cons_zero, List.setIfInBounds_toArray, List.set_cons_zero, List.set_cons_succ]
              refine wpAnyH_call (i := 4) 14 #[.int .i64 p.sub, .int .i64 6] rfl (by kernel_rfl) (by kernel_rfl) (by kernel_rfl) (fun _ _ _ h => h) (by rfl) ?_ (fun W _ => HQ3.out W) (by assumption) ?_
              · intro w hSw
                try dsimp only at hSw
                go_simp
              try simp only [Act.put, List.getElem_toArray, List.getElem_cons_succ, List.getElem_cons_zero, List.setIfInBounds_toArray, List.set_cons_zero, List.set_cons_succ]
              refine wpAnyH_ready (rs := [5]) (by kernel_rfl) (by simp) ?_
              refine AllReadyH.cons rfl (fun K hK => ?_) AllReadyH.nil
              go_simp
              refine hK.out _ _ ?_ (fun hHeld2 => ?_)
              · exact HKS.out _ ((Below.refl _ _).alloc (Nat.le_refl _) _).drew
              clear hK K hHeld
              have hHeld := hHeld2
              clear hHeld2
              try simp only [Act.put, List.getElem_toArray, List.getElem_cons_succ, List.getElem_cons_zero, List.setIfInBounds_toArray, List.set_cons_zero, List.set_cons_succ]
              refine wpAnyH_take (i := 6) (v := ?_) rfl (by kernel_rfl) (by kernel_rfl) (by kernel_rfl) (fun _ _ _ h => h) (Or.inl ⟨by rfl, ?_⟩) (by assumption) ?_
              rotate_left
              · intro w hSw
                try dsimp only at hSw
                go_simp
                all_goals with_reducible rfl
              try simp only [Act.put, List.getElem_toArray, List.getElem_cons_succ, List.getElem_cons_zero, List.setIfInBounds_toArray, List.set_cons_zero, List.set_cons_succ]
              refine wpAnyH_done (by kernel_rfl) ?_ _
              go_wp2_with fail
              obtain ⟨pk, hpk⟩ : ∃ k, pickN p.sub 6 = k := ⟨_, rfl⟩
              rw [hpk]
              have hal : Below wI.heap.size wI (wI.alloc (.cells #[.int .i64 p.sub, .int .i64 (pk : Int)] 3)).drew := ((Below.refl _ _).alloc (Nat.le_refl _) _).drew
              have hcs : ∀ a, a < 2 → ∃ z, (wI.alloc (.cells #[.int .i64 p.sub, .int .i64 (pk : Int)] 3)).drew.cell? ⟨wI.heap.size, a, none⟩ = some (.int .i64 z) := fun a ha => by
                rcases (show a = 0 ∨ a = 1 by omega) with rfl | rfl
                · exact ⟨p.sub, cell_new wI _ _ _ _ rfl⟩
                · exact ⟨pk, cell_new wI _ _ _ _ rfl⟩
              have hl := size_new wI (.cells #[.int .i64 p.sub, .int .i64 (pk : Int)] 3)
              obtain ⟨wK, hwK⟩ : ∃ wK, (wI.alloc (.cells #[.int .i64 p.sub, .int .i64 (pk : Int)] 3)).drew = wK := ⟨_, rfl⟩
              rw [hwK] at hal hcs hl ⊢
              have HBK := Lib.hid (HBI.out.trans (hal.mono HBI.out.size))
              obtain ⟨GK, hGK⟩ : ∃ GK, wI.heap.size = GK := ⟨_, rfl⟩
              rw [hGK] at hcs hl
              try rw [show wI.drew.heap.size = GK from hGK]
              try rw [hGK]
              have HCK := Lib.hid hcs
              clear hal hcs hwK hGK hpk HQ3 HBI HKS hHeld
              go_loopw [232] (fun z wr => ∃ a : Nat, a ≤ 2 ∧ z = .int .i64 a ∧ Below wK.heap.size wK wr) (fun z _ => 2 - (intOf z).toNat)
              case atStart => exact ⟨0, by omega, rfl, Below.refl _ _⟩
              case round =>
                obtain ⟨a, ha, rfl, hb⟩ := hrel
                by_cases ha2 : a < 2
                · obtain ⟨z, hz⟩ := HCK.out a ha2
                  have cz := (hb.cell (p := ⟨GK, a, none⟩) hl).trans hz
                  have v0 : (0 : Int) ≤ (a : Int) := by omega
                  have v1 : (a : Int) < 2 := by omega
                  have HBR := Lib.hid hb
                  have HBr := Lib.hid (HBK.out.trans (hb.mono HBK.out.size))
                  obtain ⟨hrd, hbk, hpb⟩ := HF.out wr HBr.out
                  obtain ⟨b0, b1, b2⟩ := hbk.cells
                  have HCO := Lib.hid (Owed_any t cl z q n c g wr (by unfold maxLen; omega) hrd)
                  clear hrd hbk hpb hz hb
                  go_wp2_with fail
                  refine HCO.out.mono ?_
                  rintro e w2 ⟨ps, ks, sc, fs, es, rfl, hss, hrs, _, hb2⟩
                  have HSS := Lib.hid hss
                  have HRS := Lib.hid hrs
                  have HB3 := Lib.hid (HBr.out.trans (hb2.mono HBr.out.size))
                  have HBW := Lib.hid (HBR.out.trans (hb2.mono HBR.out.size))
                  clear b0 b1 b2 cz v0 v1 hss hrs hb2 HCO HBr HBR
                  obtain ⟨hrd, hbk, hpb⟩ := HF.out w2 HB3.out
                  obtain ⟨b0, b1, b2⟩ := hbk.cells
                  have HCO := Lib.hid (ref_Owed_any t cl z q n c g w2 (by unfold maxLen; omega) hrd)
                  clear hrd hbk hpb
                  go_wp2_with fail
                  refine HCO.out.mono ?_
                  rintro e w3 ⟨pt, kt, tc, ft, et, rfl, hst, hrt, _, hb3⟩
                  obtain ⟨rfl, rfl, hsf⟩ := HSS.out.unique hst
                  have hks4 := hst.small
                  have HIY := Lib.hid (ints_yes ps pt ks ks sc tc fs ft w3 (by omega) rfl (HRS.out.below hb3) hrt hsf)
                  have HBW3 := Lib.hid (HBW.out.trans (hb3.mono HBW.out.size))
                  clear b0 b1 b2 hst hrt hb3 HCO HB3 HBW HRS HSS hsf hks4
                  go_wp2_with fail
                  refine HIY.out.mono ?_
                  rintro e w4 ⟨rfl, hb4⟩
                  go_wp2_with fail
                  exact ⟨⟨a + 1, by omega, by go_num, HBW3.out.trans (hb4.mono HBW3.out.size)⟩, by simp [intOf]; omega⟩
                · have ha5 : ¬ ((a : Int) < 2) := by omega
                  have HFIN := Lib.hid (HBW.out.trans ((HBK.out.trans (hb.mono HBK.out.size)).mono HBW.out.size))
                  go_wp2_with fail
                  exact ⟨⟨j + 1, by omega, by go_num, HFIN.out⟩, by simp [intOf]; omega⟩
    · have hj3 : ¬ ((j : Int) < 2) := by omega
      have HFIN := Lib.hid (HB5.out.trans (hb.mono HB5.out.size))
      go_wp2_with fail
      refine bodyPost_ret (v := .bool true) (by simp [results, Try.results3, go_sem]) rfl ⟨rfl, HFIN.out⟩
end Go.Proofs.Ytcfplkbbgjiocaa
