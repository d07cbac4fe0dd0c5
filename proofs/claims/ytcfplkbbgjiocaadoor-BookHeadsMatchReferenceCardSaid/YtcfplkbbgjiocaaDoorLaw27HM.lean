/- BookHeadsMatchReference: the law's body returns true. Conditions: a book and deeds that can be read; numbers of 64 bits; digest's words lie in memory. -/
import Derived.Test.YtcfplkbbgjiocaaDoorBookSane
import Derived.Test.YtcfplkbbgjiocaaDoorHead27
namespace Go.Proofs.YtcfplkbbgjiocaaDoor
open Go Go.RowKit Go.Shelf
theorem add_zero' (a : Option Addr) : a.map (fun x => x.add 0) = a := by
  cases a with
  | none => rfl
  | some a => obtain ⟨b, o, s⟩ := a; cases s <;> simp [Addr.add]
/-- A book in a slice of books. -/
def BkAt (W : World) (G j : Nat) (t : Int) (v : Value) (c : Int) : Prop := W.cell? ⟨G, j * 3, none⟩ = some (.int .i64 t) ∧ W.cell? ⟨G, j * 3 + 1, none⟩ = some v ∧ W.cell? ⟨G, j * 3 + 2, none⟩ = some (.int .i64 c)
theorem BkAt.below {W W' : World} {G j : Nat} {t c : Int} {v : Value} (h : BkAt W G j t v c) (hb : Below W.heap.size W W') : BkAt W' G j t v c :=
  ⟨(hb.cell (p := ⟨G, j * 3, none⟩) (cell_lt h.1)).trans h.1, (hb.cell (p := ⟨G, j * 3 + 1, none⟩) (cell_lt h.1)).trans h.2.1, (hb.cell (p := ⟨G, j * 3 + 2, none⟩) (cell_lt h.1)).trans h.2.2⟩
theorem encV_form (p : Pst) : ∃ (E : ByteArray) (er : Int), encV p = .tuple #[.string E, .int .i64 er] := by
  unfold encV
  split
  · exact ⟨_, _, rfl⟩
  · exact ⟨_, _, rfl⟩
theorem bhV_form (teams closed : Int) (n : Nat) (g : Nat → Pst) : ∃ (E : ByteArray) (er : Int), bhV teams closed n g = .tuple #[.string E, .int .i64 er] := by
  unfold bhV
  split
  · exact ⟨_, _, rfl⟩
  · exact ⟨_, _, rfl⟩
set_option maxRecDepth 100000 in
set_option maxHeartbeats 8000000 in
theorem headsMatch_any (T cl0 : Int) (p0 : Option Addr) (n0 c0 : Nat) (g0 : Nat → Pst) (x : Int) (q1 : Option Addr) (m1 c1 : Nat) (h : Nat → Nat → Int) (p : Pst) (w : World) (hr : ReadsP w p0 n0 g0) (hc0 : n0 ≤ c0) (hin : ArrsIn w q1 m1 h)
    (bx : -9223372036854775808 ≤ x ∧ x ≤ 9223372036854775807) (hT : RoundOk w) :
    Calls Tryd.prog 3 #[.agg #[.int .i64 T, .slice p0 n0 c0, .int .i64 cl0], .int .i64 x, .slice q1 m1 c1, .agg p.cells] w fun e w' => e = .returned (.bool true) ∧ Below w.heap.size w w' := by
  have HRD := Lib.hid hr
  have HIN := Lib.hid hin
  have BX := Lib.hid bx
  have HT := Lib.hid hT
  obtain ⟨n1, hn1⟩ : ∃ n1, min n0 8 = n1 := ⟨_, rfl⟩
  have x1 : (if (8 : Int) < (n0 : Int) then (8 : Int) else (n0 : Int)) = (n1 : Int) := by rw [← hn1]; split <;> omega
  have x2 : (if 8 < n0 then (8 : Int) else (n0 : Int)) = (n1 : Int) := by rw [← hn1]; split <;> omega
  have x3 : min (n0 : Int) 8 = (n1 : Int) := by omega
  have hn1c : n1 ≤ c0 := by omega
  have hn18 : n1 ≤ 8 := by omega
  have hn1n : n1 ≤ n0 := by omega
  have hs1 := add_zero' p0
  clear hr hin bx hT hn1
  have hz1 := BkBox.new w T cl0 (.slice p0 n0 c0)
  have hb1 : Below w.heap.size w (w.alloc (.cells #[.int .i64 T, .slice p0 n0 c0, .int .i64 cl0] 24)) := (Below.refl _ _).alloc (Nat.le_refl _) _
  obtain ⟨wa, hwa⟩ : ∃ wa, w.alloc (.cells #[.int .i64 T, .slice p0 n0 c0, .int .i64 cl0] 24) = wa := ⟨_, rfl⟩
  have hsa : wa.heap.size = w.heap.size + 1 := by rw [← hwa, World.size_alloc]
  have HWA := Lib.hid hwa
  rw [hwa] at hz1 hb1
  have hal2 : Below wa.heap.size wa (wa.alloc (.cells p.cells 27)) := (Below.refl _ _).alloc (Nat.le_refl _) _
  have hp2 := PBox.new wa p
  obtain ⟨wb, hwb⟩ : ∃ wb, wa.alloc (.cells p.cells 27) = wb := ⟨_, rfl⟩
  have HWB := Lib.hid hwb
  rw [hwb] at hal2 hp2
  rw [hsa] at hp2
  have HZ2 := Lib.hid (hz1.below hal2)
  have HP2 := Lib.hid hp2
  have HB2 := Lib.hid (hb1.trans (hal2.mono hb1.size))
  clear hz1 hb1 hwa hal2 hp2 hwb hsa
  go_enter Tryd.func3, Tryd.ntmps3
  go_upto_region 1 with fail
  rw [HWA.out, HWB.out]
  clear HWA HWB
  obtain ⟨S, hS⟩ : ∃ S, w.heap.size = S := ⟨_, rfl⟩
  rw [hS] at HZ2 HP2
  have HS := Lib.hid hS
  rw [hS]
  clear hS
  go_wp2_with fail
  refine (sane_any _).mono ?_
  rintro e w1 ⟨rfl, hb1⟩
  have hz1 := HZ2.out.below hb1
  have HP1 := Lib.hid (HP2.out.below hb1)
  have HB1 := Lib.hid (HB2.out.trans (hb1.mono HB2.out.size))
  obtain ⟨y0, y1, y2⟩ := hz1.cells
  have f1 := hz1.free 1
  have HZ1 := Lib.hid hz1
  clear hb1 hz1
  go_upto_region 3 with fail
  have hB3 : Below S w1 (w1.setCell ⟨S, 1, none⟩ (.slice p0 n1 c0)) := Below_set (Below.refl _ _) (Nat.le_refl _) _
  have hz3 := HZ1.out.setV (.slice p0 n1 c0)
  have hp3 : PBox (w1.setCell ⟨S, 1, none⟩ (.slice p0 n1 c0)) (S + 1) p := (Below.heap_setCell _ _ _ _ (by show S + 1 ≠ S; omega)).trans HP1.out
  obtain ⟨w3, hw3⟩ : ∃ w3, w1.setCell ⟨S, 1, none⟩ (.slice p0 n1 c0) = w3 := ⟨_, rfl⟩
  rw [hw3] at hB3 hz3 hp3 ⊢
  have HB3 := Lib.hid (HB1.out.trans (hB3.mono (Nat.le_of_eq HS.out)))
  have HRD0 := HRD
  have HIN0 := HIN
  have HP3 := Lib.hid hp3
  have HZ3 := Lib.hid hz3
  clear hw3 y0 y1 y2 f1 hB3 hz3 hp3 HRD HIN HZ2 HP2 HB2 HZ1 HP1 HB1 x1 x2 x3 hs1
  obtain ⟨z0, z1, z2, z3, z4, z5, z6⟩ := HP3.out.cells
  obtain ⟨E, er, hE⟩ := encV_form p
  have HEN := Lib.hid (fun W => Encode_any p W)
  have HRE := Lib.hid (fun W => ref_Encode_any p W)
  simp only [hE] at HEN HRE
  unfold Pst.cells at HEN HRE
  clear hE
  go_wp2_with fail
  refine (HEN.out w3).mono ?_
  rintro e wc ⟨rfl, hbc⟩
  have HBC := Lib.hid (HB3.out.trans (hbc.mono HB3.out.size))
  have HPC := Lib.hid (HP3.out.below hbc)
  have HZC := Lib.hid (HZ3.out.below hbc)
  clear z0 z1 z2 z3 z4 z5 z6 hbc HP3 HZ3
  obtain ⟨z0, z1, z2, z3, z4, z5, z6⟩ := HPC.out.cells
  go_wp2_with fail
  refine (HRE.out wc).mono ?_
  rintro e wd ⟨rfl, hbd⟩
  have HBD := Lib.hid (HBC.out.trans (hbd.mono HBC.out.size))
  have HZD := Lib.hid (HZC.out.below hbd)
  clear z0 z1 z2 z3 z4 z5 z6 hbd HPC HZC
  have HRDD := Lib.hid ((HRD0.out.below HBD.out).cut hn1n)
  have HIND := Lib.hid (HIN0.out.below HBD.out)
  have HTD := Lib.hid (HT.out.below HBD.out)
  go_upto_region 7 with fail
  have HMA := Lib.hid (fun W (hb : Below wd.heap.size wd W) => Made_any x q1 m1 c1 h W (HIND.out.below hb) BX.out)
  have HKS : Hid (∀ W, Below wd.heap.size wd W → Below wd.heap.size wd W ∧ W.cell? ⟨S, 0, none⟩ = some (.int .i64 T) ∧ W.cell? ⟨S, 1, none⟩ = some (.slice p0 n1 c0) ∧ W.cell? ⟨S, 2, none⟩ = some (.int .i64 cl0)) := Lib.hid (fun W hb => ⟨hb, (HZD.out.below hb).cells⟩)
  refine wp_region_held_drew (S := (fun W => Below wd.heap.size wd W ∧ W.cell? ⟨S, 0, none⟩ = some (.int .i64 T) ∧ W.cell? ⟨S, 1, none⟩ = some (.slice p0 n1 c0) ∧ W.cell? ⟨S, 2, none⟩ = some (.int .i64 cl0))) (by kernel_rfl) ?_ (fun hHeld => ?_)
  · exact HKS.out _ (Below.refl _ _).drew
  refine wpAnyH_take (i := 0) (v := ?_) rfl (by kernel_rfl) (by kernel_rfl) (by kernel_rfl) (fun _ _ _ h => h) (Or.inl ⟨by rfl, ?_⟩) (by assumption) ?_
  rotate_left
  · intro w hSw
    try dsimp only at hSw
    go_simp
    all_goals with_reducible rfl
  try simp only [Act.put, List.getElem_toArray, List.getElem_cons_zero, List.setIfInBounds_toArray, List.set_cons_zero, List.set_cons_succ]
  refine wpAnyH_take (i := 1) (v := ?_) rfl (by kernel_rfl) (by kernel_rfl) (by kernel_rfl) (fun _ _ _ h => h) (Or.inl ⟨by rfl, ?_⟩) (by assumption) ?_
  rotate_left
  · intro w hSw
    try dsimp only at hSw
    go_simp
    all_goals with_reducible rfl
  try simp only [Act.put, List.getElem_toArray, List.getElem_cons_succ, List.getElem_cons_zero, List.setIfInBounds_toArray, List.set_cons_zero, List.set_cons_succ]
  refine wpAnyH_take (i := 2) (v := ?_) rfl (by kernel_rfl) (by kernel_rfl) (by kernel_rfl) (fun _ _ _ h => h) (Or.inl ⟨by rfl, ?_⟩) (by assumption) ?_
  rotate_left
  · intro w hSw
    try dsimp only at hSw
    go_simp
    all_goals with_reducible rfl
  try simp only [Act.put, List.getElem_toArray, List.getElem_cons_succ, List.getElem_cons_zero, List.setIfInBounds_toArray, List.set_cons_zero, List.set_cons_succ]
  refine wpAnyH_take (i := 6) (v := ?_) rfl (by kernel_rfl) (by kernel_rfl) (by kernel_rfl) (fun _ _ _ h => h) (Or.inl ⟨by rfl, ?_⟩) (by assumption) ?_
  rotate_left
  · intro w hSw
    try dsimp only at hSw
    go_simp
    all_goals with_reducible rfl
  try simp only [Act.put, List.getElem_toArray, List.getElem_cons_succ, List.getElem_cons_zero, List.setIfInBounds_toArray, List.set_cons_zero, List.set_cons_succ]
  refine wpAnyH_ready (rs := [3]) (by kernel_rfl) (by simp) ?_
  refine AllReadyH.cons rfl (fun K hK => ?_) AllReadyH.nil
  go_simp
  go_at_call 8
  refine (HMA.out _ (Below.refl _ _).drew).mono ?_
  rintro e we ⟨tn, n2, c2, cl2, q2, g2, rfl, hok, hn48, hsub, hrd4, _, hb4⟩
  have hb4' := (Below.refl wd.heap.size wd).drew.trans hb4
  refine hK.out _ _ ?_ (fun hHeld2 => ?_)
  · exact HKS.out _ hb4'
  clear hK K hHeld
  have hHeld := hHeld2
  clear hHeld2
  try simp only [Act.put, List.getElem_toArray, List.getElem_cons_succ, List.getElem_cons_zero, List.setIfInBounds_toArray, List.set_cons_zero, List.set_cons_succ]
  refine wpAnyH_ready (rs := [4]) (by kernel_rfl) (by simp) ?_
  refine AllReadyH.cons rfl (fun K hK => ?_) AllReadyH.nil
  go_simp
  refine hK.out _ _ ?_ (fun hHeld2 => ?_)
  · exact HKS.out _ (hb4'.alloc hb4'.size _)
  clear hK K hHeld
  have hHeld := hHeld2
  clear hHeld2
  try simp only [Act.put, List.getElem_toArray, List.getElem_cons_succ, List.getElem_cons_zero, List.setIfInBounds_toArray, List.set_cons_zero, List.set_cons_succ]
  refine wpAnyH_take (i := 5) (v := ?_) rfl (by kernel_rfl) (by kernel_rfl) (by kernel_rfl) (fun _ _ _ h => h) (Or.inl ⟨by rfl, ?_⟩) (by assumption) ?_
  rotate_left
  · intro w hSw
    try dsimp only at hSw
    go_simp
    all_goals with_reducible rfl
  try simp only [Act.put, List.getElem_toArray, List.getElem_cons_succ, List.getElem_cons_zero, List.setIfInBounds_toArray, List.set_cons_zero, List.set_cons_succ]
  refine wpAnyH_done (by kernel_rfl) ?_ _
  go_wp2_with fail
  have hal5 : Below we.heap.size we (we.alloc (.cells #[.int .i64 T, .slice p0 n1 c0, .int .i64 cl0, .int .i64 (tn : Int), .slice q2 n2 c2, .int .i64 cl2] 24)) := (Below.refl _ _).alloc (Nat.le_refl _) _
  have hcs : ∀ j, j < 2 → ∃ (t cl : Int) (q : Option Addr) (n c : Nat) (g : Nat → Pst), BkAt (we.alloc (.cells #[.int .i64 T, .slice p0 n1 c0, .int .i64 cl0, .int .i64 (tn : Int), .slice q2 n2 c2, .int .i64 cl2] 24)) we.heap.size j t (.slice q n c) cl ∧
      ReadsP (we.alloc (.cells #[.int .i64 T, .slice p0 n1 c0, .int .i64 cl0, .int .i64 (tn : Int), .slice q2 n2 c2, .int .i64 cl2] 24)) q n g ∧ n ≤ 48 := fun j hj => by
    rcases (show j = 0 ∨ j = 1 by omega) with rfl | rfl
    · exact ⟨T, cl0, p0, n1, c0, g0, by simp [BkAt], (HRDD.out.below hb4').below hal5, by omega⟩
    · exact ⟨tn, cl2, q2, n2, c2, g2, by simp [BkAt], hrd4.below hal5, hn48⟩
  obtain ⟨w5, hw5⟩ : ∃ w5, we.alloc (.cells #[.int .i64 T, .slice p0 n1 c0, .int .i64 cl0, .int .i64 (tn : Int), .slice q2 n2 c2, .int .i64 cl2] 24) = w5 := ⟨_, rfl⟩
  rw [hw5] at hal5 hcs ⊢
  have HB5 := Lib.hid ((HBD.out.trans (hb4'.mono HBD.out.size)).trans (hal5.mono (Nat.le_trans HBD.out.size hb4'.size)))
  have HT5 := Lib.hid (HT.out.below HB5.out)
  obtain ⟨G, hG⟩ : ∃ G, we.heap.size = G := ⟨_, rfl⟩
  rw [hG] at hcs ⊢
  have HC5 := Lib.hid hcs
  clear hal5 hcs hw5 hG hb4 hb4' hHeld hrd4 hok hsub HKS HMA HIND HRDD HZD HBC HBD BX
  go_loopw [53] (fun z wr => ∃ j : Nat, j ≤ 2 ∧ z = .int .i64 j ∧ Below w5.heap.size w5 wr) (fun z _ => 2 - (intOf z).toNat)
  case atStart => exact ⟨0, by omega, rfl, Below.refl _ _⟩
  case round =>
    obtain ⟨j, hj, rfl, hb⟩ := hrel
    by_cases hj2 : j < 2
    · obtain ⟨t, cl, q, n, c, g, hat, hrd, hn⟩ := HC5.out j hj2
      obtain ⟨a0, a1, a2⟩ := hat.below hb
      have hrd1 := hrd.below hb
      have v0 : (0 : Int) ≤ (j : Int) := by omega
      have v1 : (j : Int) < 2 := by omega
      have hal6 : Below wr.heap.size wr (wr.alloc (.cells #[.int .i64 t, .slice q n c, .int .i64 cl] 24)) := (Below.refl _ _).alloc (Nat.le_refl _) _
      have hbk := BkBox.new wr t cl (.slice q n c)
      have HRD := Lib.hid hrd1
      clear hat hrd hrd1
      go_upto_region 10 with fail
      obtain ⟨wA, hwA⟩ : ∃ wA, wr.alloc (.cells #[.int .i64 t, .slice q n c, .int .i64 cl] 24) = wA := ⟨_, rfl⟩
      rw [hwA] at hal6 hbk ⊢
      obtain ⟨B, hB⟩ : ∃ B, wr.heap.size = B := ⟨_, rfl⟩
      have HBW := Lib.hid (hb.trans (hal6.mono hb.size))
      have HRA := Lib.hid (HRD.out.below hal6)
      rw [hB] at hbk ⊢
      have HBK := Lib.hid hbk
      obtain ⟨b0, b1, b2⟩ := hbk.cells
      obtain ⟨X, er2, hX⟩ := bhV_form t cl n g
      have HH := Lib.hid (Head27_any t cl q n c g wA (by unfold maxLen; omega) HRA.out (HT5.out.below HBW.out))
      rw [hX] at HH
      have HX := Lib.hid hX
      clear hwA hal6 hbk a0 a1 a2 v0 v1 hB HRD hX hb
      go_wp2_with fail
      refine HH.out.mono ?_
      rintro e w2 ⟨rfl, hb2⟩
      have HB2 := Lib.hid (HBW.out.trans (hb2.mono HBW.out.size))
      have HR := Lib.hid (ref_Head27_any t cl q n c g w2 (by omega) (HRA.out.below hb2))
      rw [HX.out] at HR
      have hbk2 := HBK.out.below hb2
      clear hb2 b0 b1 b2 HH
      obtain ⟨b0, b1, b2⟩ := hbk2.cells
      clear hbk2
      go_wp2_with fail
      refine HR.out.mono ?_
      rintro e w3 ⟨rfl, hb3⟩
      have HB3 := Lib.hid (HB2.out.trans (hb3.mono HB2.out.size))
      clear hb3 b0 b1 b2 HR
      go_wp2_with fail
      exact ⟨⟨j + 1, by omega, by go_num, HB3.out⟩, by simp [intOf]; omega⟩
    · obtain rfl : j = 2 := by omega
      go_wp2_with fail
      go_ret
      exact ⟨rfl, HS.out ▸ HB5.out.trans (hb.mono HB5.out.size)⟩
end Go.Proofs.YtcfplkbbgjiocaaDoor
