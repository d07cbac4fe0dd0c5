/- QuotaMatchesReference returns true. Conditions: numbers of 64 bits; slices that came in. -/
import Derived.Test.YtdodhfodojjfeaaAllRun
import Derived.Test.YtdodhfodojjfeaaOpenMore
import Derived.Deep.DeepCutAuto
import Derived.Deep.DeepMust
import Derived.Deep.RegionLaw
namespace Go.Proofs.Ytdodhfodojjfeaa
open Go Go.RowKit Go.Shelf
theorem add_zero' (a : Option Addr) : a.map (fun x => x.add 0) = a := by
  cases a with
  | none => rfl
  | some a => obtain ⟨b, o, s⟩ := a; cases s <;> simp [Addr.add]
theorem Says.iff {e : Ending} {p : Prop} (h : Says e p) : ∃ r : Bool, e = .returned (.bool r) ∧ (r = true ↔ p) := h
/-- A quota of any numbers in a box. -/
def QI (W : World) (B : Nat) (x y z : Int) (v : Value) : Prop := W.heap[B]? = some (.cells #[.int .i64 x, .int .i64 y, .int .i64 z, v] 35 (0, 0))
theorem QI.lt {W : World} {B : Nat} {x y z : Int} {v : Value} (h : QI W B x y z v) : B < W.heap.size := (Array.getElem?_eq_some_iff.1 h).1
theorem QI.cells {W : World} {B : Nat} {x y z : Int} {v : Value} (h : QI W B x y z v) : W.cell? ⟨B, 0, none⟩ = some (.int .i64 x) ∧ W.cell? ⟨B, 1, none⟩ = some (.int .i64 y) ∧ W.cell? ⟨B, 2, none⟩ = some (.int .i64 z) ∧ W.cell? ⟨B, 3, none⟩ = some v := by
  simp [World.cell?, show W.heap[B]? = _ from h]
theorem QI.free {W : World} {B : Nat} {x y z : Int} {v : Value} (h : QI W B x y z v) (i : Nat) : W.frozen? ⟨B, i, none⟩ = false := by
  unfold World.frozen?
  rw [show W.heap[B]? = _ from h]
  simp
theorem QI.below {W W' : World} {B : Nat} {x y z : Int} {v : Value} (h : QI W B x y z v) (hb : Below W.heap.size W W') : QI W' B x y z v := (hb.block _ h.lt).trans h
theorem QI.new (W : World) (x y z : Int) (v : Value) : QI (W.alloc (.cells #[.int .i64 x, .int .i64 y, .int .i64 z, v] 35)) W.heap.size x y z v := World.alloc_heap_new W _
theorem QI.setW {W : World} {B : Nat} {x y z : Int} {v : Value} (h : QI W B x y z v) (u : Value) : QI (W.setCell ⟨B, 3, none⟩ u) B x y z u := by
  unfold QI at h ⊢
  unfold World.setCell
  simp [Array.getElem?_modify, h]
theorem reads_far {W : World} {p : Option Addr} {n : Nat} {f : Nat → Int} (h : ReadsI W p n f) {b : Nat} (hb : ∀ a, p = some a → a.block ≠ b) (i : Nat) (v : Value) : ReadsI (W.setCell ⟨b, i, none⟩ v) p n f := fun j hj => by
  obtain ⟨b', off, hp, hc⟩ := h j hj
  have hne := hb _ hp
  exact ⟨b', off, hp, fun l hl => (World.cell?_setCell_far W ⟨b, i, none⟩ ⟨b', off + l, none⟩ v (Ne.symm hne)).trans (hc l hl)⟩
theorem reads_alloc {W : World} {p : Option Addr} {n : Nat} {f : Nat → Int} (h : ReadsI W p n f) (o : Obj) : ReadsI (W.alloc o) p n f := h.below ((Below.refl W.heap.size W).alloc (Nat.le_refl _) o)
theorem reads_four {W : World} {p : Option Addr} {n : Nat} {f : Nat → Int} (h : ReadsI W p n f) {b : Nat} (hb : ∀ a, p = some a → b < a.block) (v0 v1 v2 v3 : Value) :
    ReadsI ((((W.setCell ⟨b, 0, none⟩ v0).setCell ⟨b, 1, none⟩ v1).setCell ⟨b, 2, none⟩ v2).setCell ⟨b, 3, none⟩ v3) p n f := by
  have hne : ∀ a, p = some a → a.block ≠ b := fun a h => by have := hb a h; omega
  exact reads_far (reads_far (reads_far (reads_far h hne 0 v0) hne 1 v1) hne 2 v2) hne 3 v3
theorem make_rows : ∃ o : Obj, (∀ W : World, (Instr.makeSlice 33 (.int .i64 201) (.int .i64 201)).run Try.prog W = .ok (.slice (some ⟨W.heap.size, 0, none⟩) 201 201) (W.alloc o)) ∧ ∀ (W : World) (j : Nat), j < 201 → (W.alloc o).cell? ⟨W.heap.size, j, none⟩ = some (.slice none 0 0) := by
  obtain ⟨i1, hi, hz0, hz1, hz2⟩ := info_parts Try.infoInts
  refine ⟨.cells (madeCells (Value.slice none 0 0).cells (201 * i1.size)) 22, fun W => ?_, fun W j hj => ?_⟩
  · exact run_make (P := Try.prog) W 33 22 i1 (.slice none 0 0) Try.underlying33 hi hz0 .i64 .i64 201 201 (by omega) (by omega) (by rw [hz2]; omega) (by omega)
  · rw [hz1]
    have h := made_one (.slice none 0 0) rfl 201
    have h2 : (madeCells (Value.slice none 0 0).cells (201 * 1))[j]? = some (.slice none 0 0) := by
      rw [← Array.getElem?_toList, h, List.getElem?_replicate, if_pos hj]
    simp only [World.cell?, World.alloc_heap_new]
    exact h2
theorem IntsIn.cut {W : World} {p : Option Addr} {n k : Nat} {f : Nat → Int} (h : IntsIn W p n f) (hk : k ≤ n) : IntsIn W p k f :=
  ⟨by have := h.small; omega, fun i hi => by
    obtain ⟨b, off, hp, hlt, hc⟩ := h.cell i (by omega)
    exact ⟨b, off, hp, hlt, fun j hj => hc j (by omega)⟩, fun i hi => h.bd i (by omega)⟩
theorem IntsIn.set {W : World} {p : Option Addr} {n : Nat} {f : Nat → Int} (h : IntsIn W p n f) {B : Nat} (hB : ∀ i, i < n → ∀ b off, p = some ⟨b, off, none⟩ → b ≠ B) (i : Nat) (v : Value) : IntsIn (W.setCell ⟨B, i, none⟩ v) p n f :=
  ⟨h.small, fun j hj => by
    obtain ⟨b, off, hp, hlt, hc⟩ := h.cell j hj
    have hne := hB j hj b off hp
    exact ⟨b, off, hp, by rw [World.size_setCell]; exact hlt, fun l hl => (World.cell?_setCell_far W ⟨B, i, none⟩ ⟨b, off + l, none⟩ v (Ne.symm hne)).trans (hc l hl)⟩, h.bd⟩
set_option maxRecDepth 100000 in
set_option maxHeartbeats 8000000 in
theorem quotaMatches_any (a0 a2 cap t lim : Int) (p0 p q : Option Addr) (n0 c0 n c m0 e0 : Nat) (f0 f : Nat → Int) (A : Nat → Option Addr) (L C : Nat → Nat) (Z : Nat → Nat → Int) (w : World) (hin : IntsIn w p0 n0 f0) (hc0 : n0 ≤ c0) (hw : IntsIn w p n f) (hc : n ≤ c) (hrows : RowsIn w q m0 A L C Z) (hcr : ∀ i, i < m0 → L i ≤ C i)
    (b0 : -9223372036854775808 ≤ a0 ∧ a0 ≤ 9223372036854775807) (b2 : -9223372036854775808 ≤ a2 ∧ a2 ≤ 9223372036854775807) :
    Calls Try.prog 7 #[.int .i64 a0, .slice p0 n0 c0, .int .i64 a2, .agg #[.int .i64 cap, .int .i64 t, .int .i64 lim, .slice p n c], .slice q m0 e0] w fun e w' => e = .returned (.bool true) ∧ Below w.heap.size w w' := by
  have HIN := Lib.hid hin
  have HW := Lib.hid hw
  have HROWS := Lib.hid hrows
  have HCR := Lib.hid hcr
  obtain ⟨n1, hn1⟩ : ∃ n1, min n 9 = n1 := ⟨_, rfl⟩
  have x1 : (if (9 : Int) < (n : Int) then (9 : Int) else (n : Int)) = (n1 : Int) := by rw [← hn1]; split <;> omega
  have x2 : (if 9 < n then (9 : Int) else (n : Int)) = (n1 : Int) := by rw [← hn1]; split <;> omega
  have hn1c : n1 ≤ c := by omega
  have hn19 : n1 ≤ 9 := by omega
  have hn1n : n1 ≤ n := by omega
  have hs1 := add_zero' p
  clear hin hw hrows hcr hn1
  have hB0 := (Below.refl w.heap.size w).alloc (Nat.le_refl _) (.cells #[.int .i64 cap, .int .i64 t, .int .i64 lim, .slice p n c] 35)
  go_enter Try.func7, Try.ntmps7
  go_wp2_with fail
  refine (sane_any _).mono ?_
  rintro e w1 ⟨rfl, hb1⟩
  have hB1 := hB0.trans (hb1.mono hB0.size)
  have hx1 := (QI.new w cap t lim (.slice p n c)).below hb1
  have x3 := hx1.cells.2.2.2
  have x4 := hx1.free 3
  have hx2 := hx1.setW (.slice p n1 c)
  have hB2 : Below w.heap.size w (w1.setCell ⟨w.heap.size, 3, none⟩ (.slice p n1 c)) := Below_set hB1 (Nat.le_refl _) _
  clear hb1 hB0 hx1 hB1
  go_wp2_with fail
  clear x3 x4
  obtain ⟨w2, hw2⟩ : ∃ w2, w1.setCell ⟨w.heap.size, 3, none⟩ (.slice p n1 c) = w2 := ⟨_, rfl⟩
  obtain ⟨B, hB⟩ : ∃ B, w.heap.size = B := ⟨_, rfl⟩
  rw [hw2, hB] at hx2 ⊢
  rw [hw2] at hB2
  clear hw2
  refine (demands_any p0 n0 c0 f0 w2 (HIN.out.below hB2)).mono ?_
  rintro e w3 ⟨G, nd, cd, d, rfl, hnd1, hnd8, hd, hG, hat, hb3⟩
  have hB3 := hB2.trans (hb3.mono hB2.size)
  have hx3 := hx2.below hb3
  clear hb3 hB2 hx2
  have hWr := (HW.out.below hB3).cut hn1n
  have hv : ∃ r : Bool, r = true ↔ QuotaOk cap t lim n1 f := by
    by_cases h : QuotaOk cap t lim n1 f
    · exact ⟨true, by simp [h]⟩
    · exact ⟨false, by simp [h]⟩
  obtain ⟨r, hr⟩ := hv
  have HV1 := Lib.hid (fun W (hb : Below w3.heap.size w3 W) => (valid_any cap t lim p n1 c f W (by unfold maxLen; omega) (hWr.reads.below hb)).mono fun e w' (h : Says e (QuotaOk cap t lim n1 f) ∧ Below W.heap.size W w') => (⟨by
    obtain ⟨⟨s, rfl, hs⟩, _⟩ := h
    rw [Bool.eq_iff_iff.2 (hs.trans hr.symm)], hb.trans (h.2.mono hb.size)⟩ : e = Ending.returned (.bool r) ∧ Below w3.heap.size w3 w'))
  have HV2 := Lib.hid (fun W (hb : Below w3.heap.size w3 W) => (ref_valid_any cap t lim p n1 c f W (by unfold maxLen; omega) (hWr.reads.below hb)).mono fun e w' (h : Says e (QuotaOk cap t lim n1 f) ∧ Below W.heap.size W w') => (⟨by
    obtain ⟨⟨s, rfl, hs⟩, _⟩ := h
    rw [Bool.eq_iff_iff.2 (hs.trans hr.symm)], hb.trans (h.2.mono hb.size)⟩ : e = Ending.returned (.bool r) ∧ Below w3.heap.size w3 w'))
  have hBl := hx3.lt
  obtain ⟨y0, y1, y2, y3⟩ := hx3.cells
  have HKS := Lib.hid (fun W (hb : Below w3.heap.size w3 W) => (⟨hb, (hb.cell hBl).trans y0, (hb.cell hBl).trans y1, (hb.cell hBl).trans y2, (hb.cell hBl).trans y3⟩ : Below w3.heap.size w3 W ∧ W.cell? ⟨B, 0, none⟩ = some (.int .i64 cap) ∧ W.cell? ⟨B, 1, none⟩ = some (.int .i64 t) ∧ W.cell? ⟨B, 2, none⟩ = some (.int .i64 lim) ∧ W.cell? ⟨B, 3, none⟩ = some (.slice p n1 c)))
  have HX3 := Lib.hid hx3
  have HAT := Lib.hid hat
  have HWR := Lib.hid hWr
  clear y0 y1 y2 y3 hx3 hat hWr hr x1 x2
  go_wp2_with fail
  go_region_held3 (fun W => Below w3.heap.size w3 W ∧ W.cell? ⟨B, 0, none⟩ = some (.int .i64 cap) ∧ W.cell? ⟨B, 1, none⟩ = some (.int .i64 t) ∧ W.cell? ⟨B, 2, none⟩ = some (.int .i64 lim) ∧ W.cell? ⟨B, 3, none⟩ = some (.slice p n1 c))
    (first | exact HKS.out _ (Below.refl _ _) | exact HKS.out _ (by assumption) | exact HKS.out _ (Below.drew (by assumption)) | exact HKS.out _ (Below.refl _ _).drew | go_keep) (((first | (go_at_call 17; refine (HV1.out _ ?_).mono ?_) | (go_at_call 18; refine (HV2.out _ ?_).mono ?_)); (first | assumption | exact Below.refl _ _ | exact Below.drew (Below.refl _ _) | exact Below.drew (by assumption)); rintro e w' ⟨rfl, hb'⟩))
  have hB4 := hB3.trans (hb'.mono hB3.size)
  have hx4 := HX3.out.below hb'
  have hat4 := HAT.out.below hb'
  have hW4 := HWR.out.below hb'
  rename_i hHeld
  clear hHeld HV1 HV2 HKS hBl HX3 HAT HWR hb' hs1 hB3
  have HX4 := Lib.hid hx4
  have HAT4 := Lib.hid hat4
  have HW4 := Lib.hid hW4
  have HB4 := Lib.hid hB4
  clear hx4 hat4 hW4 hB4 HW
  go_wp2_with fail
  refine (pick_any a0 100 100 _ rfl b0.1 b0.2 (by omega) (by omega)).mono ?_
  rintro e w5 ⟨rfl, rfl⟩
  obtain ⟨cc, hcc⟩ : ∃ c, pickN a0 100 = c := ⟨_, rfl⟩
  rw [hcc]
  clear hcc
  go_wp2_with fail
  have hb5 := (Below.refl w'.heap.size w').alloc (Nat.le_refl _) (.cells #[.int .i64 a0, .int .i64 (cc : Int)] 3)
  have hc5 : ∀ j, j < 2 → ∃ ci, (w'.alloc (.cells #[.int .i64 a0, .int .i64 (cc : Int)] 3)).cell? ⟨w'.heap.size, j, none⟩ = some (.int .i64 ci) := fun j hj => by
    rcases (show j = 0 ∨ j = 1 by omega) with rfl | rfl
    · exact ⟨a0, by simp⟩
    · exact ⟨cc, by simp⟩
  have hl5 : w'.heap.size < (w'.alloc (.cells #[.int .i64 a0, .int .i64 (cc : Int)] 3)).heap.size := by simp
  obtain ⟨w5, hw5⟩ : ∃ w5, w'.alloc (.cells #[.int .i64 a0, .int .i64 (cc : Int)] 3) = w5 := ⟨_, rfl⟩
  rw [hw5] at hb5 hc5 hl5 ⊢
  obtain ⟨S1, hS1⟩ : ∃ S1, w'.heap.size = S1 := ⟨_, rfl⟩
  rw [hS1] at hc5 hl5 ⊢
  clear hw5
  have HC5 := Lib.hid hc5
  have hB5 := HB4.out.trans (hb5.mono HB4.out.size)
  have HX5 := Lib.hid (HX4.out.below hb5)
  have HAT5 := Lib.hid (HAT4.out.below hb5)
  have HW5 := Lib.hid (HW4.out.below hb5)
  have HB5 := Lib.hid hB5
  obtain ⟨n01, hn01⟩ : ∃ n1, min n0 9 = n1 := ⟨_, rfl⟩
  have X1 : Hid ((if (9 : Int) < (n0 : Int) then (9 : Int) else (n0 : Int)) = (n01 : Int)) := Lib.hid (by rw [← hn01]; split <;> omega)
  have X2 : Hid ((if 9 < n0 then (9 : Int) else (n0 : Int)) = (n01 : Int)) := Lib.hid (by rw [← hn01]; split <;> omega)
  have hn0c : n01 ≤ c0 := by omega
  have hn09 : n01 ≤ 9 := by omega
  have hn0n : n01 ≤ n0 := by omega
  clear hn01 hc5 hb5 HX4 HAT4 HW4 HB4 hB5 hS1
  go_loopw [65] (fun z wr => ∃ i : Nat, i ≤ 2 ∧ z = .int .i64 i ∧ Below w5.heap.size w5 wr) (fun z _ => 2 - (intOf z).toNat)
  case atStart => exact ⟨0, by omega, rfl, Below.refl _ _⟩
  case round =>
    obtain ⟨i, hi, rfl, hb⟩ := hrel
    by_cases hi2 : i < 2
    · obtain ⟨ci, hci⟩ := HC5.out i hi2
      have hci2 := (hb.cell (p := ⟨S1, i, none⟩) hl5).trans hci
      have v0 : (0 : Int) ≤ (i : Int) := by omega
      have v1 : (i : Int) < 2 := by omega
      have x1 := X1.out
      have x2 := X2.out
      have hs1 := add_zero' p0
      clear hci
      go_wp2_with fail
      have hb6 := (Below.refl wr.heap.size wr).alloc (Nat.le_refl _) (.cells #[.slice p0 n01 c0, .slice (some ⟨G, 0, none⟩) nd cd] 22)
      have hc6 : ∀ j, j < 2 → ∃ (pd : Option Addr) (k kc : Nat) (g : Nat → Int), (wr.alloc (.cells #[.slice p0 n01 c0, .slice (some ⟨G, 0, none⟩) nd cd] 22)).cell? ⟨wr.heap.size, j, none⟩ = some (.slice pd k kc) ∧ ReadsI (wr.alloc (.cells #[.slice p0 n01 c0, .slice (some ⟨G, 0, none⟩) nd cd] 22)) pd k g ∧ k ≤ 9 := fun j hj => by
        have hbw := HB5.out.trans (hb.mono HB5.out.size)
        rcases (show j = 0 ∨ j = 1 by omega) with rfl | rfl
        · exact ⟨p0, n01, c0, f0, by simp, (((HIN.out.cut hn0n).below hbw).below hb6).reads, hn09⟩
        · exact ⟨some ⟨G, 0, none⟩, nd, cd, _, by simp, ((HAT5.out.below hb).below hb6).reads, by omega⟩
      have hl6 : wr.heap.size < (wr.alloc (.cells #[.slice p0 n01 c0, .slice (some ⟨G, 0, none⟩) nd cd] 22)).heap.size := by simp
      obtain ⟨w6, hw6⟩ : ∃ w6, wr.alloc (.cells #[.slice p0 n01 c0, .slice (some ⟨G, 0, none⟩) nd cd] 22) = w6 := ⟨_, rfl⟩
      rw [hw6] at hb6 hc6 hl6 ⊢
      obtain ⟨S2, hS2⟩ : ∃ S2, wr.heap.size = S2 := ⟨_, rfl⟩
      rw [hS2] at hc6 hl6 ⊢
      have HC6 := Lib.hid hc6
      have HB6 := Lib.hid (hb.trans (hb6.mono hb.size))
      clear hw6 hS2 hc6 hb hb6 hci2 v0 v1 x1 x2 hs1
      go_loopw [77] (fun z wv => ∃ j : Nat, j ≤ 2 ∧ z = .int .i64 j ∧ Below w6.heap.size w6 wv) (fun z _ => 2 - (intOf z).toNat)
      case atStart => exact ⟨0, by omega, rfl, Below.refl _ _⟩
      case round =>
        obtain ⟨j, hj, rfl, hb⟩ := hrel
        by_cases hj2 : j < 2
        · obtain ⟨pd, k, kc, g, hcj, hrj, hk9⟩ := HC6.out j hj2
          have hcj2 := (hb.cell (p := ⟨S2, j, none⟩) hl6).trans hcj
          have v0 : (0 : Int) ≤ (j : Int) := by omega
          have v1 : (j : Int) < 2 := by omega
          have HRJ := Lib.hid hrj
          clear hcj hrj
          go_wp2_with fail
          refine (pick_any a2 nd nd _ rfl b2.1 b2.2 (by omega) (by omega)).mono ?_
          rintro e w7 ⟨rfl, rfl⟩
          obtain ⟨tt, htt⟩ : ∃ c, pickN a2 nd = c := ⟨_, rfl⟩
          rw [htt]
          clear htt
          go_wp2_with fail
          have hb7 := (Below.refl wr.heap.size wr).alloc (Nat.le_refl _) (.cells #[.int .i64 a2, .int .i64 (tt : Int)] 3)
          have hc7 : ∀ j, j < 2 → ∃ ci, (wr.alloc (.cells #[.int .i64 a2, .int .i64 (tt : Int)] 3)).cell? ⟨wr.heap.size, j, none⟩ = some (.int .i64 ci) := fun j hj => by
            rcases (show j = 0 ∨ j = 1 by omega) with rfl | rfl
            · exact ⟨a2, by simp⟩
            · exact ⟨tt, by simp⟩
          have hl7 : wr.heap.size < (wr.alloc (.cells #[.int .i64 a2, .int .i64 (tt : Int)] 3)).heap.size := by simp
          obtain ⟨w7, hw7⟩ : ∃ w7, wr.alloc (.cells #[.int .i64 a2, .int .i64 (tt : Int)] 3) = w7 := ⟨_, rfl⟩
          rw [hw7] at hb7 hc7 hl7 ⊢
          obtain ⟨S3, hS3⟩ : ∃ S3, wr.heap.size = S3 := ⟨_, rfl⟩
          rw [hS3] at hc7 hl7 ⊢
          have HC7 := Lib.hid hc7
          have HRJ7 := Lib.hid (HRJ.out.below (hb.trans (hb7.mono hb.size)))
          have HB7 := Lib.hid (hb.trans (hb7.mono hb.size))
          clear hw7 hS3 hc7 hb hb7 hcj2 v0 v1 HRJ
          go_loopw [88] (fun z wv => ∃ l : Nat, l ≤ 2 ∧ z = .int .i64 l ∧ Below w7.heap.size w7 wv) (fun z _ => 2 - (intOf z).toNat)
          case atStart => exact ⟨0, by omega, rfl, Below.refl _ _⟩
          case round =>
            obtain ⟨l, hl, rfl, hb⟩ := hrel
            by_cases hl2 : l < 2
            · obtain ⟨ti, hti⟩ := HC7.out l hl2
              have hti2 := (hb.cell (p := ⟨S3, l, none⟩) hl7).trans hti
              have v0 : (0 : Int) ≤ (l : Int) := by omega
              have v1 : (l : Int) < 2 := by omega
              clear hti
              go_wp2_with fail
              refine (divide_all ci ti pd k kc g wr (by unfold maxLen; omega) (HRJ7.out.below hb)).mono ?_
              rintro e w8 ⟨q1, k1, cp1, r1, er1, rfl, hsp1, hrd1, hb8⟩
              have hb9 := hb.trans (hb8.mono hb.size)
              have HSP1 := Lib.hid hsp1
              have HRD1 := Lib.hid hrd1
              have HB9 := Lib.hid hb9
              clear hti2 hsp1 hrd1 hb8 hb hb9
              go_wp2_with fail
              refine (ref_divide_all ci ti pd k kc g w8 (by unfold maxLen; omega) (HRJ7.out.below HB9.out)).mono ?_
              rintro e w9 ⟨q2, k2, cp2, r2, er2, rfl, hsp2, hrd2, hb8⟩
              obtain ⟨rfl, rfl, hab⟩ := HSP1.out.unique hsp2
              have hk8 := HSP1.out.small
              have HI := Lib.hid (ints_yes q1 q2 k1 k1 cp1 cp2 r1 r2 w9 (by omega) rfl (HRD1.out.below hb8) hrd2 hab)
              have hb9 := HB9.out.trans (hb8.mono HB9.out.size)
              clear hsp2 hrd2 hb8 hab
              go_wp2_with fail
              refine HI.out.mono ?_
              rintro e w10 ⟨rfl, hb10⟩
              go_wp2_with fail
              exact ⟨⟨l + 1, by omega, by go_num, hb9.trans (hb10.mono hb9.size)⟩, by simp [intOf]; omega⟩
            · obtain rfl : l = 2 := by omega
              go_wp2_with fail
              exact ⟨⟨j + 1, by omega, by go_num, HB7.out.trans (hb.mono HB7.out.size)⟩, by simp [intOf]; omega⟩
        · obtain rfl : j = 2 := by omega
          go_wp2_with fail
          exact ⟨⟨i + 1, by omega, by go_num, HB6.out.trans (hb.mono HB6.out.size)⟩, by simp [intOf]; omega⟩
    · have hi3 : ¬ ((i : Int) < 2) := by omega
      clear HIN HAT5 X1 X2 HC5 hl5 hn0c hn09 hn0n hc0 hd hnd1 hnd8 hG b0 b2
      obtain ⟨w6, rfl⟩ : ∃ w6 : World, w6 = wr := ⟨_, rfl⟩
      have HX6 := Lib.hid (HX5.out.below hb)
      have HW6 := Lib.hid (HW5.out.below hb)
      have HB6 := Lib.hid (HB5.out.trans (hb.mono HB5.out.size))
      clear HX5 HW5 HB5 hb
      obtain ⟨i1, hi', hy0, hy1, hy2⟩ := info_parts Try.infoInts
      have h0 : w6.ownsRow w6.heap.size 22 1 (.slice none 0 0) 0 ((List.range 0).map fun j => Value.slice (A j) (min (L j) 9) (C j)) := World.ownsRow_nil _ _ _ _
      go_wp2_with fail
      go_loopw [23, 24] (fun v z wv => ∃ (k : Nat), k ≤ m0 ∧ k ≤ 6 ∧ z = .int .i64 k ∧ wv.ownsRow w6.heap.size 22 1 v k ((List.range k).map fun j => Value.slice (A j) (min (L j) 9) (C j)) ∧ Below w6.heap.size w6 wv) (fun _ z _ => 6 - (intOf z).toNat)
      case atStart => exact ⟨0, by omega, by omega, rfl, h0, Below.refl _ _⟩
      case round =>
        obtain ⟨k, hk, hk6, rfl, hown, hb⟩ := hrel
        clear h0
        by_cases hlt : k < m0 ∧ k < 6
        · obtain ⟨hlt, hlt6⟩ := hlt
          obtain ⟨vp, vc, rfl⟩ : ∃ vp vc, u23 = .slice vp k vc := by
            rcases hown.2 with ⟨h, h0⟩ | ⟨g, cap, cur, h, _⟩
            · exact ⟨none, 0, by rw [h, h0]⟩
            · exact ⟨_, _, h⟩
          have hbw := HB6.out.trans (hb.mono HB6.out.size)
          obtain ⟨bq, oq, rfl, hbq, hcq⟩ := (HROWS.out.below hbw).cell k hlt
          have c1 := hcq k hlt
          have v0 : (0 : Int) ≤ (k : Int) := by omega
          have v1 : (k : Int) < (m0 : Int) := by omega
          have hLC := HCR.out k hlt
          obtain ⟨n2, hn2⟩ : ∃ x, min (L k) 9 = x := ⟨_, rfl⟩
          obtain ⟨Ak, hAk⟩ : ∃ x, A k = x := ⟨_, rfl⟩
          obtain ⟨Lk, hLk⟩ : ∃ x, L k = x := ⟨_, rfl⟩
          obtain ⟨Ck, hCk⟩ : ∃ x, C k = x := ⟨_, rfl⟩
          rw [hAk, hLk, hCk] at c1
          rw [hLk] at hn2
          rw [hLk, hCk] at hLC
          have x1 : (if (9 : Int) < (Lk : Int) then (9 : Int) else (Lk : Int)) = (n2 : Int) := by rw [← hn2]; split <;> omega
          have x2 : (if 9 < Lk then (9 : Int) else (Lk : Int)) = (n2 : Int) := by rw [← hn2]; split <;> omega
          have hn2C : n2 ≤ Ck := by omega
          have hs1 := add_zero' Ak
          have HN2 := Lib.hid hn2
          have HAk := Lib.hid hAk
          have HLk := Lib.hid hLk
          have HCk := Lib.hid hCk
          have hkm : k < m0 := hlt
          clear hcq hAk hLk hCk hn2 hLC
          go_wp2_with fail
          have hwr := hb.size
          go_upto_region 26 with fail
          go_cut [23] from 118 to 184 (fun v wx => ∃ g cp, v = .slice (some ⟨g, 0, none⟩) (k + 1) cp ∧ wx.ownsRow w6.heap.size 22 1 v (k + 1) ((List.range (k + 1)).map fun j => Value.slice (A j) (min (L j) 9) (C j)) ∧ Below w6.heap.size w6 wx)
          case first =>
            go_region_law (refine step_append_lies _ rfl (.tmp 128) (.tmp 140) 33 rfl w6.heap.size 22 i1 (.slice none 0 0) 1 24 Try.underlying33 hi' hy0 hy1 hy2 rfl (by decide) (.slice vp k vc) k _ rfl ((hown.alloc (.cells #[.slice Ak n2 Ck] 22)).drew) ⟨wr.heap.size, 0, none⟩ 1 1 [.slice Ak n2 Ck] rfl rfl (cell_one_new wr _ _) (h1 := by simp [Value.oneCell']) (hm := by decide) (h63 := by unfold maxLen; omega) (hbytes := by omega) (hbase := Nat.le_trans hwr (by show wr.heap.size ≤ (wr.alloc _).heap.size; simp)) (H := wr.heap.size + 1) (hH := by show (wr.alloc _).heap.size = _; simp) ?_; intro g cp1 w7 hown1 hgrow1 hat1 hlt1)
            all_goals (go_wp2_with fail; go_meet)
            all_goals (exact ⟨g, cp1, rfl, by rw [range_succ_map, HAk.out, HLk.out, HCk.out, HN2.out]; exact hown1, ((hb.alloc hb.size (.cells #[.slice Ak n2 Ck] 22)).drew).grown hgrow1 (by show w6.heap.size ≤ (wr.alloc _).heap.size; simp; omega) (fun j e => (hown.lt j e).1)⟩)
          case rest =>
            obtain ⟨g, cp1, rfl, hown1, hb1⟩ := hcut
            obtain ⟨wd, rfl⟩ : ∃ w7 : World, w7 = wc := ⟨_, rfl⟩
            have hgl : g < wd.heap.size := (hown1.lt g rfl).2
            have cg : wd.cell? ⟨g, k, none⟩ = some (.slice Ak n2 Ck) := by
              have h := hown1.cells rfl k (.slice Ak n2 Ck) (by rw [range_succ_map, HAk.out, HLk.out, HCk.out, HN2.out, List.getElem?_append_right (by simp)]; simp)
              rwa [addr_add, Nat.zero_add] at h
            have hx := HX6.out.below hb1
            have hWp := (HW6.out.below hb1).reads
            have hbw1 := HB6.out.trans (hb1.mono HB6.out.size)
            have hrow : IntsIn wd Ak n2 (Z k) := by
              have h := (HROWS.out.below hbw1).rows k hkm
              rw [HAk.out, HLk.out] at h
              exact h.cut (by have := HN2.out; omega)
            have hsm := hrow.small
            have hBl := hx.lt
            obtain ⟨y0, y1, y2, y3⟩ := hx.cells
            have HKS := Lib.hid (fun W (hb : Below wd.heap.size wd W) => (⟨hb, (hb.cell hBl).trans y0, (hb.cell hBl).trans y1, (hb.cell hBl).trans y2, (hb.cell hBl).trans y3, (hb.cell hgl).trans cg⟩ : Below wd.heap.size wd W ∧ W.cell? ⟨B, 0, none⟩ = some (.int .i64 cap) ∧ W.cell? ⟨B, 1, none⟩ = some (.int .i64 t) ∧ W.cell? ⟨B, 2, none⟩ = some (.int .i64 lim) ∧ W.cell? ⟨B, 3, none⟩ = some (.slice p n1 c) ∧ W.cell? ⟨g, k, none⟩ = some (.slice Ak n2 Ck)))
            have HRA := Lib.hid (fun W (hb : Below wd.heap.size wd W) => (round_all cap t lim p Ak n1 c n2 Ck f (Z k) W (by unfold maxLen; omega) hsm (hWp.below hb) (hrow.reads.below hb)).mono fun e W' (h : IsRoundA W cap t lim n1 f n2 (Z k) e W') => (⟨h, by obtain ⟨_, _, _, _, _, _, _, _, _, _, _, _, _, _, _, _, _, _, _, _, h5⟩ := h; exact hb.trans (h5.mono hb.size)⟩ : IsRoundA W cap t lim n1 f n2 (Z k) e W' ∧ Below wd.heap.size wd W'))
            have g0 : (0 : Int) ≤ (k : Int) := by omega
            have g1 : (k : Int) < (k : Int) + 1 := by omega
            have HSM := Lib.hid hsm
            have HWp := Lib.hid hWp
            have HROW := Lib.hid hrow
            clear hown hgl cg hx hWp hrow hBl y0 y1 y2 y3 x1 x2 hs1 c1 v1 hb hbw hbq hbw1 hsm
            go_upto_region 27 with fail
            go_cut [25, 26, 27, 28] from 118 to 184 (fun s1 s2 s3 s4 wx => ∃ (M x y z k1 d1 d2 d3 : Nat) (p1 p2 p3 : Option Addr) (U S D : Nat → Int) (er : Int), s1 = .pointer (some ⟨M, 0, none⟩) ∧ s2 = .slice p2 k1 d2 ∧ s3 = .slice p3 k1 d3 ∧ s4 = .int .i64 er ∧
              QBox wx M x y z (.slice p1 k1 d1) ∧ RoundSpec cap t lim n1 f n2 (Z k) x y z k1 U S D er ∧ ReadsI wx p1 k1 U ∧ ReadsI wx p2 k1 S ∧ ReadsI wx p3 k1 D ∧ Below wd.heap.size wd wx)
            case first =>
              go_region_held3 (fun W => Below wd.heap.size wd W ∧ W.cell? ⟨B, 0, none⟩ = some (.int .i64 cap) ∧ W.cell? ⟨B, 1, none⟩ = some (.int .i64 t) ∧ W.cell? ⟨B, 2, none⟩ = some (.int .i64 lim) ∧ W.cell? ⟨B, 3, none⟩ = some (.slice p n1 c) ∧ W.cell? ⟨g, k, none⟩ = some (.slice Ak n2 Ck))
                (first | exact HKS.out _ (Below.refl _ _) | exact HKS.out _ (by assumption) | exact HKS.out _ (Below.drew (by assumption)) | exact HKS.out _ (Below.refl _ _).drew | exact HKS.out _ (Below.alloc (Below.refl _ _).drew (Nat.le_refl _) _) | exact HKS.out _ (Below.alloc (Below.refl _ _) (Nat.le_refl _) _) | exact HKS.out _ (Below.alloc (by assumption) (Below.size (by assumption)) _) | exact HKS.out _ (Below.drew (Below.alloc (by assumption) (Below.size (by assumption)) _)) | exact HKS.out _ (Below_set (Below_set (Below_set (Below_set (by assumption) (Nat.le_refl _) _) (Nat.le_refl _) _) (Nat.le_refl _) _) (Nat.le_refl _) _) | go_keep)
                ((go_at_call 16; refine (HRA.out _ ?_).mono ?_; (first | assumption | exact Below.refl _ _ | exact Below.drew (Below.refl _ _) | exact Below.drew (by assumption) | exact Below.alloc (Below.refl _ _).drew (Nat.le_refl _) _); rintro e W1 ⟨⟨p1, p2, p3, x, y, z, k1, d1, d2, d3, U, S, D, er, rfl, hsp, r1, r2, r3, ⟨l1, l2, l3⟩, hbV⟩, hbW⟩; (first | (have hqq : Below wd.drew.heap.size wd.drew W1 := hbV; clear hqq) | (have hqq : Below wd.heap.size wd W1 := hbV; clear hqq) | (have hz : QBox W1 wd.heap.size 0 0 0 (.slice none 0 0) := (QBox.new wd 0 0 0 (.slice none 0 0)).drew.below hbV; obtain ⟨z0, z1, z2, z3⟩ := hz.cells; have f0 := hz.free 0; have f1 := hz.free 1; have f2 := hz.free 2; have f3 := hz.free 3))))
              all_goals (go_wp2_with fail; go_meet)
              all_goals first
                | exact ⟨_, x, y, z, k1, d1, d2, d3, p1, p2, p3, U, S, D, er, rfl, rfl, rfl, rfl, QBox.new W1 x y z _, hsp, reads_alloc r1 _, reads_alloc r2 _, reads_alloc r3 _, hbW.alloc hbW.size _⟩
                | (have hs1 : ∀ o : Obj, (wd.alloc o).drew.heap.size = wd.heap.size + 1 := fun o => by show (wd.alloc o).heap.size = _; simp
                   rw [hs1] at l1 l2 l3
                   exact ⟨_, x, y, z, k1, d1, d2, d3, p1, p2, p3, U, S, D, er, rfl, rfl, rfl, rfl, hz.setAll x y z _, hsp, reads_four r1 (fun a h => by have := l1 a h; omega) _ _ _ _, reads_four r2 (fun a h => by have := l2 a h; omega) _ _ _ _, reads_four r3 (fun a h => by have := l3 a h; omega) _ _ _ _, Below_set (Below_set (Below_set (Below_set hbW (Nat.le_refl _) _) (Nat.le_refl _) _) (Nat.le_refl _) _) (Nat.le_refl _) _⟩)
            case rest =>
              obtain ⟨M, x, y, z, k1, d1, d2, d3, p1, p2, p3, U, S, D, er, rfl, rfl, rfl, rfl, hM, hsp, r1, r2, r3, hb2⟩ := hcut
              obtain ⟨we, rfl⟩ : ∃ w7 : World, w7 = wc := ⟨_, rfl⟩
              have HM := Lib.hid hM
              have HSP := Lib.hid hsp
              have HR1 := Lib.hid r1
              have HR2 := Lib.hid r2
              have HR3 := Lib.hid r3
              have HB2 := Lib.hid hb2
              have HKS2 := Lib.hid (fun W (hb : Below we.heap.size we W) => (⟨hb, (HKS.out W (HB2.out.trans (hb.mono HB2.out.size))).2⟩ : Below we.heap.size we W ∧ W.cell? ⟨B, 0, none⟩ = some (.int .i64 cap) ∧ W.cell? ⟨B, 1, none⟩ = some (.int .i64 t) ∧ W.cell? ⟨B, 2, none⟩ = some (.int .i64 lim) ∧ W.cell? ⟨B, 3, none⟩ = some (.slice p n1 c) ∧ W.cell? ⟨g, k, none⟩ = some (.slice Ak n2 Ck)))
              have HRB := Lib.hid (fun W (hb : Below we.heap.size we W) => (ref_round_all cap t lim p Ak n1 c n2 Ck f (Z k) W (by unfold maxLen; omega) HSM.out ((HWp.out.below HB2.out).below hb) (((HROW.out.reads).below HB2.out).below hb)).mono fun e W' (h : IsRoundA W cap t lim n1 f n2 (Z k) e W') => (⟨h, by obtain ⟨_, _, _, _, _, _, _, _, _, _, _, _, _, _, _, _, _, _, _, _, h5⟩ := h; exact hb.trans (h5.mono hb.size)⟩ : IsRoundA W cap t lim n1 f n2 (Z k) e W' ∧ Below we.heap.size we W'))
              clear HRA hM hsp r1 r2 r3 hb2 HKS
              go_wp2_with fail
              go_upto_region 28 with fail
              go_cut [29, 30, 31, 32] from 118 to 184 (fun s1 s2 s3 s4 wx => ∃ (M x y z k2 e1 e2 e3 : Nat) (s1' s2' s3' : Option Addr) (U S D : Nat → Int) (er : Int), s1 = .pointer (some ⟨M, 0, none⟩) ∧ s2 = .slice s2' k2 e2 ∧ s3 = .slice s3' k2 e3 ∧ s4 = .int .i64 er ∧
                QBox wx M x y z (.slice s1' k2 e1) ∧ RoundSpec cap t lim n1 f n2 (Z k) x y z k2 U S D er ∧ ReadsI wx s1' k2 U ∧ ReadsI wx s2' k2 S ∧ ReadsI wx s3' k2 D ∧ Below we.heap.size we wx)
              case first =>
                go_region_held3 (fun W => Below we.heap.size we W ∧ W.cell? ⟨B, 0, none⟩ = some (.int .i64 cap) ∧ W.cell? ⟨B, 1, none⟩ = some (.int .i64 t) ∧ W.cell? ⟨B, 2, none⟩ = some (.int .i64 lim) ∧ W.cell? ⟨B, 3, none⟩ = some (.slice p n1 c) ∧ W.cell? ⟨g, k, none⟩ = some (.slice Ak n2 Ck))
                  (first | exact HKS2.out _ (Below.refl _ _) | exact HKS2.out _ (by assumption) | exact HKS2.out _ (Below.drew (by assumption)) | exact HKS2.out _ (Below.refl _ _).drew | exact HKS2.out _ (Below.alloc (Below.refl _ _).drew (Nat.le_refl _) _) | exact HKS2.out _ (Below.alloc (Below.refl _ _) (Nat.le_refl _) _) | exact HKS2.out _ (Below.alloc (by assumption) (Below.size (by assumption)) _) | exact HKS2.out _ (Below.drew (Below.alloc (by assumption) (Below.size (by assumption)) _)) | exact HKS2.out _ (Below_set (Below_set (Below_set (Below_set (by assumption) (Nat.le_refl _) _) (Nat.le_refl _) _) (Nat.le_refl _) _) (Nat.le_refl _) _) | go_keep)
                  ((go_at_call 21; refine (HRB.out _ ?_).mono ?_; (first | assumption | exact Below.refl _ _ | exact Below.drew (Below.refl _ _) | exact Below.drew (by assumption) | exact Below.alloc (Below.refl _ _).drew (Nat.le_refl _) _); rintro e W1 ⟨⟨s1, s2, s3, x, y, z, k2, e1, e2, e3, U, S, D, er, rfl, hsp, r1, r2, r3, ⟨b1, b2, b3⟩, hbV⟩, hbW⟩; (first | (have hqq : Below we.drew.heap.size we.drew W1 := hbV; clear hqq) | (have hqq : Below we.heap.size we W1 := hbV; clear hqq) | (have hz : QBox W1 we.heap.size 0 0 0 (.slice none 0 0) := (QBox.new we 0 0 0 (.slice none 0 0)).drew.below hbV; obtain ⟨z0, z1, z2, z3⟩ := hz.cells; have f0 := hz.free 0; have f1 := hz.free 1; have f2 := hz.free 2; have f3 := hz.free 3))))
                all_goals (go_wp2_with fail; go_meet)
                all_goals first
                  | exact ⟨_, x, y, z, k2, e1, e2, e3, s1, s2, s3, U, S, D, er, rfl, rfl, rfl, rfl, QBox.new W1 x y z _, hsp, reads_alloc r1 _, reads_alloc r2 _, reads_alloc r3 _, hbW.alloc hbW.size _⟩
                  | (have hs1 : ∀ o : Obj, (we.alloc o).drew.heap.size = we.heap.size + 1 := fun o => by show (we.alloc o).heap.size = _; simp
                     rw [hs1] at b1 b2 b3
                     exact ⟨_, x, y, z, k2, e1, e2, e3, s1, s2, s3, U, S, D, er, rfl, rfl, rfl, rfl, hz.setAll x y z _, hsp, reads_four r1 (fun a h => by have := b1 a h; omega) _ _ _ _, reads_four r2 (fun a h => by have := b2 a h; omega) _ _ _ _, reads_four r3 (fun a h => by have := b3 a h; omega) _ _ _ _, Below_set (Below_set (Below_set (Below_set hbW (Nat.le_refl _) _) (Nat.le_refl _) _) (Nat.le_refl _) _) (Nat.le_refl _) _⟩)
              case rest =>
                obtain ⟨M2, x', y', z', k2, e1, e2, e3, s1, s2, s3, U', S', D', er', rfl, rfl, rfl, rfl, hM, hsp, r1, r2, r3, hb2⟩ := hcut
                obtain ⟨rfl, rfl, rfl, rfl, rfl, hU, hS, hD⟩ := HSP.out.unique hsp
                have hk8 := hsp.small
                have hM1 := HM.out.below hb2
                obtain ⟨y0, y1, y2, y3⟩ := hM1.cells
                obtain ⟨z0, z1, z2, z3⟩ := hM.cells
                have SAME := Lib.hid (same_yes x y z k1 d1 e1 p1 s1 U U' wc (by omega) (HR1.out.below hb2) r1 hU)
                have I2 := Lib.hid (fun W (hb : Below wc.heap.size wc W) => ints_yes p2 s2 k1 k1 d2 e2 S S' W (by omega) rfl ((HR2.out.below hb2).below hb) (r2.below hb) hS)
                have I3 := Lib.hid (fun W (hb : Below wc.heap.size wc W) => ints_yes p3 s3 k1 k1 d3 e3 D D' W (by omega) rfl ((HR3.out.below hb2).below hb) (r3.below hb) hD)
                have HB3 := Lib.hid (HB2.out.trans (hb2.mono HB2.out.size))
                have hw6d : w6.heap.size ≤ wd.heap.size := hb1.size
                have HOWN := Lib.hid hown1
                have HB1 := Lib.hid hb1
                clear hM hM1 hsp r1 r2 r3 hb2 hU hS hD HM HSP HR1 HR2 HR3 HKS2 HRB HB2 hown1 hb1 HN2 HAk HLk HCk HSM HWp HROW
                go_wp2_with fail
                refine SAME.out.mono ?_
                rintro e w8 ⟨rfl, hb8⟩
                clear y0 y1 y2 y3 z0 z1 z2 z3
                go_wp2_with fail
                refine (I2.out _ hb8).mono ?_
                rintro e w9 ⟨rfl, hb9⟩
                have hb9' := hb8.trans (hb9.mono hb8.size)
                go_wp2_with fail
                refine (I3.out _ hb9').mono ?_
                rintro e w10 ⟨rfl, hb10⟩
                have hb10' := hb9'.trans (hb10.mono hb9'.size)
                have hbf := HB3.out.trans (hb10'.mono HB3.out.size)
                clear hb8 hb9 hb9' hb10 hb10'
                go_wp2_with fail
                exact ⟨⟨k + 1, by omega, by omega, by go_num, own_below HOWN.out hbf, HB1.out.trans (hbf.mono HB1.out.size)⟩, by simp [intOf]; omega⟩
        · obtain ⟨vp, vc, rfl⟩ : ∃ vp vc, u23 = .slice vp k vc := by
            rcases hown.2 with ⟨h, h0⟩ | ⟨g, cap, cur, h, _⟩
            · exact ⟨none, 0, by rw [h, h0]⟩
            · exact ⟨_, _, h⟩
          have hbw := HB6.out.trans (hb.mono HB6.out.size)
          have hrd : RowsIn wr vp k A (fun j => min (L j) 9) C Z := ⟨by unfold maxLen; omega, fun r hr => by
            rcases hown.2 with ⟨h, h0⟩ | ⟨g, cap, cur, h, _⟩
            · omega
            · cases h
              refine ⟨g, 0, rfl, (hown.lt g rfl).2, fun j hj => ?_⟩
              have h := hown.cells rfl j (.slice (A j) (min (L j) 9) (C j)) (by simp [hj])
              rwa [addr_add] at h, fun r hr => ((HROWS.out.below hbw).rows r (by omega)).cut (by omega)⟩
          obtain ⟨o, hmk, hmc⟩ := make_rows
          have hb7 : Below wr.heap.size wr ((wr.alloc o).alloc (.cells #[.slice vp k vc, .slice (some ⟨wr.heap.size, 0, none⟩) 201 201] 33)) := ((Below.refl wr.heap.size wr).alloc (Nat.le_refl _) o).alloc (by rw [World.size_alloc]; omega) _
          have hc7 : ∀ j, j < 2 → ∃ (pr : Option Addr) (mr cr : Nat) (Ar : Nat → Option Addr) (Lr Cr : Nat → Nat) (Zr : Nat → Nat → Int), ((wr.alloc o).alloc (.cells #[.slice vp k vc, .slice (some ⟨wr.heap.size, 0, none⟩) 201 201] 33)).cell? ⟨wr.heap.size + 1, j, none⟩ = some (.slice pr mr cr) ∧ RowsIn ((wr.alloc o).alloc (.cells #[.slice vp k vc, .slice (some ⟨wr.heap.size, 0, none⟩) 201 201] 33)) pr mr Ar Lr Cr Zr := fun j hj => by
            have hnew := World.alloc_heap_new (wr.alloc o) (.cells #[.slice vp k vc, .slice (some ⟨wr.heap.size, 0, none⟩) 201 201] 33)
            rw [World.size_alloc] at hnew
            rcases (show j = 0 ∨ j = 1 by omega) with rfl | rfl
            · exact ⟨vp, k, vc, A, _, C, Z, by unfold World.cell?; rw [hnew]; rfl, hrd.below hb7⟩
            · refine ⟨some ⟨wr.heap.size, 0, none⟩, 201, 201, fun _ => none, fun _ => 0, fun _ => 0, fun _ _ => 0, by unfold World.cell?; rw [hnew]; rfl, ⟨by decide, fun r hr => ⟨wr.heap.size, 0, rfl, by rw [World.size_alloc, World.size_alloc]; omega, fun j hj => ?_⟩, fun r hr => ⟨by decide, fun i hi => by omega, fun i hi => by omega⟩⟩⟩
              rw [Nat.zero_add]
              exact (((Below.refl (wr.alloc o).heap.size (wr.alloc o)).alloc (Nat.le_refl _) _).cell (p := ⟨wr.heap.size, j, none⟩) (by show wr.heap.size < (wr.alloc o).heap.size; rw [World.size_alloc]; omega)).trans (hmc wr j hj)
          have hl7 : wr.heap.size + 1 < ((wr.alloc o).alloc (.cells #[.slice vp k vc, .slice (some ⟨wr.heap.size, 0, none⟩) 201 201] 33)).heap.size := by rw [World.size_alloc, World.size_alloc]; omega
          obtain ⟨w7, hw7⟩ : ∃ w7, (wr.alloc o).alloc (.cells #[.slice vp k vc, .slice (some ⟨wr.heap.size, 0, none⟩) 201 201] 33) = w7 := ⟨_, rfl⟩
          rw [hw7] at hb7 hc7 hl7
          have HX7 := Lib.hid ((HX6.out.below hb).below hb7)
          have HW7 := Lib.hid (((HW6.out.below hb).below hb7).reads)
          have HB7 := Lib.hid (hbw.trans (hb7.mono hbw.size))
          have HC7 := Lib.hid hc7
          have HE7 := Lib.hid hw7
          have HL7 := Lib.hid hl7
          clear hc7 hb7 hw7 hl7 hrd hmc hbw hb hown HX6 HW6 HB6 HROWS HCR hi3 hi hi2
          have htest : k < m0 ∧ ¬ k < 6 ∨ ¬ k < m0 := by omega
          rcases htest with ⟨t1, t2⟩ | t1
          all_goals
            go_wp2_with fail
            rw [HE7.out]
            have hl7 := HL7.out
            obtain ⟨S4, hS4⟩ : ∃ S4, wr.heap.size + 1 = S4 := ⟨_, rfl⟩
            rw [hS4] at hl7 HC7 ⊢
            clear HE7 HL7 hS4
            go_loopw [190] (fun z wv => ∃ i : Nat, i ≤ 2 ∧ z = .int .i64 i ∧ Below w7.heap.size w7 wv) (fun z _ => 2 - (intOf z).toNat)
            case atStart => exact ⟨0, by omega, rfl, Below.refl _ _⟩
            case round =>
              obtain ⟨i, hi, rfl, hb⟩ := hrel
              by_cases hi2 : i < 2
              · obtain ⟨pr, mr, cr, Ar, Lr, Cr, Zr, hci, hri⟩ := HC7.out i hi2
                have hci2 := (hb.cell (p := ⟨S4, i, none⟩) hl7).trans hci
                have v0 : (0 : Int) ≤ (i : Int) := by omega
                have v1 : (i : Int) < 2 := by omega
                have hx := HX7.out.below hb
                obtain ⟨y0, y1, y2, y3⟩ := hx.cells
                have hsm := hri.small
                have HRI := Lib.hid hri
                have HSM := Lib.hid hsm
                clear hci hri hsm
                go_wp2_with fail
                refine (run_all cap t lim p pr n1 c mr cr f Ar Lr Cr Zr wr (by unfold maxLen; omega) HSM.out (HW7.out.below hb) (HRI.out.below hb)).mono ?_
                rintro e w8 ⟨p1, p2, p3, x, y, z, k1, d1, d2, d3, U, S, D, er, rfl, hsp, r1, r2, r3, hb8⟩
                have hM := QBox.new w8 x y z (.slice p1 k1 d1)
                have hr1 := reads_alloc r1 (.cells #[.int .i64 (x : Int), .int .i64 (y : Int), .int .i64 (z : Int), .slice p1 k1 d1] 35)
                have hr2 := reads_alloc r2 (.cells #[.int .i64 (x : Int), .int .i64 (y : Int), .int .i64 (z : Int), .slice p1 k1 d1] 35)
                have hr3 := reads_alloc r3 (.cells #[.int .i64 (x : Int), .int .i64 (y : Int), .int .i64 (z : Int), .slice p1 k1 d1] 35)
                have hb9 : Below w7.heap.size w7 (w8.alloc (.cells #[.int .i64 (x : Int), .int .i64 (y : Int), .int .i64 (z : Int), .slice p1 k1 d1] 35)) := (hb.trans (hb8.mono hb.size)).alloc (Nat.le_trans hb.size hb8.size) _
                have hx9 := HX7.out.below hb9
                obtain ⟨z0, z1, z2, z3⟩ := hx9.cells
                have HM := Lib.hid hM
                have HSP := Lib.hid hsp
                have HR1 := Lib.hid hr1
                have HR2 := Lib.hid hr2
                have HR3 := Lib.hid hr3
                have HB9 := Lib.hid hb9
                clear y0 y1 y2 y3 hx hb8 hM hsp r1 r2 r3 hr1 hr2 hr3 hx9 hb9 hci2 hb
                go_wp2_with fail
                clear z0 z1 z2 z3
                obtain ⟨w9, hw9⟩ : ∃ w9, w8.alloc (.cells #[.int .i64 (x : Int), .int .i64 (y : Int), .int .i64 (z : Int), .slice p1 k1 d1] 35) = w9 := ⟨_, rfl⟩
                obtain ⟨M, hM⟩ : ∃ M, w8.heap.size = M := ⟨_, rfl⟩
                rw [hw9] at HM HR1 HR2 HR3 HB9 ⊢
                rw [hM] at HM ⊢
                clear hw9 hM
                refine (ref_run_all cap t lim p pr n1 c mr cr f Ar Lr Cr Zr w9 (by unfold maxLen; omega) HSM.out (HW7.out.below HB9.out) (HRI.out.below HB9.out)).mono ?_
                rintro e w10 ⟨s1, s2, s3, x', y', z', k2, e1, e2, e3, U', S', D', er', rfl, hsp, r1, r2, r3, hb8⟩
                obtain ⟨rfl, rfl, rfl, rfl, rfl, hU, hS, hD⟩ := HSP.out.unique hsp
                have hk8 := hsp.small
                have hb10 : Below w9.heap.size w9 (w10.alloc (.cells #[.int .i64 (x : Int), .int .i64 (y : Int), .int .i64 (z : Int), .slice s1 k1 e1] 35)) := hb8.alloc hb8.size _
                have hM1 := HM.out.below hb10
                have hM2 := QBox.new w10 x y z (.slice s1 k1 e1)
                obtain ⟨y0, y1, y2, y3⟩ := hM1.cells
                have SAME := Lib.hid (same_yes x y z k1 d1 e1 p1 s1 U U' _ (by omega) (HR1.out.below hb10) (reads_alloc r1 (.cells #[.int .i64 (x : Int), .int .i64 (y : Int), .int .i64 (z : Int), .slice s1 k1 e1] 35)) hU)
                have I2 := Lib.hid (fun W (hb : Below _ (w10.alloc (.cells #[.int .i64 (x : Int), .int .i64 (y : Int), .int .i64 (z : Int), .slice s1 k1 e1] 35)) W) => ints_yes p2 s2 k1 k1 d2 e2 S S' W (by omega) rfl ((HR2.out.below hb10).below hb) ((reads_alloc r2 (.cells #[.int .i64 (x : Int), .int .i64 (y : Int), .int .i64 (z : Int), .slice s1 k1 e1] 35)).below hb) hS)
                have I3 := Lib.hid (fun W (hb : Below _ (w10.alloc (.cells #[.int .i64 (x : Int), .int .i64 (y : Int), .int .i64 (z : Int), .slice s1 k1 e1] 35)) W) => ints_yes p3 s3 k1 k1 d3 e3 D D' W (by omega) rfl ((HR3.out.below hb10).below hb) ((reads_alloc r3 (.cells #[.int .i64 (x : Int), .int .i64 (y : Int), .int .i64 (z : Int), .slice s1 k1 e1] 35)).below hb) hD)
                have HB10 := Lib.hid (HB9.out.trans (hb10.mono HB9.out.size))
                obtain ⟨w11, hw11⟩ : ∃ w11, w10.alloc (.cells #[.int .i64 (x : Int), .int .i64 (y : Int), .int .i64 (z : Int), .slice s1 k1 e1] 35) = w11 := ⟨_, rfl⟩
                have HW11 := Lib.hid hw11
                rw [hw11] at SAME I2 I3 HB10
                clear hM1 hM2 hsp r1 r2 r3 hU hS hD HM HSP HR1 HR2 HR3 HB9 hb10 hb8 hw11
                go_wp2_with fail
                rw [HW11.out]
                refine SAME.out.mono ?_
                rintro e w8 ⟨rfl, hb8⟩
                clear y0 y1 y2 y3 HW11
                go_wp2_with fail
                refine (I2.out _ hb8).mono ?_
                rintro e w9 ⟨rfl, hb9⟩
                have hb9' := hb8.trans (hb9.mono hb8.size)
                go_wp2_with fail
                refine (I3.out _ hb9').mono ?_
                rintro e w10 ⟨rfl, hb10⟩
                have hb10' := hb9'.trans (hb10.mono hb9'.size)
                have hbf := HB10.out.trans (hb10'.mono HB10.out.size)
                clear hb8 hb9 hb9' hb10 hb10'
                go_wp2_with fail
                exact ⟨⟨i + 1, by omega, by go_num, hbf⟩, by simp [intOf]; omega⟩
              · have hi3 : ¬ ((i : Int) < 2) := by omega
                go_wp2_with fail
                go_ret
                exact ⟨rfl, hB ▸ HB7.out.trans (hb.mono HB7.out.size)⟩
end Go.Proofs.Ytdodhfodojjfeaa
