/- Package quota: Valid and Round. Conditions: slices that can be read; numbers of 64 bits. -/
import Derived.Test.YtdodhfodojjfeaaLaw36Num
import Derived.Test.YtdodhfodojjfeaaQuotaDivide
namespace Go.Proofs.Ytdodhfodojjfeaa
open Go Go.RowKit Go.Shelf
def QuotaOk (cap turn lim : Int) (n : Nat) (f : Nat → Int) : Prop :=
  (0 ≤ cap ∧ cap ≤ 1000000) ∧ (0 ≤ lim ∧ lim ≤ 1000000) ∧ demandsB n f ∧ 0 ≤ turn ∧ turn < n ∧ ∀ i, i < n → f i ≤ lim
theorem valid1_any (x lim : Int) (B : Nat) (w : World) (hc : w.cell? ⟨B, 2, none⟩ = some (.int .i64 lim)) :
    Calls Try.prog 33 (#[.int .i64 x] ++ #[.pointer (some ⟨B, 0, none⟩)]) w fun e w' => e = .returned (.bool (decide (lim < x))) ∧ w = w' := by
  rw [show (#[.int .i64 x] ++ #[.pointer (some ⟨B, 0, none⟩)] : Array Value) = #[.int .i64 x, .pointer (some ⟨B, 0, none⟩)] from rfl]
  go_enter Try.func33, Try.ntmps33
  go_wp2
  go_ret
  exact ⟨rfl, rfl⟩
set_option maxHeartbeats 2000000 in
theorem valid_any (cap turn lim : Int) (p : Option Addr) (n c : Nat) (f : Nat → Int) (w : World) (hn : n ≤ maxLen) (hr : ReadsI w p n f) :
    Calls Try.prog 17 #[.agg #[.int .i64 cap, .int .i64 turn, .int .i64 lim, .slice p n c]] w fun e w' => Says e (QuotaOk cap turn lim n f) ∧ Below w.heap.size w w' := by
  have hB : Below w.heap.size w (w.alloc (.cells #[.int .i64 cap, .int .i64 turn, .int .i64 lim, .slice p n c] 35)) := (Below.refl w.heap.size w).alloc (Nat.le_refl _) _
  have HA := Lib.hid (areDemands_any p n c f (w.alloc (.cells #[.int .i64 cap, .int .i64 turn, .int .i64 lim, .slice p n c] 35)) hn (hr.below hB))
  have HC := Lib.hid (contains_any 33 #[.pointer (some ⟨w.heap.size, 0, none⟩)] (fun x => decide (lim < x)) p n c f (w.alloc (.cells #[.int .i64 cap, .int .i64 turn, .int .i64 lim, .slice p n c] 35)) hn (hr.below hB) (enters_of Try.func33 (by kernel_rfl) rfl) (fun x => valid1_any x lim w.heap.size _ (by simp)))
  clear hr
  unfold maxLen at hn
  go_enter Try.func17, Try.ntmps17
  go_wp2_with fail
  refine (isUnits_any _ _).mono ?_
  rintro e w1 ⟨rfl, rfl⟩
  cases hu : unitB cap with
  | false =>
    go_wp2_with fail
    go_ret
    refine ⟨⟨_, rfl, by simp, fun h => ?_⟩, hB⟩
    rw [unitB_iff.2 h.1] at hu; cases hu
  | true =>
    have h1 := unitB_iff.1 hu
    go_wp2_with fail
    refine (isUnits_any _ _).mono ?_
    rintro e w1 ⟨rfl, rfl⟩
    cases hv : unitB lim with
    | false =>
      go_wp2_with fail
      go_ret
      refine ⟨⟨_, rfl, by simp, fun h => ?_⟩, hB⟩
      rw [unitB_iff.2 h.2.1] at hv; cases hv
    | true =>
      have h2 := unitB_iff.1 hv
      go_wp2_with fail
      refine HA.out.mono ?_
      rintro e w1 ⟨⟨r, rfl, hr3⟩, rfl⟩
      have HR := Lib.hid hr3
      clear hr3
      cases r with
      | false =>
        go_wp2_with fail
        go_ret
        exact ⟨⟨_, rfl, by simp, fun h => absurd (HR.out.2 h.2.2.1) (by simp)⟩, hB⟩
      | true =>
        have h3 := HR.out.1 rfl
        have hn8 := h3.2.1
        have H3 := Lib.hid h3
        clear h3
        by_cases h4 : 0 ≤ turn
        · by_cases h5 : turn < n
          · go_wp2_with fail
            refine HC.out.mono ?_
            rintro e w1 ⟨⟨r, rfl, hr4⟩, rfl⟩
            have HR4 := Lib.hid hr4
            clear hr4
            go_wp2_with fail
            go_ret
            refine ⟨⟨_, rfl, ?_⟩, hB⟩
            cases r with
            | true =>
              obtain ⟨i, hi, hb⟩ := HR4.out.1 rfl
              have := of_decide_eq_true hb
              exact ⟨by simp, fun h => by have := h.2.2.2.2.2 i hi; omega⟩
            | false =>
              refine ⟨fun _ => ⟨h1, h2, H3.out, h4, h5, fun i hi => ?_⟩, fun _ => rfl⟩
              by_cases h : lim < f i
              · exact absurd (HR4.out.2 ⟨i, hi, decide_eq_true h⟩) (by simp)
              · omega
          · go_wp2_with fail
            go_ret
            exact ⟨⟨_, rfl, by simp, fun h => by have := h.2.2.2.2.1; omega⟩, hB⟩
        · go_wp2_with fail
          go_ret
          exact ⟨⟨_, rfl, by simp, fun h => by have := h.2.2.2.1; omega⟩, hB⟩
theorem Below_set {B : Nat} {w W : World} (h : Below B w W) {b i : Nat} (hb : B ≤ b) (v : Value) : Below B w (W.setCell ⟨b, i, none⟩ v) := h.setCell hb _
/-- A quota in a box. -/
def QBox (W : World) (B : Nat) (cap t lim : Nat) (v : Value) : Prop := W.heap[B]? = some (.cells #[.int .i64 (cap : Int), .int .i64 (t : Int), .int .i64 (lim : Int), v] 35 (0, 0))
variable {W W' : World} {B cap t lim : Nat} {v : Value}
theorem QBox.lt (h : QBox W B cap t lim v) : B < W.heap.size := (Array.getElem?_eq_some_iff.1 h).1
theorem QBox.cells (h : QBox W B cap t lim v) : W.cell? ⟨B, 0, none⟩ = some (.int .i64 (cap : Int)) ∧ W.cell? ⟨B, 1, none⟩ = some (.int .i64 (t : Int)) ∧ W.cell? ⟨B, 2, none⟩ = some (.int .i64 (lim : Int)) ∧ W.cell? ⟨B, 3, none⟩ = some v := by
  simp [World.cell?, show W.heap[B]? = _ from h]
theorem QBox.free (h : QBox W B cap t lim v) (i : Nat) : W.frozen? ⟨B, i, none⟩ = false := by
  unfold World.frozen?
  rw [show W.heap[B]? = _ from h]
  simp
theorem QBox.kept {row : Option Nat} (h : QBox W B cap t lim v) (hg : W.grownBy W' row) (hne : some B ≠ row) : QBox W' B cap t lim v := (hg.block B h.lt hne).trans h
theorem QBox.below (h : QBox W B cap t lim v) (hb : Below W.heap.size W W') : QBox W' B cap t lim v := (hb.block _ h.lt).trans h
theorem QBox.alloc (h : QBox W B cap t lim v) (o : Obj) : QBox (W.alloc o) B cap t lim v := h.kept (World.grownBy_alloc W o none) (by simp)
theorem QBox.new (W : World) (cap t lim : Nat) (v : Value) : QBox (W.alloc (.cells #[.int .i64 (cap : Int), .int .i64 (t : Int), .int .i64 (lim : Int), v] 35)) W.heap.size cap t lim v := World.alloc_heap_new W _
theorem QBox.other (h : QBox W B cap t lim v) {b i : Nat} (hne : B ≠ b) (u : Value) : QBox (W.setCell ⟨b, i, none⟩ u) B cap t lim v :=
  h.kept ⟨rfl, rfl, rfl, (KeepsWalks.setCell W _ u).size, fun k _ hk => Below.heap_setCell _ _ _ k (fun e => hk (by rw [e]))⟩ (by simpa using hne)
theorem QBox.setW (h : QBox W B cap t lim v) (u : Value) : QBox (W.setCell ⟨B, 3, none⟩ u) B cap t lim u := by
  unfold QBox at h ⊢
  unfold World.setCell
  simp [Array.getElem?_modify, h]
theorem QBox.drew (h : QBox W B cap t lim v) : QBox W.drew B cap t lim v := h
theorem QBox.setT (h : QBox W B cap t lim v) (x : Nat) : QBox (W.setCell ⟨B, 1, none⟩ (.int .i64 (x : Int))) B cap x lim v := by
  unfold QBox at h ⊢
  unfold World.setCell
  simp [Array.getElem?_modify, h]
theorem RowAt.ints {G n : Nat} {a : Nat → Nat} (h : RowAt W G n a) : IntsAt W G n a := ⟨h.lt, fun _ hi => h.cell hi, fun _ => h.frozen, _, h⟩
theorem ReadsI.nat_below {w : World} {p : Option Addr} {n : Nat} {f : Nat → Int} (h : ReadsI w p n f) (hb : Below w.heap.size w W) : ReadsI W p n f := h.below hb
/-- What Round returns. -/
def IsRound (w : World) (cap t lim n : Nat) (wt ar : Nat → Nat) (e : Ending) (w' : World) : Prop := ∃ (G1 G2 G3 c1 c2 c3 : Nat) (sv : Nat → Nat),
  e = .returned (.tuple #[.agg #[.int .i64 (cap : Int), .int .i64 (((t + 1) % n : Nat) : Int), .int .i64 (lim : Int), .slice (some ⟨G1, 0, none⟩) n c1], .slice (some ⟨G2, 0, none⟩) n c2, .slice (some ⟨G3, 0, none⟩) n c3, .int .i64 0]) ∧
  DivIs n (fun i => min (wt i + ar i) lim) cap t sv ∧ IntsAt w' G1 n (fun i => min (wt i + ar i) lim - sv i) ∧ IntsAt w' G2 n sv ∧ IntsAt w' G3 n (fun i => wt i + ar i - min (wt i + ar i) lim) ∧
  (w.heap.size ≤ G1 ∧ w.heap.size ≤ G2 ∧ w.heap.size ≤ G3) ∧ Below w.heap.size w w'
theorem divide_any (c n t : Nat) (d : Nat → Nat) (p : Option Addr) (cp : Nat) (w : World) (hc : c ≤ 1000000) (hn1 : 1 ≤ n) (hn : n ≤ 8) (ht : t < n) (hd : ∀ i, i < n → d i ≤ 1000000) (hr : ReadsI w p n (fun i => ((d i : Nat) : Int))) :
    Calls Try.prog 13 #[.int .i64 (c : Nat), .slice p n cp, .int .i64 (t : Nat)] w fun e w' =>
      ∃ (G : Nat) (a : Nat → Nat), e = .returned (.tuple #[.slice (some ⟨G, 0, none⟩) n n, .int .i64 0]) ∧ w.heap.size ≤ G ∧ IntsAt w' G n a ∧ DivIs n d c t a ∧ Below w.heap.size w w' :=
  (callsIn_wide.1 (divide_in c n t d p cp w hc hn1 hn ht hd hr)).mono fun _ _ ⟨G, a, h1, h2, h3, h4, h5⟩ => ⟨G, a, h1, h2, h3.ints, h4, h5⟩
set_option maxRecDepth 100000 in
set_option maxHeartbeats 4000000 in
theorem round_any (cap t lim n c m : Nat) (p q : Option Addr) (wt ar : Nat → Nat) (w : World) (hcap : cap ≤ 1000000) (hlim : lim ≤ 1000000) (hn1 : 1 ≤ n) (hn : n ≤ 8) (ht : t < n)
    (hwt : ∀ i, i < n → wt i ≤ lim) (har : ∀ i, i < n → ar i ≤ 1000000) (hp : ReadsI w p n (fun i => ((wt i : Nat) : Int))) (hq : ReadsI w q n (fun i => ((ar i : Nat) : Int))) :
    Calls Try.prog 16 #[.agg #[.int .i64 (cap : Int), .int .i64 (t : Int), .int .i64 (lim : Int), .slice p n c], .slice q n m] w (IsRound w cap t lim n wt ar) := by
  have hok : QuotaOk cap t lim n (fun i => ((wt i : Nat) : Int)) := ⟨⟨by omega, by omega⟩, ⟨by omega, by omega⟩, ⟨hn1, hn, fun i hi => ⟨by show (0:Int) ≤ (wt i : Nat); omega, by have := hwt i hi; show ((wt i : Nat) : Int) ≤ 1000000; omega⟩⟩, by omega, by omega, fun i hi => by have := hwt i hi; show ((wt i : Nat) : Int) ≤ lim; omega⟩
  have hda : demandsB n (fun i => ((ar i : Nat) : Int)) := ⟨hn1, hn, fun i hi => ⟨by show (0:Int) ≤ (ar i : Nat); omega, by have := har i hi; show ((ar i : Nat) : Int) ≤ 1000000; omega⟩⟩
  have HP := Lib.hid hp
  have HQ := Lib.hid hq
  have HV := fun W (hb : Below w.heap.size w W) => (valid_any cap t lim p n c (fun i => ((wt i : Nat) : Int)) W (by unfold maxLen; omega) (HP.out.below hb)).mono fun e w' ⟨h1, h2⟩ => (⟨h1.yes hok, h2⟩ : e = Ending.returned (.bool true) ∧ Below W.heap.size W w')
  have HA := fun W (hb : Below w.heap.size w W) => (areDemands_any q n m (fun i => ((ar i : Nat) : Int)) W (by unfold maxLen; omega) (HQ.out.below hb)).mono fun e w' ⟨h1, h2⟩ => (⟨h1.yes hda, h2⟩ : e = Ending.returned (.bool true) ∧ W = w')
  have HV' := Lib.hid HV
  have HA' := Lib.hid HA
  have hB0 := ((Below.refl w.heap.size w).alloc (Nat.le_refl _) (.cells #[.int .i64 (cap : Int), .int .i64 (t : Int), .int .i64 (lim : Int), .slice p n c] 35)).alloc (by simp) (.cells #[.int .i64 0, .int .i64 0, .int .i64 0, .slice none 0 0] 35)
  have hx0 := (QBox.new w cap t lim (.slice p n c)).alloc (.cells #[.int .i64 0, .int .i64 0, .int .i64 0, .slice none 0 0] 35)
  have hy0 := QBox.new (w.alloc (.cells #[.int .i64 (cap : Int), .int .i64 (t : Int), .int .i64 (lim : Int), .slice p n c] 35)) 0 0 0 (.slice none 0 0)
  clear hp hq HV HA hok hda
  go_enter Try.func16, Try.ntmps16
  go_wp2_with fail
  refine (HV'.out _ hB0).mono ?_
  rintro e w1 ⟨rfl, hb1⟩
  have hB1 := hB0.trans (hb1.mono hB0.size)
  have hx1 := hx0.below hb1
  have hy1 := hy0.below hb1
  rw [World.size_alloc] at hy1
  obtain ⟨x0, x1, x2, x3⟩ := hx1.cells
  clear hx0 hy0 hB0 hb1
  go_wp2_with fail
  refine (HA'.out _ hB1).mono ?_
  rintro e w2 ⟨rfl, rfl⟩
  obtain ⟨o, hmk, hrow⟩ := make_row w1 n (by omega)
  have hD := hrow.ints
  have hx2 := hx1.alloc o
  have hy2 := hy1.alloc o
  have hB2 := hB1.alloc hB1.size o
  have hDl := hB1.size
  have hyl := hy1.lt
  obtain ⟨y0, y1, y2, y3⟩ := hx2.cells
  clear hx1 hy1 hrow x0 x1 x2 hB1
  go_wp2_with fail
  refine (clone_any p n c wt _ hn1 (by omega) (HP.out.below hB2)).mono ?_
  rintro e w3 ⟨⟨G1, c1, rfl, hG1, hat1⟩, hb3⟩
  clear x3 y0 y1 y2 y3 hmk
  have hB3 := hB2.trans (hb3.mono hB2.size)
  have hx3 := hx2.below hb3
  have hy3 := hy2.below hb3
  have hD3 := hD.below hb3
  rw [World.size_alloc] at hG1
  obtain ⟨y0, y1, y2, y3⟩ := hx3.cells
  have y4 := hx3.free 3
  obtain ⟨D, hDe⟩ : ∃ D, w1.heap.size = D := ⟨_, rfl⟩
  rw [hDe] at hD3 hG1 hDl hyl ⊢
  clear hx2 hy2 hD hB2 hb3 hDe
  have hB4 : Below w.heap.size w (w3.setCell ⟨w.heap.size, 3, none⟩ (.slice (some ⟨G1, 0, none⟩) n c1)) := hB3.setCell (Nat.le_refl _) _
  have hx4 := hx3.setW (.slice (some ⟨G1, 0, none⟩) n c1)
  have hy4 := hy3.other (b := w.heap.size) (i := 3) (by omega) (.slice (some ⟨G1, 0, none⟩) n c1)
  have hD4 := hD3.other (b := w.heap.size) (i := 3) (by omega) (.slice (some ⟨G1, 0, none⟩) n c1)
  have hat4 := hat1.other (b := w.heap.size) (i := 3) (by omega) (.slice (some ⟨G1, 0, none⟩) n c1)
  clear hx3 hy3 hD3 hB3 hat1
  go_wp2_with fail
  clear y0 y1 y2 y3 y4
  obtain ⟨w4, hw4⟩ : ∃ w4, w3.setCell ⟨w.heap.size, 3, none⟩ (.slice (some ⟨G1, 0, none⟩) n c1) = w4 := ⟨_, rfl⟩
  rw [hw4] at hB4 hx4 hy4 hD4 hat4 ⊢
  clear hw4
  go_loopw [41] (fun i wr => ∃ k : Nat, k ≤ n ∧ i = .int .i64 k ∧ QBox wr w.heap.size cap t lim (.slice (some ⟨G1, 0, none⟩) n c1) ∧ QBox wr (w.heap.size + 1) 0 0 0 (.slice none 0 0) ∧
    IntsAt wr D n (fun i => if i < k then wt i + ar i - min (wt i + ar i) lim else 0) ∧ IntsAt wr G1 n (fun i => if i < k then min (wt i + ar i) lim else wt i) ∧ Below w.heap.size w wr) (fun i _ => n - (intOf i).toNat)
  case atStart => exact ⟨0, by omega, rfl, hx4, hy4, hD4.congr (fun i _ => by rw [if_neg (by omega)]), hat4.congr (fun i _ => by rw [if_neg (by omega)]), hB4⟩
  case round =>
    obtain ⟨k, hk, rfl, hx, hy, hD, hat, hB⟩ := hrel
    clear hx4 hy4 hD4 hat4 hB4
    by_cases hlt : k < n
    · obtain ⟨bq, oq, rfl, hc⟩ := HQ.out.below hB k hlt
      have c1 : wr.cell? ⟨bq, oq + k, none⟩ = some (.int .i64 ((ar k : Nat) : Int)) := hc k hlt
      have hak := har k hlt
      have hwk := hwt k hlt
      obtain ⟨z0, z1, z2, z3⟩ := hx.cells
      have z4 := hD.cell k hlt
      have z5 := hD.free k
      have z6 := hat.cell k hlt
      have z7 := hat.free k
      rw [if_neg (by omega)] at z4 z6
      have k0 : (0 : Int) ≤ (k : Int) := by omega
      have k1 : (k : Int) < (n : Int) := by omega
      obtain ⟨x, hx0⟩ : ∃ x, wt k = x := ⟨_, rfl⟩
      obtain ⟨y, hy0⟩ : ∃ y, ar k = y := ⟨_, rfl⟩
      rw [hx0] at z6 hwk
      rw [hy0] at c1 hak
      clear hc z0 z1
      by_cases hov : x + y ≤ lim
      · skip
        have n1 : ¬ (0 : Int) < (x : Int) + (y : Int) - (lim : Int) := by omega
        go_wp2_with fail
        go_region
        all_goals (try go_wp2)
        
        have hx5 := (hx.other (b := D) (i := k) (by omega) (.int .i64 ((0 : Nat) : Int))).drew
        have hy5 := (hy.other (b := D) (i := k) (by omega) (.int .i64 ((0 : Nat) : Int))).drew
        have hD5 := (hD.set k (0) hlt).drew
        have hat5 := (hat.other (b := D) (i := k) (by omega) (.int .i64 ((0 : Nat) : Int))).drew
        have hB5 := (Below_set hB (b := D) (i := k) (by omega) (.int .i64 ((0 : Nat) : Int))).drew
        obtain ⟨wa, hwa⟩ : ∃ wa, (wr.setCell ⟨D, k, none⟩ (.int .i64 ((0 : Nat) : Int))).drew = wa := ⟨_, rfl⟩
        rw [hwa] at hx5 hy5 hD5 hat5 hB5
        rw [show ((wr.setCell ⟨D, k, none⟩ (.int .i64 0)).drew) = wa from hwa]
        clear hwa z2 z3 z4 z5 z6 z7 c1 hx hy hD hat hB
        obtain ⟨z0, z1, z2, z3⟩ := hx5.cells
        have z4 := hD5.cell k hlt
        have z5 := hD5.free k
        have z6 := hat5.cell k hlt
        have z7 := hat5.free k
        rw [if_pos rfl] at z4
        rw [if_neg (by omega), hx0] at z6
        clear z0 z1 z2
        go_region
        all_goals (try go_wp2)
        rw [show ((x : Int) + (y : Int)) = ((x + y : Nat) : Int) by omega]
        exact ⟨⟨k + 1, by omega, by go_num, (hx5.other (by omega) _).drew, (hy5.other (by omega) _).drew, (hD5.other (by omega) _).drew.congr (fun i hi => by
            by_cases e : i = k
            · rw [if_pos (by omega), if_pos e, e, hx0, hy0]; omega
            · rw [if_neg e]
              by_cases h : i < k
              · rw [if_pos h, if_pos (by omega)]
              · rw [if_neg h, if_neg (by omega)]), (hat5.set k (x + y) hlt).drew.congr (fun i hi => by
            by_cases e : i = k
            · rw [if_pos (by omega), if_pos e, e, hx0, hy0]; omega
            · rw [if_neg e]
              by_cases h : i < k
              · rw [if_pos h, if_pos (by omega)]
              · rw [if_neg h, if_neg (by omega)]), (Below_set hB5 (by omega) _).drew⟩, by simp [intOf]; omega⟩
      · skip
        have n1 : (0 : Int) < (x : Int) + (y : Int) - (lim : Int) := by omega
        go_wp2_with fail
        go_region
        all_goals (try go_wp2)
        
        have hx5 := (hx.other (b := D) (i := k) (by omega) (.int .i64 ((x + y - lim : Nat) : Int))).drew
        have hy5 := (hy.other (b := D) (i := k) (by omega) (.int .i64 ((x + y - lim : Nat) : Int))).drew
        have hD5 := (hD.set k (x + y - lim) hlt).drew
        have hat5 := (hat.other (b := D) (i := k) (by omega) (.int .i64 ((x + y - lim : Nat) : Int))).drew
        have hB5 := (Below_set hB (b := D) (i := k) (by omega) (.int .i64 ((x + y - lim : Nat) : Int))).drew
        obtain ⟨wa, hwa⟩ : ∃ wa, (wr.setCell ⟨D, k, none⟩ (.int .i64 ((x + y - lim : Nat) : Int))).drew = wa := ⟨_, rfl⟩
        rw [hwa] at hx5 hy5 hD5 hat5 hB5
        rw [show (x : Int) + (y : Int) - (lim : Int) = ((x + y - lim : Nat) : Int) by omega, hwa]
        clear hwa z2 z3 z4 z5 z6 z7 c1 hx hy hD hat hB
        obtain ⟨z0, z1, z2, z3⟩ := hx5.cells
        have z4 := hD5.cell k hlt
        have z5 := hD5.free k
        have z6 := hat5.cell k hlt
        have z7 := hat5.free k
        rw [if_pos rfl] at z4
        rw [if_neg (by omega), hx0] at z6
        clear z0 z1 z2
        go_region
        all_goals (try go_wp2)
        rw [show (x : Int) + ((y : Int) - ((x + y - lim : Nat) : Int)) = ((lim : Nat) : Int) by omega]
        exact ⟨⟨k + 1, by omega, by go_num, (hx5.other (by omega) _).drew, (hy5.other (by omega) _).drew, (hD5.other (by omega) _).drew.congr (fun i hi => by
            by_cases e : i = k
            · rw [if_pos (by omega), if_pos e, e, hx0, hy0]; omega
            · rw [if_neg e]
              by_cases h : i < k
              · rw [if_pos h, if_pos (by omega)]
              · rw [if_neg h, if_neg (by omega)]), (hat5.set k (lim) hlt).drew.congr (fun i hi => by
            by_cases e : i = k
            · rw [if_pos (by omega), if_pos e, e, hx0, hy0]; omega
            · rw [if_neg e]
              by_cases h : i < k
              · rw [if_pos h, if_pos (by omega)]
              · rw [if_neg h, if_neg (by omega)]), (Below_set hB5 (by omega) _).drew⟩, by simp [intOf]; omega⟩
    · obtain rfl : n = k := by omega
      have hM : IntsAt wr G1 n (fun i => min (wt i + ar i) lim) := hat.congr (fun i hi => by rw [if_pos hi])
      have hDr : IntsAt wr D n (fun i => wt i + ar i - min (wt i + ar i) lim) := hD.congr (fun i hi => by rw [if_pos hi])
      obtain ⟨z0, z1, z2, z3⟩ := hx.cells
      clear hat hD z2
      go_wp2_with fail
      refine (divide_any cap n t (fun i => min (wt i + ar i) lim) _ c1 wr hcap hn1 hn ht (fun i hi => by show min (wt i + ar i) lim ≤ 1000000; omega) hM.reads).mono ?_
      rintro e w5 ⟨G2, sv, rfl, hG2, hsv, hdiv, hb5⟩
      have hle := (hdiv.fair ht).2.1
      have HDIV := Lib.hid hdiv
      have HLE := Lib.hid hle
      clear z0 z1 z3 hdiv hle
      have hx6 := hx.below hb5
      have hy6 := hy.below hb5
      have hM6 := hM.below hb5
      have hD6 := hDr.below hb5
      have hB6 := hB.trans (hb5.mono hB.size)
      have hG1l := hM.lt
      have hDl2 := hDr.lt
      clear hx hy hM hDr hB hb5
      go_wp2_with fail
      obtain ⟨w6, rfl⟩ : ∃ w6 : World, w5 = w6 := ⟨_, rfl⟩
      go_loopw [90] (fun i wv => ∃ k : Nat, k ≤ n ∧ i = .int .i64 k ∧ QBox wv w.heap.size cap t lim (.slice (some ⟨G1, 0, none⟩) n c1) ∧ QBox wv (w.heap.size + 1) 0 0 0 (.slice none 0 0) ∧
        IntsAt wv D n (fun i => wt i + ar i - min (wt i + ar i) lim) ∧ IntsAt wv G2 n sv ∧ IntsAt wv G1 n (fun i => if i < k then min (wt i + ar i) lim - sv i else min (wt i + ar i) lim) ∧ Below w.heap.size w wv) (fun i _ => n - (intOf i).toNat)
      case atStart => exact ⟨0, by omega, rfl, hx6, hy6, hD6, hsv, hM6.congr (fun i _ => by rw [if_neg (by omega)]), hB6⟩
      case round =>
        obtain ⟨k, hk, rfl, hx, hy, hD, hsk, hat, hB⟩ := hrel
        clear hx6 hy6 hM6 hD6 hB6 hsv
        by_cases hlt : k < n
        · have hle := HLE.out k hlt
          have hmm : min (wt k + ar k) lim ≤ 1000000 := by omega
          obtain ⟨z0, z1, z2, z3⟩ := hx.cells
          have z4 := hsk.cell k hlt
          have z6 := hat.cell k hlt
          have z7 := hat.free k
          rw [if_neg (by omega)] at z6
          obtain ⟨x, hx0⟩ : ∃ x, min (wt k + ar k) lim = x := ⟨_, rfl⟩
          obtain ⟨y, hy0⟩ : ∃ y, sv k = y := ⟨_, rfl⟩
          rw [hx0] at z6 hmm
          rw [hy0] at z4
          have hle2 : y ≤ x := by rw [← hx0, ← hy0]; exact hle
          have k0 : (0 : Int) ≤ (k : Int) := by omega
          have k1 : (k : Int) < (n : Int) := by omega
          clear z0 z1 z2 hle
          go_wp2_with fail
          rw [show (x : Int) - (y : Int) = ((x - y : Nat) : Int) by omega]
          exact ⟨⟨k + 1, by omega, by go_num, hx.other (by omega) _, hy.other (by omega) _, hD.other (by omega) _, hsk.other (by omega) _, (hat.set k (x - y) hlt).congr (fun i hi => by
            by_cases e : i = k
            · rw [if_pos (by omega), if_pos e, e, hx0, hy0]
            · rw [if_neg e]
              by_cases h : i < k
              · rw [if_pos h, if_pos (by omega)]
              · rw [if_neg h, if_neg (by omega)]), Below_set hB (by omega) _⟩, by simp [intOf]; omega⟩
        · obtain rfl : n = k := by omega
          obtain ⟨z0, z1, z2, z3⟩ := hx.cells
          have z4 := hx.free 1
          obtain ⟨tt, htt⟩ : ∃ tt : Nat, (t + 1) % n = tt := ⟨_, rfl⟩
          have e1 : ((t : Int) + 1) % (n : Int) = (tt : Int) := by rw [← htt]; simp
          have hx7 := hx.setT tt
          have hy7 := hy.other (b := w.heap.size) (i := 1) (by omega) (.int .i64 (tt : Int))
          have HT := Lib.hid htt
          have hD7 := hD.other (b := w.heap.size) (i := 1) (by omega) (.int .i64 (tt : Int))
          have hs7 := hsk.other (b := w.heap.size) (i := 1) (by omega) (.int .i64 (tt : Int))
          have ha7 := hat.other (b := w.heap.size) (i := 1) (by omega) (.int .i64 (tt : Int))
          have hB7 := Below_set hB (b := w.heap.size) (i := 1) (Nat.le_refl _) (.int .i64 (tt : Int))
          obtain ⟨q0, q1, q2, q3⟩ := hx7.cells
          obtain ⟨r0, r1, r2, r3⟩ := hy7.cells
          have r4 := hy7.free 0
          have r5 := hy7.free 1
          have r6 := hy7.free 2
          have r7 := hy7.free 3
          clear htt hx hy hD hsk hat hB
          go_wp2_with fail
          refine bodyPost_ret (v := .tuple #[.agg #[.int .i64 (cap : Int), .int .i64 (tt : Int), .int .i64 (lim : Int), .slice (some ⟨G1, 0, none⟩) n c1], .slice (some ⟨G2, 0, none⟩) n n, .slice (some ⟨D, 0, none⟩) n n, .int .i64 0]) (by simp [results, Try.results16, go_sem, r0, r1, r2, r3]) rfl ?_
          refine ⟨G1, G2, D, c1, n, n, sv, by rw [HT.out], HDIV.out, ?_, ?_, ?_, ⟨by omega, by omega, by omega⟩, ?_⟩
          · exact ((((ha7.congr (fun i hi => by rw [if_pos hi])).other (by omega) _).other (by omega) _).other (by omega) _).other (by omega) _
          · exact (((hs7.other (by omega) _).other (by omega) _).other (by omega) _).other (by omega) _
          · exact (((hD7.other (by omega) _).other (by omega) _).other (by omega) _).other (by omega) _
          · exact Below_set (Below_set (Below_set (Below_set hB7 (by omega) _) (by omega) _) (by omega) _) (by omega) _
end Go.Proofs.Ytdodhfodojjfeaa
