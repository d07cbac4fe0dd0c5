/- Package quota: Run. Conditions: a valid quota; rounds of arrivals that are units, as many as there are tenants. -/
import Derived.Test.YtdodhfodojjfeaaQuotaRound
import Derived.Deep.DeepCutAuto
namespace Go.Proofs.Ytdodhfodojjfeaa
open Go Go.RowKit Go.Shelf
/-- Rounds of arrivals that can be read. -/
structure ReadRows (W : World) (p : Option Addr) (m n : Nat) (A : Nat → Option Addr) (C : Nat → Nat) (v : Nat → Nat → Nat) : Prop where
  cell : ∀ r, r < m → ∃ b off, p = some ⟨b, off, none⟩ ∧ b < W.heap.size ∧ ∀ j, j < m → W.cell? ⟨b, off + j, none⟩ = some (.slice (A j) n (C j))
  rows : ∀ r, r < m → ReadsI W (A r) n (fun i => ((v r i : Nat) : Int))
theorem ReadRows.below {W W' : World} {p : Option Addr} {m n : Nat} {A : Nat → Option Addr} {C : Nat → Nat} {v : Nat → Nat → Nat} (h : ReadRows W p m n A C v) (hb : Below W.heap.size W W') : ReadRows W' p m n A C v :=
  ⟨fun r hr => by
    obtain ⟨b, off, hp, hlt, hc⟩ := h.cell r hr
    exact ⟨b, off, hp, Nat.lt_of_lt_of_le hlt hb.size, fun j hj => (hb.cell (p := ⟨b, off + j, none⟩) hlt).trans (hc j hj)⟩, fun r hr => (h.rows r hr).below hb⟩
/-- m rounds: what was waiting, what was served. -/
def RunIs (n cap lim t m : Nat) (wt : Nat → Nat) (ar U S : Nat → Nat → Nat) : Prop :=
  (∀ i, i < n → U 0 i = wt i) ∧ ∀ k, k < m → DivIs n (fun i => min (U k i + ar k i) lim) cap ((t + k) % n) (S k) ∧ ∀ i, i < n → U (k + 1) i = min (U k i + ar k i) lim - S k i
def servedF (S : Nat → Nat → Nat) (m i : Nat) : Nat := sumTo (fun k => S k i) m
def dropF (lim : Nat) (ar U : Nat → Nat → Nat) (k i : Nat) : Nat := U k i + ar k i - min (U k i + ar k i) lim
def droppedF (lim : Nat) (ar U : Nat → Nat → Nat) (m i : Nat) : Nat := sumTo (fun k => dropF lim ar U k i) m
variable {n cap lim t m : Nat} {wt : Nat → Nat} {ar U S : Nat → Nat → Nat}
theorem RunIs.waiting (h : RunIs n cap lim t m wt ar U S) (hw : ∀ i, i < n → wt i ≤ lim) : ∀ k, k ≤ m → ∀ i, i < n → U k i ≤ lim
  | 0, _, i, hi => by rw [h.1 i hi]; exact hw i hi
  | k + 1, hk, i, hi => by rw [(h.2 k (by omega)).2 i hi]; omega
theorem RunIs.served (h : RunIs n cap lim t m wt ar U S) (hn : 0 < n) {k i : Nat} (hk : k < m) (hi : i < n) : S k i ≤ min (U k i + ar k i) lim :=
  ((h.2 k hk).1.fair (Nat.mod_lt _ hn)).2.1 i hi
theorem sumTo_le_mul {f : Nat → Nat} (b : Nat) : ∀ m, (∀ k, k < m → f k ≤ b) → sumTo f m ≤ m * b
  | 0, _ => by simp [sumTo]
  | m + 1, h => by have h1 := sumTo_le_mul b m (fun k hk => h k (by omega)); have h2 := h m (by omega); simp only [sumTo]; rw [Nat.succ_mul]; omega
theorem RunIs.servedF_le (h : RunIs n cap lim t m wt ar U S) (hn : 0 < n) (hl : lim ≤ 1000000) {i : Nat} (hi : i < n) : servedF S m i ≤ m * 1000000 :=
  sumTo_le_mul _ m fun k hk => by have := h.served hn hk hi; omega
theorem RunIs.droppedF_le (h : RunIs n cap lim t m wt ar U S) (hw : ∀ i, i < n → wt i ≤ lim) (har : ∀ k, k < m → ∀ i, i < n → ar k i ≤ 1000000) {i : Nat} (hi : i < n) : droppedF lim ar U m i ≤ m * 1000000 :=
  sumTo_le_mul _ m fun k hk => by
    have h1 := h.waiting hw k (by omega) i hi
    have h2 := har k hk i hi
    show dropF lim ar U k i ≤ 1000000
    unfold dropF; omega
/-- One round more. -/
theorem RunIs.snoc {sv : Nat → Nat} (h : RunIs n cap lim t m wt ar U S) (hd : DivIs n (fun i => min (U m i + ar m i) lim) cap ((t + m) % n) sv) :
    RunIs n cap lim t (m + 1) wt ar (fun j => if j = m + 1 then fun i => min (U m i + ar m i) lim - sv i else U j) (fun j => if j = m then sv else S j) := by
  refine ⟨fun i hi => ?_, fun k hk => ?_⟩
  · simp only [show ¬ (0 = m + 1) by omega, if_false]; exact h.1 i hi
  · by_cases e : k = m
    · subst e
      simp only [show ¬ (k = k + 1) by omega, if_false, if_true]
      exact ⟨hd, fun i _ => trivial⟩
    · have h1 := h.2 k (by omega)
      simp only [show ¬ (k = m + 1) by omega, show ¬ (k + 1 = m + 1) by omega, e, if_false]
      exact h1
theorem hrun_served_le {sv : Nat → Nat} {tk : Nat} (_h : RunIs n cap lim t m wt ar U S) (hd : DivIs n (fun i => min (U m i + ar m i) lim) cap tk sv) (_ht : (t + m) % n = tk) (hl : lim ≤ 1000000) (_hn : 1 ≤ n) (htk : tk < n) : ∀ i, i < n → sv i ≤ 1000000 := fun i hi => by
  have := (hd.fair htk).2.1 i hi
  omega
theorem dropF_le {k i : Nat} (hw : U k i ≤ lim) (ha : ar k i ≤ 1000000) : dropF lim ar U k i ≤ 1000000 := by unfold dropF; omega
theorem servedF_snoc (S : Nat → Nat → Nat) (sv : Nat → Nat) (m i : Nat) : servedF (fun j => if j = m then sv else S j) (m + 1) i = servedF S m i + sv i := by
  unfold servedF
  simp only [sumTo, if_true]
  congr 1
  exact sumTo_congr m fun k hk => by rw [if_neg (by omega)]
theorem droppedF_snoc (lim : Nat) (ar U : Nat → Nat → Nat) (V : Nat → Nat) (m i : Nat) : droppedF lim ar (fun j => if j = m + 1 then V else U j) (m + 1) i = droppedF lim ar U m i + dropF lim ar U m i := by
  unfold droppedF
  simp only [sumTo]
  congr 1
  · refine sumTo_congr m fun k hk => ?_
    unfold dropF; simp only [show ¬ (k = m + 1) by omega, if_false]
  · unfold dropF; simp only [show ¬ (m = m + 1) by omega, if_false]
theorem make_all (n : Nat) (hn : n ≤ 1000) : ∃ o : Obj, (∀ W : World, (Instr.makeSlice 22 (.int .i64 (n : Nat)) (.int .i64 (n : Nat))).run Try.prog W = .ok (.slice (some ⟨W.heap.size, 0, none⟩) n n) (W.alloc o)) ∧ ∀ W : World, IntsAt (W.alloc o) W.heap.size n (fun _ => 0) := by
  refine ⟨.cells ((List.range n).map fun _ => Value.int .i64 0).toArray 3, fun W => ?_, fun W => (row_new W n).ints⟩
  obtain ⟨i0, hi, hz0, hz1, hz2⟩ := info_parts Try.infoInt
  have h := run_make (P := Try.prog) W 22 3 i0 (.int .i64 0) Try.underlying22 hi hz0 .i64 .i64 (n : Int) (n : Int) (by omega) (by omega) (by rw [hz2]; omega) (by omega)
  simp only [Int.toNat_natCast] at h
  have e : madeCells (Value.int .i64 0).cells (n * i0.size) = ((List.range n).map fun _ => Value.int .i64 0).toArray := by
    rw [hz1]
    apply Array.toList_inj.1
    rw [made_one _ rfl]
    apply List.ext_getElem <;> simp
  rw [e] at h
  exact h
theorem QBox.setAll {W : World} {B cap t lim : Nat} {v : Value} (h : QBox W B cap t lim v) (cap' t' lim' : Nat) (v' : Value) :
    QBox ((((W.setCell ⟨B, 0, none⟩ (.int .i64 (cap' : Int))).setCell ⟨B, 1, none⟩ (.int .i64 (t' : Int))).setCell ⟨B, 2, none⟩ (.int .i64 (lim' : Int))).setCell ⟨B, 3, none⟩ v') B cap' t' lim' v' := by
  unfold QBox at h ⊢
  unfold World.setCell
  simp [Array.getElem?_modify, h]
/-- What Run returns. -/
def IsRun (w : World) (cap t lim n m : Nat) (wt : Nat → Nat) (ar : Nat → Nat → Nat) (e : Ending) (w' : World) : Prop := ∃ (G1 G2 G3 c1 : Nat) (U S : Nat → Nat → Nat),
  e = .returned (.tuple #[.agg #[.int .i64 (cap : Int), .int .i64 (((t + m) % n : Nat) : Int), .int .i64 (lim : Int), .slice (some ⟨G1, 0, none⟩) n c1], .slice (some ⟨G2, 0, none⟩) n n, .slice (some ⟨G3, 0, none⟩) n n, .int .i64 0]) ∧
  RunIs n cap lim t m wt ar U S ∧ IntsAt w' G1 n (U m) ∧ IntsAt w' G2 n (servedF S m) ∧ IntsAt w' G3 n (droppedF lim ar U m) ∧
  (w.heap.size ≤ G1 ∧ w.heap.size ≤ G2 ∧ w.heap.size ≤ G3 ∧ G2 ≠ G3 ∧ G1 ≠ G2 ∧ G1 ≠ G3) ∧ Below w.heap.size w w'
set_option maxRecDepth 100000 in
set_option maxHeartbeats 4000000 in
theorem run_any (cap t lim n c m mc : Nat) (p q : Option Addr) (wt : Nat → Nat) (ar : Nat → Nat → Nat) (A : Nat → Option Addr) (C : Nat → Nat) (w : World) (hcap : cap ≤ 1000000) (hlim : lim ≤ 1000000) (hn1 : 1 ≤ n) (hn : n ≤ 8) (ht : t < n) (hm : m ≤ 200)
    (hwt : ∀ i, i < n → wt i ≤ lim) (har : ∀ k, k < m → ∀ i, i < n → ar k i ≤ 1000000) (hp : ReadsI w p n (fun i => ((wt i : Nat) : Int))) (hq : ReadRows w q m n A C ar) :
    Calls Try.prog 23 #[.agg #[.int .i64 (cap : Int), .int .i64 (t : Int), .int .i64 (lim : Int), .slice p n c], .slice q m mc] w (IsRun w cap t lim n m wt ar) := by
  have hok : QuotaOk cap t lim n (fun i => ((wt i : Nat) : Int)) := ⟨⟨by omega, by omega⟩, ⟨by omega, by omega⟩, ⟨hn1, hn, fun i hi => ⟨by show (0:Int) ≤ (wt i : Nat); omega, by have := hwt i hi; show ((wt i : Nat) : Int) ≤ 1000000; omega⟩⟩, by omega, by omega, fun i hi => by have := hwt i hi; show ((wt i : Nat) : Int) ≤ lim; omega⟩
  have HP := Lib.hid hp
  have HQ := Lib.hid hq
  have HV := fun W (hb : Below w.heap.size w W) => (valid_any cap t lim p n c (fun i => ((wt i : Nat) : Int)) W (by unfold maxLen; omega) (HP.out.below hb)).mono fun e w' ⟨h1, h2⟩ => (⟨h1.yes hok, h2⟩ : e = Ending.returned (.bool true) ∧ Below W.heap.size W w')
  have HV' := Lib.hid HV
  have hB0 := ((Below.refl w.heap.size w).alloc (Nat.le_refl _) (.cells #[.int .i64 (cap : Int), .int .i64 (t : Int), .int .i64 (lim : Int), .slice p n c] 35)).alloc (by simp) (.cells #[.int .i64 0, .int .i64 0, .int .i64 0, .slice none 0 0] 35)
  have hx0 := (QBox.new w cap t lim (.slice p n c)).alloc (.cells #[.int .i64 0, .int .i64 0, .int .i64 0, .slice none 0 0] 35)
  have hy0 := QBox.new (w.alloc (.cells #[.int .i64 (cap : Int), .int .i64 (t : Int), .int .i64 (lim : Int), .slice p n c] 35)) 0 0 0 (.slice none 0 0)
  clear hp hq HV hok
  go_enter Try.func23, Try.ntmps23
  go_wp2_with fail
  refine (HV'.out _ hB0).mono ?_
  rintro e w1 ⟨rfl, hb1⟩
  have hB1 := hB0.trans (hb1.mono hB0.size)
  have hx1 := hx0.below hb1
  have hy1 := hy0.below hb1
  rw [World.size_alloc] at hy1
  obtain ⟨x0, x1, x2, x3⟩ := hx1.cells
  have hyl := hy1.lt
  obtain ⟨o, hmk, hmi⟩ := make_all n (by omega)
  have x4 := (hx1.alloc o).cells.2.2.2
  have HMI := Lib.hid hmi
  clear hx0 hy0 hB0 hb1 x0 x1 x2 hmi
  go_upto_region 3 with fail
  go_cut [8, 9] (fun s8 s9 wx => ∃ D E : Nat, s8 = .slice (some ⟨D, 0, none⟩) n n ∧ s9 = .slice (some ⟨E, 0, none⟩) n n ∧ D ≠ E ∧ w.heap.size + 1 < D ∧ w.heap.size + 1 < E ∧ IntsAt wx D n (fun _ => 0) ∧ IntsAt wx E n (fun _ => 0) ∧
    QBox wx w.heap.size cap t lim (.slice p n c) ∧ QBox wx (w.heap.size + 1) 0 0 0 (.slice none 0 0) ∧ Below w.heap.size w wx)
  case first =>
    have hD := HMI.out w1
    have hE := HMI.out (w1.alloc o)
    rw [World.size_alloc] at hE
    have HD := Lib.hid ((hD.alloc o).drew)
    have HE := Lib.hid hE.drew
    have hx2 := ((hx1.alloc o).alloc o).drew
    have hy2 := ((hy1.alloc o).alloc o).drew
    have hB2 := ((hB1.alloc hB1.size o).alloc (by have := hB1.size; simp; omega) o).drew
    clear hD hE
    go_region
    all_goals (go_wp2_with fail; go_meet)
    · exact ⟨w1.heap.size, w1.heap.size + 1, rfl, rfl, by omega, by omega, by omega, HD.out, HE.out, hx2, hy2, hB2⟩
    · exact ⟨w1.heap.size + 1, w1.heap.size, rfl, rfl, by omega, by omega, by omega, HE.out, HD.out, hx2, hy2, hB2⟩
  case rest =>
    obtain ⟨D, E, rfl, rfl, hDE, hD1, hE1, hD, hE, hx, hy, hB⟩ := hcut
    clear hx1 hy1 hB1 x3 x4 hmk HMI hyl
    obtain ⟨y0, y1, y2, y3⟩ := hx.cells
    have y4 := hx.free 3
    go_wp2_with fail
    refine (clone_any p n c wt _ hn1 (by omega) (HP.out.below hB)).mono ?_
    rintro e w3 ⟨⟨X, cx, rfl, hX, hat⟩, hb3⟩
    have hDX : D < X := Nat.lt_of_lt_of_le hD.lt hX
    have hEX : E < X := Nat.lt_of_lt_of_le hE.lt hX
    have hB3 := hB.trans (hb3.mono hB.size)
    have hx3 := hx.below hb3
    have hy3 := hy.below hb3
    have hD3 := hD.below hb3
    have hE3 := hE.below hb3
    clear y0 y1 y2 y3 y4 hx hy hD hE hB hb3
    obtain ⟨y0, y1, y2, y3⟩ := hx3.cells
    have y4 := hx3.free 3
    have hx4 := hx3.setW (.slice (some ⟨X, 0, none⟩) n cx)
    have hy4 := hy3.other (b := w.heap.size) (i := 3) (by omega) (.slice (some ⟨X, 0, none⟩) n cx)
    have hD4 := hD3.other (b := w.heap.size) (i := 3) (by omega) (.slice (some ⟨X, 0, none⟩) n cx)
    have hE4 := hE3.other (b := w.heap.size) (i := 3) (by omega) (.slice (some ⟨X, 0, none⟩) n cx)
    have hat4 := hat.other (b := w.heap.size) (i := 3) (by omega) (.slice (some ⟨X, 0, none⟩) n cx)
    have hB4 := Below_set hB3 (b := w.heap.size) (i := 3) (Nat.le_refl _) (.slice (some ⟨X, 0, none⟩) n cx)
    clear hx3 hy3 hD3 hE3 hat hB3
    go_wp2_with fail
    clear y0 y1 y2 y3 y4
    obtain ⟨w4, hw4⟩ : ∃ w4, w3.setCell ⟨w.heap.size, 3, none⟩ (.slice (some ⟨X, 0, none⟩) n cx) = w4 := ⟨_, rfl⟩
    rw [hw4] at hx4 hy4 hD4 hE4 hat4 hB4 ⊢
    clear hw4
    have h0 : RunIs n cap lim t 0 wt ar (fun _ => wt) (fun _ _ => 0) := ⟨fun _ _ => rfl, fun k hk => by omega⟩
    go_loopw [40] (fun z wr => ∃ (k X cx : Nat) (U S : Nat → Nat → Nat), k ≤ m ∧ z = .int .i64 k ∧ RunIs n cap lim t k wt ar U S ∧ QBox wr w.heap.size cap ((t + k) % n) lim (.slice (some ⟨X, 0, none⟩) n cx) ∧ QBox wr (w.heap.size + 1) 0 0 0 (.slice none 0 0) ∧
      IntsAt wr X n (U k) ∧ IntsAt wr D n (servedF S k) ∧ IntsAt wr E n (droppedF lim ar U k) ∧ D < X ∧ E < X ∧ Below w.heap.size w wr) (fun z _ => m - (intOf z).toNat)
    case atStart => exact ⟨0, X, cx, _, _, by omega, rfl, h0, by rw [Nat.add_zero, Nat.mod_eq_of_lt ht]; exact hx4, hy4, hat4, hD4, hE4, hDX, hEX, hB4⟩
    case round =>
      obtain ⟨k, X, cx, U, S, hk, rfl, hrun, hx, hy, hU, hS, hR, hDX, hEX, hB⟩ := hrel
      clear hx4 hy4 hD4 hE4 hat4 hB4 h0
      have htk : (t + k) % n < n := Nat.mod_lt _ (by omega)
      by_cases hlt : k < m
      · obtain ⟨bq, oq, rfl, hbq, hcq⟩ := (HQ.out.below hB).cell k hlt
        have hrows := (HQ.out.below hB).rows k hlt
        have c1 := hcq k hlt
        have k0 : (0 : Int) ≤ (k : Int) := by omega
        have k1 : (k : Int) < (m : Int) := by omega
        obtain ⟨y0, y1, y2, y3⟩ := hx.cells
        have hwk := hrun.waiting hwt k (Nat.le_refl _)
        obtain ⟨tk, htke⟩ : ∃ tk, (t + k) % n = tk := ⟨_, rfl⟩
        rw [htke] at hx htk y1
        have HTK := Lib.hid htke
        have HRUN := Lib.hid hrun
        clear hcq htke hrun
        go_wp2_with fail
        refine (round_any cap tk lim n cx (C k) _ _ (U k) (ar k) wr hcap hlim hn1 hn htk hwk (har k hlt) hU.reads hrows).mono ?_
        rintro e w5 ⟨G1, G2, G3, c1, c2, c3, sv, rfl, hdiv, i1, i2, i3, ⟨l1, l2, l3⟩, hb⟩
        have hsvle := hrun_served_le HRUN.out hdiv HTK.out hlim hn1 htk
        have hdrle := fun i (hi : i < n) => dropF_le (lim := lim) (ar := ar) (U := U) (k := k) (i := i) (hwk i hi) (har k hlt i hi)
        have hSle := fun i (hi : i < n) => HRUN.out.servedF_le (by omega) hlim hi
        have hRle := fun i (hi : i < n) => HRUN.out.droppedF_le hwt (fun j hj => har j (by omega)) hi
        obtain ⟨tn, htn⟩ : ∃ tn, (tk + 1) % n = tn := ⟨_, rfl⟩
        rw [htn]
        have hx5 := (hx.below hb).alloc (.cells #[.int .i64 (cap : Int), .int .i64 (tn : Int), .int .i64 (lim : Int), .slice (some ⟨G1, 0, none⟩) n c1] 35)
        have hy5 := (hy.below hb).alloc (.cells #[.int .i64 (cap : Int), .int .i64 (tn : Int), .int .i64 (lim : Int), .slice (some ⟨G1, 0, none⟩) n c1] 35)
        have hS5 := (hS.below hb).alloc (.cells #[.int .i64 (cap : Int), .int .i64 (tn : Int), .int .i64 (lim : Int), .slice (some ⟨G1, 0, none⟩) n c1] 35)
        have hR5 := (hR.below hb).alloc (.cells #[.int .i64 (cap : Int), .int .i64 (tn : Int), .int .i64 (lim : Int), .slice (some ⟨G1, 0, none⟩) n c1] 35)
        have hB5 := hB.trans (hb.mono hB.size)
        have hB6 := hB5.alloc hB5.size (.cells #[.int .i64 (cap : Int), .int .i64 (tn : Int), .int .i64 (lim : Int), .slice (some ⟨G1, 0, none⟩) n c1] 35)
        have hn5 := QBox.new w5 cap tn lim (.slice (some ⟨G1, 0, none⟩) n c1)
        have j1 := i1.alloc (.cells #[.int .i64 (cap : Int), .int .i64 (tn : Int), .int .i64 (lim : Int), .slice (some ⟨G1, 0, none⟩) n c1] 35)
        have j2 := i2.alloc (.cells #[.int .i64 (cap : Int), .int .i64 (tn : Int), .int .i64 (lim : Int), .slice (some ⟨G1, 0, none⟩) n c1] 35)
        have j3 := i3.alloc (.cells #[.int .i64 (cap : Int), .int .i64 (tn : Int), .int .i64 (lim : Int), .slice (some ⟨G1, 0, none⟩) n c1] 35)
        have s1 := i1.lt
        have s2 := i2.lt
        have s3 := i3.lt
        have s4 := hS.lt
        have s5 := hR.lt
        have s6 := hB5.size
        have HDIV := Lib.hid hdiv
        have HTN := Lib.hid htn
        clear hx hy hS hR hB hB5 hb i1 i2 i3 hdiv htn y0 y1 y2 y3 hrows hU
        go_wp2_with fail
        obtain ⟨N, hN⟩ : ∃ N, w5.heap.size = N := ⟨_, rfl⟩
        obtain ⟨w6, hw6⟩ : ∃ w6, w5.alloc (.cells #[.int .i64 (cap : Int), .int .i64 (tn : Int), .int .i64 (lim : Int), .slice (some ⟨G1, 0, none⟩) n c1] 35) = w6 := ⟨_, rfl⟩
        rw [hN] at hn5 s1 s2 s3 s6 ⊢
        rw [hw6] at hx5 hy5 hS5 hR5 hB6 hn5 j1 j2 j3 ⊢
        clear hN hw6
        have l4 : D ≠ G1 ∧ D ≠ G2 ∧ D ≠ G3 ∧ E ≠ G1 ∧ E ≠ G2 ∧ E ≠ G3 := ⟨by omega, by omega, by omega, by omega, by omega, by omega⟩
        obtain ⟨l41, l42, l43, l44, l45, l46⟩ := l4
        have l5 : D < N ∧ E < N ∧ w.heap.size + 1 < N := by have := hn5.lt; have := hy5.lt; exact ⟨by omega, by omega, by omega⟩
        obtain ⟨l51, l52, l53⟩ := l5
        go_loopw [58] (fun z wv => ∃ j : Nat, j ≤ n ∧ z = .int .i64 j ∧ QBox wv w.heap.size cap tk lim (.slice (some ⟨X, 0, none⟩) n cx) ∧ QBox wv (w.heap.size + 1) 0 0 0 (.slice none 0 0) ∧ QBox wv N cap tn lim (.slice (some ⟨G1, 0, none⟩) n c1) ∧
          IntsAt wv D n (fun i => if i < j then servedF S k i + sv i else servedF S k i) ∧ IntsAt wv E n (fun i => if i < j then droppedF lim ar U k i + dropF lim ar U k i else droppedF lim ar U k i) ∧
          IntsAt wv G1 n (fun i => min (U k i + ar k i) lim - sv i) ∧ IntsAt wv G2 n sv ∧ IntsAt wv G3 n (dropF lim ar U k) ∧ Below w.heap.size w wv) (fun z _ => n - (intOf z).toNat)
        case atStart => exact ⟨0, by omega, rfl, hx5, hy5, hn5, hS5.congr (fun i _ => by rw [if_neg (by omega)]), hR5.congr (fun i _ => by rw [if_neg (by omega)]), j1, j2, j3, hB6⟩
        case round =>
          obtain ⟨j, hj, rfl, hx, hy, hn6, hS, hR, hU, hs, hd, hB⟩ := hrel
          clear hx5 hy5 hn5 hS5 hR5 j1 j2 j3 hB6
          by_cases hjn : j < n
          · have q0 : (0 : Int) ≤ (j : Int) := by omega
            have q1 : (j : Int) < (n : Int) := by omega
            have x1 := hS.cell j hjn
            have x2 := hS.free j
            have x3 := hs.cell j hjn
            rw [if_neg (by omega)] at x1
            have b1 := hSle j hjn
            have b2 := hsvle j hjn
            obtain ⟨u, hu⟩ : ∃ u, servedF S k j = u := ⟨_, rfl⟩
            obtain ⟨v, hv⟩ : ∃ v, sv j = v := ⟨_, rfl⟩
            rw [hu] at x1 b1
            rw [hv] at x3 b2
            have b3 : u ≤ 200000000 := by omega
            clear b1
            go_wp2_with fail
            go_region
            all_goals (try go_wp2)
            rw [show (u : Int) + (v : Int) = ((u + v : Nat) : Int) by omega]
            have hx7 := (hx.other (b := D) (i := j) (by omega) (.int .i64 ((u + v : Nat) : Int))).drew
            have hy7 := (hy.other (b := D) (i := j) (by omega) (.int .i64 ((u + v : Nat) : Int))).drew
            have hn7 := (hn6.other (b := D) (i := j) (by omega) (.int .i64 ((u + v : Nat) : Int))).drew
            have hS7 := (hS.set j (u + v) hjn).drew.congr (b := fun i => if i < j + 1 then servedF S k i + sv i else servedF S k i) (fun i hi => by
              by_cases e : i = j
              · rw [if_pos (by omega), if_pos e, e, hu, hv]
              · rw [if_neg e]
                by_cases h : i < j
                · rw [if_pos h, if_pos (by omega)]
                · rw [if_neg h, if_neg (by omega)])
            have hR7 := (hR.other (b := D) (i := j) (by omega) (.int .i64 ((u + v : Nat) : Int))).drew
            have hU7 := (hU.other (b := D) (i := j) (by omega) (.int .i64 ((u + v : Nat) : Int))).drew
            have hs7 := (hs.other (b := D) (i := j) (by omega) (.int .i64 ((u + v : Nat) : Int))).drew
            have hd7 := (hd.other (b := D) (i := j) (by omega) (.int .i64 ((u + v : Nat) : Int))).drew
            have hB7 := (Below_set hB (b := D) (i := j) (by omega) (.int .i64 ((u + v : Nat) : Int))).drew
            obtain ⟨wa, hwa⟩ : ∃ wa, (wr.setCell ⟨D, j, none⟩ (.int .i64 ((u + v : Nat) : Int))).drew = wa := ⟨_, rfl⟩
            rw [hwa] at hx7 hy7 hn7 hS7 hR7 hU7 hs7 hd7 hB7 ⊢
            clear hwa hx hy hn6 hS hR hU hs hd hB x1 x2 x3 b2 b3 hu hv
            have x1 := hR7.cell j hjn
            have x2 := hR7.free j
            have x3 := hd7.cell j hjn
            rw [if_neg (by omega)] at x1
            have b1 := hRle j hjn
            have b2 := hdrle j hjn
            obtain ⟨u', hu⟩ : ∃ u, droppedF lim ar U k j = u := ⟨_, rfl⟩
            obtain ⟨v', hv⟩ : ∃ v, dropF lim ar U k j = v := ⟨_, rfl⟩
            rw [hu] at x1 b1
            rw [hv] at x3 b2
            have b3 : u' ≤ 200000000 := by omega
            clear b1
            go_region
            all_goals (try go_wp2)
            rw [show (u' : Int) + (v' : Int) = ((u' + v' : Nat) : Int) by omega]
            exact ⟨⟨j + 1, by omega, by go_num, (hx7.other (by omega) _).drew, (hy7.other (by omega) _).drew, (hn7.other (by omega) _).drew, (hS7.other (by omega) _).drew, (hR7.set j (u' + v') hjn).drew.congr (fun i hi => by
              by_cases e : i = j
              · rw [if_pos (by omega), if_pos e, e, hu, hv]
              · rw [if_neg e]
                by_cases h : i < j
                · rw [if_pos h, if_pos (by omega)]
                · rw [if_neg h, if_neg (by omega)]), (hU7.other (by omega) _).drew, (hs7.other (by omega) _).drew, (hd7.other (by omega) _).drew, (Below_set hB7 (by omega) _).drew⟩, by simp [intOf]; omega⟩
          · obtain rfl : n = j := by omega
            obtain ⟨z0, z1, z2, z3⟩ := hn6.cells
            obtain ⟨y0, y1, y2, y3⟩ := hx.cells
            have f0 := hx.free 0
            have f1 := hx.free 1
            have f2 := hx.free 2
            have f3 := hx.free 3
            go_wp2_with fail
            have hd2 : DivIs n (fun i => min (U k i + ar k i) lim) cap ((t + k) % n) sv := by rw [HTK.out]; exact HDIV.out
            have hmod : (t + (k + 1)) % n = tn := by rw [← HTN.out, ← HTK.out, ← Nat.add_assoc, Nat.mod_add_mod]
            exact ⟨⟨k + 1, G1, c1, _, _, by omega, by go_num, HRUN.out.snoc hd2, by rw [hmod]; exact hx.setAll cap tn lim _, ((((hy.other (by omega) _).other (by omega) _).other (by omega) _).other (by omega) _),
              ((((hU.other (by omega) _).other (by omega) _).other (by omega) _).other (by omega) _).congr (fun i _ => by rw [if_pos rfl]), ((((hS.other (by omega) _).other (by omega) _).other (by omega) _).other (by omega) _).congr (fun i hi => by rw [servedF_snoc, if_pos hi]), ((((hR.other (by omega) _).other (by omega) _).other (by omega) _).other (by omega) _).congr (fun i hi => by rw [droppedF_snoc, if_pos hi]), by omega, by omega,
              Below_set (Below_set (Below_set (Below_set hB (Nat.le_refl _) _) (Nat.le_refl _) _) (Nat.le_refl _) _) (Nat.le_refl _) _⟩, by simp [intOf]; omega⟩
      · obtain rfl : m = k := by omega
        obtain ⟨y0, y1, y2, y3⟩ := hx.cells
        obtain ⟨z0, z1, z2, z3⟩ := hy.cells
        have f0 := hy.free 0
        have f1 := hy.free 1
        have f2 := hy.free 2
        have f3 := hy.free 3
        obtain ⟨tk, htke⟩ : ∃ tk, (t + m) % n = tk := ⟨_, rfl⟩
        rw [htke] at y1
        have HTK := Lib.hid htke
        have hXl : w.heap.size + 1 < X := by omega
        clear htke htk
        go_wp2_with fail
        refine bodyPost_ret (v := .tuple #[.agg #[.int .i64 (cap : Int), .int .i64 (tk : Int), .int .i64 (lim : Int), .slice (some ⟨X, 0, none⟩) n cx], .slice (some ⟨D, 0, none⟩) n n, .slice (some ⟨E, 0, none⟩) n n, .int .i64 0]) (by simp [results, Try.results23, go_sem, z0, z1, z2, z3]) rfl ?_
        exact ⟨X, D, E, cx, U, S, by rw [HTK.out], hrun, ((((hU.other (by omega) _).other (by omega) _).other (by omega) _).other (by omega) _), ((((hS.other (by omega) _).other (by omega) _).other (by omega) _).other (by omega) _), ((((hR.other (by omega) _).other (by omega) _).other (by omega) _).other (by omega) _), ⟨by omega, by omega, by omega, hDE, by omega, by omega⟩, Below_set (Below_set (Below_set (Below_set hB (by omega) _) (by omega) _) (by omega) _) (by omega) _⟩
end Go.Proofs.Ytdodhfodojjfeaa
