/- Chapter 36's small functions: pick, demands, Ints, Sum, Clone. Conditions: numbers of 64 bits; slices that can be read. -/
import Derived.Test.YtdodhfodojjfeaaQuotaOpen
import Derived.Test.YtdodhfodojjfeaaQuotaLaw
import Derived.Test.YtdodhfodojjfeaaSlices
import Derived.Laws.OwnMore
import Derived.Deep.QuietTactic
import Derived.BigQuiet
import Derived.WalkSpells
import Derived.Lib.SliceRun
namespace Go.Proofs.Ytdodhfodojjfeaa
open Go Go.RowKit Go.Shelf
def pickN (c : Int) (n : Nat) : Nat := ((if c < 0 then -(c + 1) else c) % (n : Int)).toNat
theorem pickN_lt (c : Int) {n : Nat} (hn : 0 < n) : pickN c n < n := by
  unfold pickN
  have h1 := Int.emod_nonneg (if c < 0 then -(c + 1) else c) (show (n : Int) ≠ 0 by omega)
  have h2 := Int.emod_lt_of_pos (if c < 0 then -(c + 1) else c) (show 0 < (n : Int) by omega)
  omega
theorem pickN_int (c : Int) {n : Nat} (hn : 0 < n) : ((pickN c n : Nat) : Int) = (if c < 0 then -(c + 1) else c) % (n : Int) := by
  unfold pickN
  have h1 := Int.emod_nonneg (if c < 0 then -(c + 1) else c) (show (n : Int) ≠ 0 by omega)
  omega
set_option maxHeartbeats 400000 in
theorem pick_any (c m : Int) (n : Nat) (w : World) (hm : (n : Int) = m) (hc : -9223372036854775808 ≤ c) (hc2 : c ≤ 9223372036854775807) (hn : 0 < n) (hn2 : n ≤ 9223372036854775807) :
    Calls Try.prog 12 #[.int .i64 c, .int .i64 m] w fun e w' => e = .returned (.int .i64 (pickN c n : Nat)) ∧ w = w' := by
  subst hm
  by_cases h : c < 0
  · have hp : -((c + 1).tmod n) = ((pickN c n : Nat) : Int) := by
      rw [pickN_int c hn, if_pos h, ← Int.neg_tmod, Int.tmod_eq_emod_of_nonneg (by omega)]
    have HP := Lib.hid hp
    clear hp
    go_enter Try.func12, Try.ntmps12
    go_wp2
    go_ret
    exact ⟨by rw [← HP.out]; rfl, rfl⟩
  · have hp : c % n = ((pickN c n : Nat) : Int) := by rw [pickN_int c hn, if_neg h]
    have HP := Lib.hid hp
    clear hp
    go_enter Try.func12, Try.ntmps12
    go_wp2
    go_ret
    exact ⟨by rw [← HP.out]; rfl, rfl⟩
theorem Try.infoInt : (Try.prog.info? 3).map (fun i => (i.zero, i.size, i.bytes)) = some (some (.int .i64 0), 1, 8) := by kernel_rfl
/-- A slice of natural numbers of the call's own, that may be written. -/
structure IntsAt (W : World) (G n : Nat) (a : Nat → Nat) : Prop where
  lt : G < W.heap.size
  cell : ∀ i, i < n → W.cell? ⟨G, i, none⟩ = some (.int .i64 ((a i : Nat) : Int))
  free : ∀ i, W.frozen? ⟨G, i, none⟩ = false
  row : ∃ cs, W.heap[G]? = some (.cells cs 3 (0, 0))
variable {W W' : World} {G n : Nat} {a : Nat → Nat}
theorem IntsAt.reads (h : IntsAt W G n a) : ReadsI W (some ⟨G, 0, none⟩) n (fun i => ((a i : Nat) : Int)) := fun i hi => ⟨G, 0, rfl, fun j hj => by rw [Nat.zero_add]; exact h.cell j hj⟩
theorem IntsAt.below (h : IntsAt W G n a) (hb : Below W.heap.size W W') : IntsAt W' G n a :=
  ⟨Nat.lt_of_lt_of_le h.lt hb.size, fun i hi => (hb.cell (p := ⟨G, i, none⟩) h.lt).trans (h.cell i hi), fun i => (hb.frozen (p := ⟨G, i, none⟩) h.lt).trans (h.free i), by obtain ⟨cs, hc⟩ := h.row; exact ⟨cs, (hb.block _ h.lt).trans hc⟩⟩
theorem IntsAt.kept {row : Option Nat} (h : IntsAt W G n a) (hg : W.grownBy W' row) (hne : some G ≠ row) : IntsAt W' G n a := by
  have hb := hg.block G h.lt hne
  obtain ⟨cs, hc⟩ := h.row
  refine ⟨Nat.lt_of_lt_of_le h.lt hg.size, fun i hi => ?_, fun i => ?_, cs, hb.trans hc⟩
  · have := h.cell i hi
    unfold World.cell? at this ⊢
    rw [hb]; exact this
  · have := h.free i
    unfold World.frozen? at this ⊢
    rw [hb]; exact this
theorem IntsAt.congr {b : Nat → Nat} (h : IntsAt W G n a) (e : ∀ i, i < n → b i = a i) : IntsAt W G n b := ⟨h.lt, fun i hi => by rw [h.cell i hi, e i hi], h.free, h.row⟩
theorem IntsAt.alloc (h : IntsAt W G n a) (o : Obj) : IntsAt (W.alloc o) G n a := h.kept (World.grownBy_alloc W o none) (by simp)
theorem IntsAt.drew (h : IntsAt W G n a) : IntsAt W.drew G n a := ⟨h.lt, h.cell, h.free, h.row⟩
theorem IntsAt.other (h : IntsAt W G n a) {b i : Nat} (hne : G ≠ b) (v : Value) : IntsAt (W.setCell ⟨b, i, none⟩ v) G n a :=
  h.kept ⟨rfl, rfl, rfl, (KeepsWalks.setCell W _ v).size, fun k _ hk => Below.heap_setCell _ _ _ k (fun e => hk (by rw [e]))⟩ (by simpa using hne)
theorem IntsAt.set (h : IntsAt W G n a) (i x : Nat) (hi : i < n) : IntsAt (W.setCell ⟨G, i, none⟩ (.int .i64 ((x : Nat) : Int))) G n (fun j => if j = i then x else a j) := by
  obtain ⟨cs, hc⟩ := h.row
  have hH : (W.setCell ⟨G, i, none⟩ (.int .i64 ((x : Nat) : Int))).heap[G]? = some (.cells (cs.setIfInBounds i (.int .i64 ((x : Nat) : Int))) 3 (0, 0)) := by
    unfold World.setCell
    simp [Array.getElem?_modify, hc]
  have hs : ∀ j, j < n → j < cs.size := fun j hj => by
    have := h.cell j hj
    simp only [World.cell?, hc] at this
    rcases Nat.lt_or_ge j cs.size with h | h
    · exact h
    · simp [Array.getElem?_eq_none h] at this
  refine ⟨(Array.getElem?_eq_some_iff.1 hH).1, fun j hj => ?_, fun j => ?_, _, hH⟩
  · have h1 := h.cell j hj
    have hj2 := hs j hj
    simp only [World.cell?, hc] at h1
    simp only [World.cell?, hH]
    by_cases e : j = i
    · subst e; simp [hj2]
    · have e' : ¬ i = j := fun x => e x.symm
      simp [e, e'] at h1 ⊢
      exact h1
  · simp [World.frozen?, hH]
theorem IntsAt.of_own {base cp : Nat} (h : W.ownsRow base 3 1 (.slice (some ⟨G, 0, none⟩) n cp) n ((List.range n).map fun i => Value.int .i64 ((a i : Nat) : Int))) : IntsAt W G n a ∧ base ≤ G := by
  have h1 := h.lt G rfl
  refine ⟨⟨h1.2, fun i hi => ?_, fun i => h.frozenAt i, ?_⟩, h1.1⟩
  · rw [h.cellAt i (by omega)]; simp [hi]
  · obtain ⟨g, cap, cur, hv, _, hH, _⟩ := h.2.resolve_left (by simp)
    cases hv
    exact ⟨cur, hH⟩
theorem IntsAt.new (W : World) (cs : Array Value) (hs : cs.toList = (List.range n).map fun i => Value.int .i64 ((a i : Nat) : Int)) : IntsAt (W.alloc (.cells cs 3)) W.heap.size n a := by
  have hH := World.alloc_heap_new W (.cells cs 3)
  refine ⟨by simp, fun i hi => ?_, fun i => ?_, cs, hH⟩
  · simp only [World.cell?, hH]
    have : cs[i]? = some (.int .i64 ((a i : Nat) : Int)) := by rw [← Array.getElem?_toList, hs]; simp [hi]
    simp [this]
  · unfold World.frozen?
    rw [hH]
    simp
theorem Below_drewN {B : Nat} {w W : World} (h : Below B w W) (k : Nat) : Below B w (W.drewN k) := ⟨h.os, h.tape, h.output, h.size, h.block⟩
/-- What demands returns: some numbers of units. -/
def IsDemands (w : World) (e : Ending) (w' : World) : Prop := ∃ (G n cp : Nat) (d : Nat → Nat), e = .returned (.slice (some ⟨G, 0, none⟩) n cp) ∧ 1 ≤ n ∧ n ≤ 8 ∧ (∀ i, i < n → d i ≤ 1000000) ∧ w.heap.size ≤ G ∧ IntsAt w' G n d ∧ Below w.heap.size w w'
def demF (f : Nat → Int) (i : Nat) : Nat := if 0 < pickN (f i) 3 then pickN (f i) 1000001 % 40 else pickN (f i) 1000001
theorem demF_le (f : Nat → Int) (i : Nat) : demF f i ≤ 1000000 := by
  have := pickN_lt (f i) (show 0 < 1000001 by omega)
  unfold demF; split <;> omega
set_option maxHeartbeats 2000000 in
theorem demands_any (p : Option Addr) (n c : Nat) (f : Nat → Int) (w : World) (hin : IntsIn w p n f) : Calls Try.prog 11 #[.slice p n c] w (IsDemands w) := by
  have hn := hin.small
  unfold maxLen at hn
  have HP := Lib.hid hin
  clear hin
  obtain ⟨i0, hi, hz0, hz1, hz2⟩ := info_parts Try.infoInt
  go_enter Try.func11, Try.ntmps11
  go_wp2_with fail
  go_loopw [3, 4] (fun v i wr => ∃ k : Nat, k ≤ n ∧ k ≤ 8 ∧ i = .int .i64 k ∧ wr.ownsRow w.heap.size 3 1 v k ((List.range k).map fun i => .int .i64 ((demF f i : Nat) : Int)) ∧ Below w.heap.size w wr) (fun _ i _ => n - (intOf i).toNat)
  case atStart => exact ⟨0, by omega, by omega, rfl, World.ownsRow_nil _ _ _ _, Below.refl _ _⟩
  case round =>
    obtain ⟨k, hk, hk8, rfl, hrow, hB⟩ := hrel
    by_cases hlt : k < n
    · by_cases hlt8 : k < 8
      · obtain ⟨bl, ol, rfl, hbl, hcl⟩ := HP.out.cell k hlt
        have hbd := HP.out.bd k hlt
        have c1 : wr.cell? ⟨bl, ol + k, none⟩ = some (.int .i64 (f k)) := (hB.cell (p := ⟨bl, ol + k, none⟩) hbl).trans (hcl k hlt)
        have p1 := pickN_lt (f k) (show 0 < 1000001 by omega)
        have p2 := pickN_lt (f k) (show 0 < 3 by omega)
        have HD : Hid (demF f k = if 0 < pickN (f k) 3 then pickN (f k) 1000001 % 40 else pickN (f k) 1000001) := by unfold demF; rfl
        obtain ⟨u, hu⟩ : ∃ u, pickN (f k) 1000001 = u := ⟨_, rfl⟩
        obtain ⟨v, hv⟩ : ∃ v, pickN (f k) 3 = v := ⟨_, rfl⟩
        have q1 := fun W => pick_any (f k) 1000001 1000001 W rfl hbd.1 hbd.2 (by omega) (by omega)
        have q2 := fun W => pick_any (f k) 3 3 W rfl hbd.1 hbd.2 (by omega) (by omega)
        rw [hu] at p1 q1 HD
        rw [hv] at p2 q2 HD
        have Q1 := Lib.hid q1
        have Q2 := Lib.hid q2
        clear hcl q1 q2 hu hv
        by_cases h3 : 0 < v
        · have hd2 : demF f k = u % 40 := by rw [HD.out, if_pos h3]
          have HD2 := Lib.hid hd2
          clear hd2
          go_wp2_with fail
          refine (Q1.out _).mono ?_
          rintro e w1 ⟨rfl, rfl⟩
          go_wp2_with fail
          refine (Q2.out _).mono ?_
          rintro e w1 ⟨rfl, rfl⟩
          go_wp2_with (at_builtin; refine wpList_append_own _ rfl _ _ 22 rfl w.heap.size 3 i0 (.int .i64 0) 1 8 Try.underlying22 hi hz0 hz1 hz2 rfl (by decide) _ _ _ rfl (hrow.alloc _) ⟨wr.heap.size, 0, none⟩ 1 1 [.int .i64 _] rfl rfl (cell_one_new _ _ _) (by simp [Value.oneCell']) (by unfold maxLen; omega) (by omega) (by have := hB.size; simp; omega) ?_; intro v' w1 hown' hgrow _; obtain ⟨g', cap', rfl⟩ := ownsRow_succ hown')
          have hbb := own_grown_below hB.size hB hrow hgrow
          refine ⟨⟨k + 1, by omega, by omega, by go_num, ?_, hbb⟩, by simp [intOf]; omega⟩
          rw [List.range_succ, List.map_append]
          simpa [HD2.out] using hown'
        · have hd2 : demF f k = u := by rw [HD.out, if_neg h3]
          have HD2 := Lib.hid hd2
          clear hd2
          go_wp2_with fail
          refine (Q1.out _).mono ?_
          rintro e w1 ⟨rfl, rfl⟩
          go_wp2_with fail
          refine (Q2.out _).mono ?_
          rintro e w1 ⟨rfl, rfl⟩
          go_wp2_with (at_builtin; refine wpList_append_own _ rfl _ _ 22 rfl w.heap.size 3 i0 (.int .i64 0) 1 8 Try.underlying22 hi hz0 hz1 hz2 rfl (by decide) _ _ _ rfl (hrow.alloc _) ⟨wr.heap.size, 0, none⟩ 1 1 [.int .i64 _] rfl rfl (cell_one_new _ _ _) (by simp [Value.oneCell']) (by unfold maxLen; omega) (by omega) (by have := hB.size; simp; omega) ?_; intro v' w1 hown' hgrow _; obtain ⟨g', cap', rfl⟩ := ownsRow_succ hown')
          have hbb := own_grown_below hB.size hB hrow hgrow
          refine ⟨⟨k + 1, by omega, by omega, by go_num, ?_, hbb⟩, by simp [intOf]; omega⟩
          rw [List.range_succ, List.map_append]
          simpa [HD2.out] using hown'
      · skip
        have hk0 : 1 ≤ k := by omega
        obtain ⟨k', rfl⟩ : ∃ k', k = k' + 1 := ⟨k - 1, by omega⟩
        obtain ⟨g', cap', rfl⟩ := ownsRow_succ hrow
        have hz : ((((k' + 1 : Nat) : Int)) == 0) = false := by simp; omega
        have hz2 : (((k' : Int) + 1) == 0) = false := by simp; omega
        go_wp2_with fail
        go_ret
        have hat := IntsAt.of_own (a := demF f) hrow
        exact ⟨g', k' + 1, cap', demF f, rfl, by omega, by omega, fun i _ => demF_le f i, hat.2, hat.1, hB⟩
    · obtain rfl : k = n := by omega
      rcases Nat.eq_zero_or_pos k with rfl | hkp
      · have hv : ∃ r c', u3 = .slice r 0 c' := by
          rcases hrow.2 with ⟨h, _⟩ | ⟨g, cap, cur, h, _⟩
          · exact ⟨_, _, h⟩
          · exact ⟨_, _, h⟩
        obtain ⟨r, c', rfl⟩ := hv
        go_wp2_with fail
        go_ret
        refine ⟨wr.heap.size, 1, 1, fun _ => 0, rfl, by omega, by omega, fun i _ => Nat.zero_le _, hB.size, ?_, hB.alloc hB.size _⟩
        exact IntsAt.new (n := 1) (a := fun _ => 0) wr #[.int .i64 0] rfl
      · skip
        have hk0 : 1 ≤ k := by omega
        obtain ⟨k', rfl⟩ : ∃ k', k = k' + 1 := ⟨k - 1, by omega⟩
        obtain ⟨g', cap', rfl⟩ := ownsRow_succ hrow
        have hz : ((((k' + 1 : Nat) : Int)) == 0) = false := by simp; omega
        have hz2 : (((k' : Int) + 1) == 0) = false := by simp; omega
        go_wp2_with fail
        go_ret
        have hat := IntsAt.of_own (a := demF f) hrow
        exact ⟨g', k' + 1, cap', demF f, rfl, by omega, by omega, fun i _ => demF_le f i, hat.2, hat.1, hB⟩
/-- The sum of a slice. -/
theorem sumTo_bd (a : Nat → Nat) : ∀ n, (∀ i, i < n → a i ≤ 1000000) → sumTo a n ≤ n * 1000000
  | 0, _ => by simp [sumTo]
  | n + 1, h => by have h1 := sumTo_bd a n (fun i hi => h i (by omega)); have h2 := h n (by omega); simp only [sumTo]; omega
set_option maxHeartbeats 1000000 in
theorem sum_any (p : Option Addr) (n c : Nat) (a : Nat → Nat) (w : World) (hn : n ≤ 8) (hr : ReadsI w p n (fun i => ((a i : Nat) : Int))) (ha : ∀ i, i < n → a i ≤ 1000000) :
    Calls Try.prog 14 #[.slice p n c] w fun e w' => e = .returned (.int .i64 (sumTo a n : Nat)) ∧ w = w' := by
  have HR := Lib.hid hr
  clear hr
  go_enter Try.func14, Try.ntmps14
  go_wp2_with fail
  go_loop [3, 4] (fun v i => ∃ k : Nat, k ≤ n ∧ i = .int .i64 k ∧ v = .int .i64 (sumTo a k : Nat)) (fun _ i => n - (intOf i).toNat)
  case atStart => exact ⟨0, by omega, rfl, rfl⟩
  case round =>
    obtain ⟨k, hk, rfl, rfl⟩ := hrel
    have hb := sumTo_bd a k (fun i hi => ha i (by omega))
    by_cases hlt : k < n
    · obtain ⟨b, off, rfl, hc⟩ := HR.out k hlt
      have c1 := hc k hlt
      have hak := ha k hlt
      have HS : Hid (sumTo a (k + 1) = sumTo a k + a k) := rfl
      clear hc
      go_wp2
      go_round
      case rel => exact ⟨k + 1, by omega, by go_num, by rw [HS.out]; go_num⟩
      case measure => simp [intOf]; omega
    · obtain rfl : k = n := by omega
      go_wp2
      go_ret
      exact ⟨rfl, rfl⟩
set_option maxHeartbeats 1000000 in
/-- Two equal slices. -/
theorem ints_yes (p q : Option Addr) (n m c d : Nat) (f g : Nat → Int) (w : World) (hn : n ≤ 1000) (hmn : n = m) (hp : ReadsI w p n f) (hq : ReadsI w q n g) (h : ∀ i, i < n → f i = g i) :
    Calls Try.prog 20 #[.slice p n c, .slice q m d] w fun e w' => e = .returned (.bool true) ∧ Below w.heap.size w w' := by
  subst hmn
  have HP := Lib.hid hp
  have HQ := Lib.hid hq
  have HH := Lib.hid h
  clear hp hq h
  go_enter Try.func20, Try.ntmps20
  go_wp2_with fail
  go_loopw [5] (fun i wr => ∃ k : Nat, k ≤ n ∧ i = .int .i64 k ∧ Below w.heap.size w wr) (fun i _ => n - (intOf i).toNat)
  case atStart => exact ⟨0, by omega, rfl, Below.refl _ _⟩
  case round =>
    obtain ⟨k, hk, rfl, hB⟩ := hrel
    by_cases hlt : k < n
    · obtain ⟨b, off, rfl, hc⟩ := HP.out.below hB k hlt
      obtain ⟨b', off', rfl, hc'⟩ := HQ.out.below hB k hlt
      have c1 := hc k hlt
      have c2 := hc' k hlt
      rw [← HH.out k hlt] at c2
      have k0 : (0 : Int) ≤ (k : Int) := by omega
      have k1 : (k : Int) < (n : Int) := by omega
      clear hc hc'
      go_wp2_with fail
      go_quiet (fail)
      go_wp2
      exact ⟨⟨k + 1, by omega, by go_num, Below_drewN hB _⟩, by simp [intOf]; omega⟩
    · obtain rfl : k = n := by omega
      go_wp2
      go_ret
      exact ⟨rfl, hB⟩
theorem range_ints (a : Nat → Nat) (n : Nat) : ∀ u ∈ ((List.range n).map fun i => Value.int .i64 ((a i : Nat) : Int)), u.oneCell' = true := by
  intro u hu
  obtain ⟨i, _, rfl⟩ := List.mem_map.1 hu
  rfl
theorem news_of_cells {W : World} {b off n : Nat} {a : Nat → Nat} (h : ∀ j, j < n → W.cell? ⟨b, off + j, none⟩ = some (.int .i64 ((a j : Nat) : Int))) :
    ∀ (j : Nat) (u : Value), ((List.range n).map fun i => Value.int .i64 ((a i : Nat) : Int))[j]? = some u → W.cell? ((⟨b, off, none⟩ : Addr).add j) = some u := by
  intro j u hu
  have hj : j < n := by
    rcases Nat.lt_or_ge j n with h | h
    · exact h
    · rw [List.getElem?_eq_none (by simp; omega)] at hu; cases hu
  rw [addr_add, h j hj]
  simpa [hj] using hu
theorem IntsAt.of_form {base n : Nat} {v : Value} {W : World} {a : Nat → Nat} (hn : 1 ≤ n) (h : W.ownsRow base 3 1 v n ((List.range n).map fun i => Value.int .i64 ((a i : Nat) : Int))) : ∃ G cp, v = .slice (some ⟨G, 0, none⟩) n cp ∧ IntsAt W G n a ∧ base ≤ G := by
  obtain ⟨k, rfl⟩ : ∃ k, n = k + 1 := ⟨n - 1, by omega⟩
  obtain ⟨G, cp, rfl⟩ := ownsRow_succ h
  exact ⟨G, cp, rfl, IntsAt.of_own h⟩
set_option maxHeartbeats 1000000 in
theorem clone_any (p : Option Addr) (n c : Nat) (a : Nat → Nat) (w : World) (hn1 : 1 ≤ n) (hn : n ≤ 1000) (hr : ReadsI w p n (fun i => ((a i : Nat) : Int))) :
    Calls Try.prog 32 #[.slice p n c] w fun e w' => (∃ G cp, e = .returned (.slice (some ⟨G, 0, none⟩) n cp) ∧ w.heap.size ≤ G ∧ IntsAt w' G n a) ∧ Below w.heap.size w w' := by
  obtain ⟨i0, hi, hz0, hz1, hz2⟩ := info_parts Try.infoInt
  obtain ⟨b, off, rfl, hc⟩ := hr 0 (by omega)
  have hneq := fun W => Lib.run_eql_slice_nil (P := Try.prog) W 22 3 (some ⟨b, off, none⟩) n c 0 0 Try.underlying22
  have HN := news_of_cells (W := w.alloc (.cells #[] 3)) (b := b) (off := off) (n := n) (a := a) (fun j hj => by
    have h0 := hc j hj
    have hlt : b < w.heap.size := by
      unfold World.cell? at h0
      cases hb : w.heap[b]? with
      | none => simp [hb] at h0
      | some o => exact (Array.getElem?_eq_some_iff.1 hb).1
    exact (((Below.refl w.heap.size w).alloc (Nat.le_refl _) _).cell (p := ⟨b, off + j, none⟩) hlt).trans h0)
  have HNN := Lib.hid HN
  clear hr hc HN
  go_enter Try.func32, Try.ntmps32
  have hown : (w.alloc (.cells #[] 3)).ownsRow w.heap.size 3 1 (.slice (some ⟨w.heap.size, 0, none⟩) 0 0) 0 [] := World.ownsRow_lit w #[] 0 (Nat.le_refl _) (by decide) rfl
  go_wp2_with (at_builtin; refine wpList_append_own _ rfl _ _ 22 rfl w.heap.size 3 i0 (.int .i64 0) 1 8 Try.underlying22 hi hz0 hz1 hz2 rfl (by decide) _ 0 [] rfl hown ⟨b, off, none⟩ n c ((List.range n).map fun i => Value.int .i64 ((a i : Nat) : Int)) rfl (by simp) HNN.out (range_ints a n) (by unfold maxLen; omega) (by omega) (by simp) ?_; intro v' w1 hown' hgrow _)
  rw [List.nil_append, Nat.zero_add] at hown'
  obtain ⟨G, cp, rfl, hat, hG⟩ := IntsAt.of_form hn1 hown'
  go_wp2
  go_ret
  exact ⟨⟨G, cp, rfl, hG, hat⟩, ((Below.refl w.heap.size w).alloc (Nat.le_refl _) _).grown hgrow (by simp) (fun j e => by cases e; exact Nat.le_refl _)⟩
end Go.Proofs.Ytdodhfodojjfeaa
