/- Chapter 36's fixed examples hold. No condition. -/
import Derived.Test.YtdodhfodojjfeaaQuotaRound
namespace Go.Proofs.Ytdodhfodojjfeaa
open Go Go.RowKit Go.Shelf
theorem div_eq {n : Nat} {d a : Nat → Nat} {c t : Nat} (hn : 0 < n) (h : DivIs n d c t a) (L r : Nat) (hr : r < cnt d n t L n) (hc : sumTo (fun i => min (d i) L) n + r = c) : ∀ i, i < n → a i = share d n t L r i := by
  rcases h with ⟨hs, _⟩ | ⟨L', r', hr', hc', ha⟩
  · have := next_lev hn hr hc; omega
  · obtain ⟨rfl, rfl⟩ := lev_unique hn hr hc hr' hc'
    exact ha
theorem div_full {n : Nat} {d a : Nat → Nat} {c t : Nat} (hn : 0 < n) (h : DivIs n d c t a) (hs : sumTo d n ≤ c) : ∀ i, i < n → a i = d i := by
  rcases h with ⟨_, ha⟩ | ⟨L', r', hr', hc', ha⟩
  · exact ha
  · have := next_lev hn hr' hc'; omega
set_option maxRecDepth 100000 in
set_option maxHeartbeats 2000000 in
theorem divide_bad (c turn : Int) (p : Option Addr) (n cp : Nat) (f : Nat → Int) (w : World) (hn : n ≤ maxLen) (hr : ReadsI w p n f) (h : ¬ ((0 ≤ c ∧ c ≤ 1000000) ∧ demandsB n f ∧ 0 ≤ turn ∧ turn < n)) :
    Calls Try.prog 13 #[.int .i64 c, .slice p n cp, .int .i64 turn] w fun e w' => e = .returned (.tuple #[.slice none 0 0, .int .i64 360]) ∧ Below w.heap.size w w' := by
  have hB : Below w.heap.size w ((w.alloc (.cells #[.int .i64 c] 3)).alloc (.cells #[.slice p n cp] 22)) := ((Below.refl w.heap.size w).alloc (Nat.le_refl _) _).alloc (by simp) _
  have HA := Lib.hid (areDemands_any p n cp f ((w.alloc (.cells #[.int .i64 c] 3)).alloc (.cells #[.slice p n cp] 22)) hn (hr.below hB))
  have HH := Lib.hid h
  clear hr h
  unfold maxLen at hn
  go_enter Try.func13, Try.ntmps13
  go_wp2_with fail
  refine (isUnits_any _ _).mono ?_
  rintro e w1 ⟨rfl, rfl⟩
  cases hu : unitB c with
  | false =>
    go_wp2_with fail
    go_ret2
    exact ⟨rfl, hB⟩
  | true =>
    have h1 := unitB_iff.1 hu
    go_wp2_with fail
    refine HA.out.mono ?_
    rintro e w1 ⟨⟨r, rfl, hr3⟩, rfl⟩
    cases r with
    | false =>
      go_wp2_with fail
      go_ret2
      exact ⟨rfl, hB⟩
    | true =>
      have h3 := hr3.1 rfl
      clear hr3
      have hn8 := h3.2.1
      have H3 := Lib.hid h3
      clear h3
      by_cases h4 : turn < 0
      · go_wp2_with fail
        go_ret2
        exact ⟨rfl, hB⟩
      · have h5 : (n : Int) ≤ turn := by
          by_cases h5 : turn < n
          · exact absurd ⟨h1, H3.out, by omega, h5⟩ HH.out
          · omega
        go_wp2_with fail
        go_ret2
        exact ⟨rfl, hB⟩
def d299 (i : Nat) : Nat := if i = 0 then 2 else 9
def lst (l : List Nat) (i : Nat) : Nat := l.getD i 0
theorem three {a b : Nat → Nat} (h : ∀ i, i < 3 → a i = b i) (c : Nat → Nat) (e : ∀ i, i < 3 → b i = c i) : ∀ i, i < 3 → c i = a i := fun i hi => by rw [h i hi, e i hi]
theorem divide_c (c t L r : Nat) (l : List Nat) (B : Nat) (W : World) (hc : c ≤ 1000000) (ht : t < 3) (hB : IntsAt W B 3 d299)
    (hl : (r < cnt d299 3 t L 3 ∧ sumTo (fun i => min (d299 i) L) 3 + r = c ∧ ∀ i, i < 3 → share d299 3 t L r i = lst l i) ∨ (sumTo d299 3 ≤ c ∧ ∀ i, i < 3 → d299 i = lst l i)) :
    Calls Try.prog 13 #[.int .i64 (c : Nat), .slice (some ⟨B, 0, none⟩) 3 3, .int .i64 (t : Nat)] W fun e w' =>
      ∃ G, e = .returned (.tuple #[.slice (some ⟨G, 0, none⟩) 3 3, .int .i64 0]) ∧ IntsAt w' G 3 (lst l) ∧ Below W.heap.size W w' := by
  refine (divide_any c 3 t d299 _ 3 W hc (by omega) (by omega) ht (fun i _ => by unfold d299; split <;> omega) hB.reads).mono fun e w' ⟨G, a, h1, _, h3, h4, h5⟩ => ⟨G, h1, h3.congr ?_, h5⟩
  intro i hi
  rcases hl with ⟨h6, h7, h8⟩ | ⟨h6, h7⟩
  · rw [div_eq (by omega) h4 L r h6 h7 i hi, h8 i hi]
  · rw [div_full (by omega) h4 h6 i hi, h7 i hi]
theorem div_round {sv : Nat → Nat} (h : DivIs 2 (fun i => min (lst [0, 0] i + lst [1, 9] i) 5) 4 0 sv) : ∀ i, i < 2 → sv i = lst [1, 3] i := fun i hi => by
  rw [div_eq (by omega) h 3 0 (by decide) (by decide) i hi]
  exact (by decide : ∀ j : Fin 2, share (fun i => min (lst [0, 0] i + lst [1, 9] i) 5) 2 0 3 0 j.val = lst [1, 3] j.val) ⟨i, hi⟩
theorem round_c (B C : Nat) (W : World) (hB : IntsAt W B 2 (lst [0, 0])) (hC : IntsAt W C 2 (lst [1, 9])) :
    Calls Try.prog 16 #[.agg #[.int .i64 4, .int .i64 0, .int .i64 5, .slice (some ⟨B, 0, none⟩) 2 2], .slice (some ⟨C, 0, none⟩) 2 2] W fun e w' =>
      ∃ G1 G2 G3 c1 c2 c3, e = .returned (.tuple #[.agg #[.int .i64 4, .int .i64 1, .int .i64 5, .slice (some ⟨G1, 0, none⟩) 2 c1], .slice (some ⟨G2, 0, none⟩) 2 c2, .slice (some ⟨G3, 0, none⟩) 2 c3, .int .i64 0]) ∧
        IntsAt w' G1 2 (lst [0, 2]) ∧ IntsAt w' G2 2 (lst [1, 3]) ∧ IntsAt w' G3 2 (lst [0, 4]) ∧ Below W.heap.size W w' := by
  refine (round_any 4 0 5 2 2 2 _ _ (lst [0, 0]) (lst [1, 9]) W (by omega) (by omega) (by omega) (by omega) (by omega) ?_ ?_ hB.reads hC.reads).mono ?_
  · exact fun i hi => (by decide : ∀ j : Fin 2, lst [0, 0] j.val ≤ 5) ⟨i, hi⟩
  · exact fun i hi => (by decide : ∀ j : Fin 2, lst [1, 9] j.val ≤ 1000000) ⟨i, hi⟩
  · rintro e w' ⟨G1, G2, G3, c1, c2, c3, sv, rfl, hd, h1, h2, h3, _, h5⟩
    have hsv := div_round hd
    refine ⟨G1, G2, G3, c1, c2, c3, rfl, h1.congr fun i hi => ?_, h2.congr fun i hi => (hsv i hi).symm, h3.congr fun i hi => ?_, h5⟩
    · rw [hsv i hi]
      exact (by decide : ∀ j : Fin 2, lst [0, 2] j.val = min (lst [0, 0] j.val + lst [1, 9] j.val) 5 - lst [1, 3] j.val) ⟨i, hi⟩
    · exact (by decide : ∀ j : Fin 2, lst [0, 4] j.val = lst [0, 0] j.val + lst [1, 9] j.val - min (lst [0, 0] j.val + lst [1, 9] j.val) 5) ⟨i, hi⟩
theorem ints_c (G : Nat) (n k : Nat) (l : List Nat) (c : Nat) (W : World) (B : Nat) (hn : n ≤ 8) (hG : IntsAt W G n (lst l)) (hB : IntsAt W B n (lst l)) :
    Calls Try.prog 20 #[.slice (some ⟨G, 0, none⟩) n c, .slice (some ⟨B, 0, none⟩) n k] W fun e w' => e = .returned (.bool true) ∧ Below W.heap.size W w' :=
  ints_yes _ _ n n c k _ _ W (by omega) rfl hG.reads hB.reads (fun i _ => rfl)
theorem Below_call {w W W' : World} (hB : Below w.heap.size w W) (o : Obj) (hb : Below (W.alloc o).heap.size (W.alloc o) W') : Below w.heap.size w W' :=
  (hB.alloc hB.size o).trans (hb.mono (by rw [World.size_alloc]; have := hB.size; omega))
set_option maxRecDepth 100000 in
set_option maxHeartbeats 4000000 in
theorem sane_any (w : World) : Calls Try.prog 10 #[] w fun e w' => e = .returned (.bool true) ∧ Below w.heap.size w w' := by
  go_enter Try.func10, Try.ntmps10
  go_wp2_with fail
  refine (divide_c 10 0 4 0 [2, 4, 4] _ _ (by omega) (by omega) (IntsAt.new (n := 3) (a := d299) w #[.int .i64 2, .int .i64 9, .int .i64 9] rfl) (.inl ⟨by decide, by decide, fun i hi => (by decide : ∀ j : Fin 3, share d299 3 0 4 0 j.val = lst [2, 4, 4] j.val) ⟨i, hi⟩⟩)).mono ?_
  rintro e w1 ⟨Gia, rfl, ia, hb⟩
  have hB1 := Below_call (Below.refl w.heap.size w) _ hb
  clear hb
  go_wp2_with fail
  refine (divide_c 11 0 4 1 [2, 5, 4] _ _ (by omega) (by omega) (IntsAt.new (n := 3) (a := d299) w1 #[.int .i64 2, .int .i64 9, .int .i64 9] rfl) (.inl ⟨by decide, by decide, fun i hi => (by decide : ∀ j : Fin 3, share d299 3 0 4 1 j.val = lst [2, 5, 4] j.val) ⟨i, hi⟩⟩)).mono ?_
  rintro e w2 ⟨Gib, rfl, ib, hb⟩
  have hB2 := Below_call (hB1) _ hb
  replace ia := (ia.alloc _).below hb
  clear hb hB1
  go_wp2_with fail
  refine (divide_c 11 2 4 1 [2, 4, 5] _ _ (by omega) (by omega) (IntsAt.new (n := 3) (a := d299) w2 #[.int .i64 2, .int .i64 9, .int .i64 9] rfl) (.inl ⟨by decide, by decide, fun i hi => (by decide : ∀ j : Fin 3, share d299 3 2 4 1 j.val = lst [2, 4, 5] j.val) ⟨i, hi⟩⟩)).mono ?_
  rintro e w3 ⟨Gic, rfl, ic, hb⟩
  have hB3 := Below_call (hB2) _ hb
  replace ia := (ia.alloc _).below hb
  replace ib := (ib.alloc _).below hb
  clear hb hB2
  go_wp2_with fail
  refine (divide_c 100 1 0 0 [2, 9, 9] _ _ (by omega) (by omega) (IntsAt.new (n := 3) (a := d299) w3 #[.int .i64 2, .int .i64 9, .int .i64 9] rfl) (.inr ⟨by decide, fun i hi => (by decide : ∀ j : Fin 3, d299 j.val = lst [2, 9, 9] j.val) ⟨i, hi⟩⟩)).mono ?_
  rintro e w4 ⟨Gid, rfl, id, hb⟩
  have hB4 := Below_call (hB3) _ hb
  replace ia := (ia.alloc _).below hb
  replace ib := (ib.alloc _).below hb
  replace ic := (ic.alloc _).below hb
  clear hb hB3
  go_wp2_with fail
  refine (divide_bad 1 0 none 0 0 (fun _ => 0) _ (by decide) (fun i hi => by omega) (fun h => by have := h.2.1.1; omega)).mono ?_
  rintro e w5 ⟨rfl, hb⟩
  have hB5 := hB4.trans (hb.mono hB4.size)
  replace ia := ia.below hb
  replace ib := ib.below hb
  replace ic := ic.below hb
  replace id := id.below hb
  clear hb hB4
  have hq := IntsAt.new (n := 2) (a := lst [0, 0]) w5 #[.int .i64 0, .int .i64 0] rfl
  have hqb : QBox ((w5.alloc (.cells #[.int .i64 0, .int .i64 0] 3)).alloc (.cells #[.int .i64 4, .int .i64 0, .int .i64 5, .slice (some ⟨w5.heap.size, 0, none⟩) 2 2] 35)) (w5.heap.size + 1) 4 0 5 (.slice (some ⟨w5.heap.size, 0, none⟩) 2 2) := by
    have := QBox.new (w5.alloc (.cells #[.int .i64 0, .int .i64 0] 3)) 4 0 5 (.slice (some ⟨w5.heap.size, 0, none⟩) 2 2)
    rwa [World.size_alloc] at this
  have hB6 := (hB5.alloc hB5.size (.cells #[.int .i64 0, .int .i64 0] 3)).alloc (by have := hB5.size; simp; omega) (.cells #[.int .i64 4, .int .i64 0, .int .i64 5, .slice (some ⟨w5.heap.size, 0, none⟩) 2 2] 35)
  replace ia := (ia.alloc (.cells #[.int .i64 0, .int .i64 0] 3)).alloc (.cells #[.int .i64 4, .int .i64 0, .int .i64 5, .slice (some ⟨w5.heap.size, 0, none⟩) 2 2] 35)
  replace ib := (ib.alloc (.cells #[.int .i64 0, .int .i64 0] 3)).alloc (.cells #[.int .i64 4, .int .i64 0, .int .i64 5, .slice (some ⟨w5.heap.size, 0, none⟩) 2 2] 35)
  replace ic := (ic.alloc (.cells #[.int .i64 0, .int .i64 0] 3)).alloc (.cells #[.int .i64 4, .int .i64 0, .int .i64 5, .slice (some ⟨w5.heap.size, 0, none⟩) 2 2] 35)
  replace id := (id.alloc (.cells #[.int .i64 0, .int .i64 0] 3)).alloc (.cells #[.int .i64 4, .int .i64 0, .int .i64 5, .slice (some ⟨w5.heap.size, 0, none⟩) 2 2] 35)
  replace hq := hq.alloc (.cells #[.int .i64 4, .int .i64 0, .int .i64 5, .slice (some ⟨w5.heap.size, 0, none⟩) 2 2] 35)
  clear hB5
  go_wp2_with fail
  obtain ⟨w6, hw6⟩ : ∃ w6, (w5.alloc (.cells #[.int .i64 0, .int .i64 0] 3)).alloc (.cells #[.int .i64 4, .int .i64 0, .int .i64 5, .slice (some ⟨w5.heap.size, 0, none⟩) 2 2] 35) = w6 := ⟨_, rfl⟩
  have hz : w6.heap.size = w5.heap.size + 2 := by rw [← hw6]; simp
  rw [hw6] at hqb hB6 ia ib ic id hq ⊢
  clear hw6
  have hC : IntsAt (w6.alloc (.cells #[.int .i64 1, .int .i64 9] 3)) (w5.heap.size + 1 + 1) 2 (lst [1, 9]) := by
    have := IntsAt.new (n := 2) (a := lst [1, 9]) w6 #[.int .i64 1, .int .i64 9] rfl
    rw [hz] at this; exact this
  refine (round_c _ _ _ (hq.alloc _) hC).mono ?_
  rintro e w7 ⟨G1, G2, G3, c1, c2, c3, rfl, i1, i2, i3, hb⟩
  have hB7 := Below_call hB6 _ hb
  replace hqb := (hqb.alloc (.cells #[.int .i64 1, .int .i64 9] 3)).below hb
  replace hq := (hq.alloc (.cells #[.int .i64 1, .int .i64 9] 3)).below hb
  replace ia := (ia.alloc (.cells #[.int .i64 1, .int .i64 9] 3)).below hb
  replace ib := (ib.alloc (.cells #[.int .i64 1, .int .i64 9] 3)).below hb
  replace ic := (ic.alloc (.cells #[.int .i64 1, .int .i64 9] 3)).below hb
  replace id := (id.alloc (.cells #[.int .i64 1, .int .i64 9] 3)).below hb
  clear hb hB6 hC hz
  go_wp2_with fail
  have hN : QBox (w7.alloc (.cells #[.int .i64 4, .int .i64 1, .int .i64 5, .slice (some ⟨G1, 0, none⟩) 2 c1] 35)) w7.heap.size 4 1 5 (.slice (some ⟨G1, 0, none⟩) 2 c1) := QBox.new w7 4 1 5 (.slice (some ⟨G1, 0, none⟩) 2 c1)
  have hB8 := hB7.alloc hB7.size (.cells #[.int .i64 4, .int .i64 1, .int .i64 5, .slice (some ⟨G1, 0, none⟩) 2 c1] 35)
  replace hqb := hqb.alloc (.cells #[.int .i64 4, .int .i64 1, .int .i64 5, .slice (some ⟨G1, 0, none⟩) 2 c1] 35)
  replace ia := ia.alloc (.cells #[.int .i64 4, .int .i64 1, .int .i64 5, .slice (some ⟨G1, 0, none⟩) 2 c1] 35)
  replace ib := ib.alloc (.cells #[.int .i64 4, .int .i64 1, .int .i64 5, .slice (some ⟨G1, 0, none⟩) 2 c1] 35)
  replace ic := ic.alloc (.cells #[.int .i64 4, .int .i64 1, .int .i64 5, .slice (some ⟨G1, 0, none⟩) 2 c1] 35)
  replace id := id.alloc (.cells #[.int .i64 4, .int .i64 1, .int .i64 5, .slice (some ⟨G1, 0, none⟩) 2 c1] 35)
  replace i1 := i1.alloc (.cells #[.int .i64 4, .int .i64 1, .int .i64 5, .slice (some ⟨G1, 0, none⟩) 2 c1] 35)
  replace i2 := i2.alloc (.cells #[.int .i64 4, .int .i64 1, .int .i64 5, .slice (some ⟨G1, 0, none⟩) 2 c1] 35)
  replace i3 := i3.alloc (.cells #[.int .i64 4, .int .i64 1, .int .i64 5, .slice (some ⟨G1, 0, none⟩) 2 c1] 35)
  replace hq := hq.alloc (.cells #[.int .i64 4, .int .i64 1, .int .i64 5, .slice (some ⟨G1, 0, none⟩) 2 c1] 35)
  obtain ⟨N, hNe⟩ : ∃ N, w7.heap.size = N := ⟨_, rfl⟩
  obtain ⟨w8, hw8⟩ : ∃ w8, w7.alloc (.cells #[.int .i64 4, .int .i64 1, .int .i64 5, .slice (some ⟨G1, 0, none⟩) 2 c1] 35) = w8 := ⟨_, rfl⟩
  have hz8 : (w7.alloc (.cells #[.int .i64 4, .int .i64 1, .int .i64 5, .slice (some ⟨G1, 0, none⟩) 2 c1] 35)).heap.size = N + 1 := by rw [World.size_alloc, hNe]
  rw [hNe] at hN ⊢
  rw [hw8] at hz8 hN hB8 hqb ia ib ic id i1 i2 i3 hq ⊢
  clear hw8 hNe hB7
  have h8 := IntsAt.new (n := 3) (a := lst [2, 4, 4]) w8 #[.int .i64 2, .int .i64 4, .int .i64 4] rfl
  rw [hz8] at h8
  refine (ints_c _ 3 _ [2, 4, 4] _ _ _ (by omega) (ia.alloc _) h8).mono ?_
  clear h8 hz8
  rintro e w9 ⟨rfl, hb⟩
  have hB9 := Below_call hB8 _ hb
  replace hqb := (hqb.alloc _).below hb
  replace hN := (hN.alloc _).below hb
  replace ia := (ia.alloc _).below hb
  replace ib := (ib.alloc _).below hb
  replace ic := (ic.alloc _).below hb
  replace id := (id.alloc _).below hb
  replace i1 := (i1.alloc _).below hb
  replace i2 := (i2.alloc _).below hb
  replace i3 := (i3.alloc _).below hb
  replace hq := (hq.alloc _).below hb
  clear hb hB8
  go_wp2_with fail
  refine (ints_c _ 3 _ [2, 5, 4] _ _ _ (by omega) (ib.alloc _) (IntsAt.new (n := 3) (a := lst [2, 5, 4]) w9 #[.int .i64 2, .int .i64 5, .int .i64 4] rfl)).mono ?_
  rintro e w10 ⟨rfl, hb⟩
  have hB10 := Below_call hB9 _ hb
  replace hqb := (hqb.alloc _).below hb
  replace hN := (hN.alloc _).below hb
  replace ia := (ia.alloc _).below hb
  replace ib := (ib.alloc _).below hb
  replace ic := (ic.alloc _).below hb
  replace id := (id.alloc _).below hb
  replace i1 := (i1.alloc _).below hb
  replace i2 := (i2.alloc _).below hb
  replace i3 := (i3.alloc _).below hb
  replace hq := (hq.alloc _).below hb
  clear hb hB9
  go_wp2_with fail
  refine (ints_c _ 3 _ [2, 4, 5] _ _ _ (by omega) (ic.alloc _) (IntsAt.new (n := 3) (a := lst [2, 4, 5]) w10 #[.int .i64 2, .int .i64 4, .int .i64 5] rfl)).mono ?_
  rintro e w11 ⟨rfl, hb⟩
  have hB11 := Below_call hB10 _ hb
  replace hqb := (hqb.alloc _).below hb
  replace hN := (hN.alloc _).below hb
  replace ia := (ia.alloc _).below hb
  replace ib := (ib.alloc _).below hb
  replace ic := (ic.alloc _).below hb
  replace id := (id.alloc _).below hb
  replace i1 := (i1.alloc _).below hb
  replace i2 := (i2.alloc _).below hb
  replace i3 := (i3.alloc _).below hb
  replace hq := (hq.alloc _).below hb
  clear hb hB10
  go_wp2_with fail
  refine (ints_c _ 3 _ [2, 9, 9] _ _ _ (by omega) (id.alloc _) (IntsAt.new (n := 3) (a := lst [2, 9, 9]) w11 #[.int .i64 2, .int .i64 9, .int .i64 9] rfl)).mono ?_
  rintro e w12 ⟨rfl, hb⟩
  have hB12 := Below_call hB11 _ hb
  replace hqb := (hqb.alloc _).below hb
  replace hN := (hN.alloc _).below hb
  replace ia := (ia.alloc _).below hb
  replace ib := (ib.alloc _).below hb
  replace ic := (ic.alloc _).below hb
  replace id := (id.alloc _).below hb
  replace i1 := (i1.alloc _).below hb
  replace i2 := (i2.alloc _).below hb
  replace i3 := (i3.alloc _).below hb
  replace hq := (hq.alloc _).below hb
  clear hb hB11
  go_wp2_with fail
  refine (ints_c _ 2 _ [1, 3] _ _ _ (by omega) (i2.alloc _) (IntsAt.new (n := 2) (a := lst [1, 3]) w12 #[.int .i64 1, .int .i64 3] rfl)).mono ?_
  rintro e w13 ⟨rfl, hb⟩
  have hB13 := Below_call hB12 _ hb
  replace hqb := (hqb.alloc _).below hb
  replace hN := (hN.alloc _).below hb
  replace ia := (ia.alloc _).below hb
  replace ib := (ib.alloc _).below hb
  replace ic := (ic.alloc _).below hb
  replace id := (id.alloc _).below hb
  replace i1 := (i1.alloc _).below hb
  replace i2 := (i2.alloc _).below hb
  replace i3 := (i3.alloc _).below hb
  replace hq := (hq.alloc _).below hb
  clear hb hB12
  go_wp2_with fail
  refine (ints_c _ 2 _ [0, 4] _ _ _ (by omega) (i3.alloc _) (IntsAt.new (n := 2) (a := lst [0, 4]) w13 #[.int .i64 0, .int .i64 4] rfl)).mono ?_
  rintro e w14 ⟨rfl, hb⟩
  have hB14 := Below_call hB13 _ hb
  replace hqb := (hqb.alloc _).below hb
  replace hN := (hN.alloc _).below hb
  replace ia := (ia.alloc _).below hb
  replace ib := (ib.alloc _).below hb
  replace ic := (ic.alloc _).below hb
  replace id := (id.alloc _).below hb
  replace i1 := (i1.alloc _).below hb
  replace i2 := (i2.alloc _).below hb
  replace i3 := (i3.alloc _).below hb
  replace hq := (hq.alloc _).below hb
  clear hb hB13
  obtain ⟨n0, n1, n2, n3⟩ := hN.cells
  go_wp2_with fail
  refine (ints_c _ 2 _ [0, 2] _ _ _ (by omega) (i1.alloc _) (IntsAt.new (n := 2) (a := lst [0, 2]) w14 #[.int .i64 0, .int .i64 2] rfl)).mono ?_
  rintro e w15 ⟨rfl, hb⟩
  have hB15 := Below_call hB14 _ hb
  replace hqb := (hqb.alloc _).below hb
  replace hN := (hN.alloc _).below hb
  replace ia := (ia.alloc _).below hb
  replace ib := (ib.alloc _).below hb
  replace ic := (ic.alloc _).below hb
  replace id := (id.alloc _).below hb
  replace i1 := (i1.alloc _).below hb
  replace i2 := (i2.alloc _).below hb
  replace i3 := (i3.alloc _).below hb
  replace hq := (hq.alloc _).below hb
  clear hb hB14
  clear n0 n1 n2 n3
  obtain ⟨n0, n1, n2, n3⟩ := hN.cells
  obtain ⟨q0, q1, q2, q3⟩ := hqb.cells
  go_wp2_with fail
  refine (valid_any 4 0 5 _ 2 2 (fun i => ((lst [0, 0] i : Nat) : Int)) _ (by decide) hq.reads).mono ?_
  rintro e w16 ⟨he, hb⟩
  obtain rfl := he.yes ⟨by omega, by omega, ⟨by omega, by omega, fun i hi => by
    have := (by decide : ∀ j : Fin 2, lst [0, 0] j.val = 0) ⟨i, hi⟩
    show (0 : Int) ≤ ((lst [0, 0] i : Nat) : Int) ∧ ((lst [0, 0] i : Nat) : Int) ≤ 1000000
    rw [this]; omega⟩, by omega, by omega, fun i hi => by
    have := (by decide : ∀ j : Fin 2, lst [0, 0] j.val = 0) ⟨i, hi⟩
    show ((lst [0, 0] i : Nat) : Int) ≤ 5
    rw [this]; omega⟩
  have hB16 := hB15.trans (hb.mono hB15.size)
  clear hb hB15 he n0 n1 n2 n3 q0 q1 q2 q3
  go_wp2_with fail
  refine (valid_any 0 0 0 none 0 0 (fun _ => 0) _ (by decide) (fun i hi => by omega)).mono ?_
  rintro e w17 ⟨he, hb⟩
  obtain rfl := he.no (fun h => by have := h.2.2.1.1; omega)
  have hB17 := hB16.trans (hb.mono hB16.size)
  clear hb he hB16
  go_wp2_with fail
  go_ret
  exact ⟨rfl, hB17⟩
end Go.Proofs.Ytdodhfodojjfeaa
