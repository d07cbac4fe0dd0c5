/- Chapter 36's made returns a valid quota and rounds of arrivals. Conditions: numbers of 64 bits; slices that came in. -/
import Derived.Test.YtdodhfodojjfeaaLaw36Turns
import Derived.Test.YtdodhfodojjfeaaRoundHeld
import Derived.Deep.Matrix
import Derived.OwnWalkIn
namespace Go.Proofs.Ytdodhfodojjfeaa
open Go Go.RowKit Go.Shelf
theorem opIn_append_own {F : Fence} {n : Nat} {P : Program} {w : World} {o : Oper} {a : Act} {K : Act → World → Prop} {Q : Exit → Act → World → Prop} (s x : Operand) (t : TypeId)
    (hop : o.op = Op.call { callee := Callee.builtin Builtin.append, args := #[s, x], argTypes := #[t, t] })
    (base : Nat) (e : TypeId) (i : TypeInfo) (z : Value) (size bytes : Nat) (h1 : P.underlying t = some (.slice e)) (h2 : P.info? e = some i) (h3 : i.zero = some z) (h4 : i.size = size) (h5 : i.bytes = bytes) (h6 : z.cells.size = size) (h7 : 0 < size)
    (v : Value) (k : Nat) (xs : List Value) (hs : a.eval s = v) (hown : w.ownsRow base e size v k xs) (ad : Addr) (m c : Nat) (news : List Value) (hx : a.eval x = .slice (some ad) m c) (hn : news.length = m * size)
    (hc : ∀ j u, news[j]? = some u → w.cell? (ad.add j) = some u) (h1c : ∀ u ∈ news, u.oneCell' = true) (b1 : k + m ≤ maxLen) (b2 : (k + m) * bytes ≤ 140737488355328) (b3 : base ≤ w.heap.size)
    (hK : ∀ v' w', w'.ownsRow base e size v' (k + m) (xs ++ news) → w.grownBy w' v.ownBlock → K (a.put o.dst v') w') : o.wpIn F n P a w K Q := by
  obtain ⟨v', w', hrun, r1, r2, r3⟩ := run_append_own (P := P) w base t o.type e i z size bytes h1 h2 h3 h4 h5 h6 h7 v k xs hown ad m c news hn hc h1c b1 b2 b3
  unfold Oper.wpIn
  refine ⟨?_, ?_⟩
  · simp [Oper.about, hop, resolve, Target.leads, Sem.run_pure]
  · rw [Oper.semAt_plain F _ _ (by rw [hop]; intro c hc'; cases hc')]
    simp [execOp, hop, resolve, invoke, builtin, hs, hx, hrun, Result.andThen]
    exact hK v' w' r1 r2
/-- A slice of slices of integers that came in. -/
structure RowsIn (W : World) (p : Option Addr) (m : Nat) (A : Nat → Option Addr) (L C : Nat → Nat) (Z : Nat → Nat → Int) : Prop where
  small : m ≤ maxLen
  cell : ∀ r, r < m → ∃ b off, p = some ⟨b, off, none⟩ ∧ b < W.heap.size ∧ ∀ j, j < m → W.cell? ⟨b, off + j, none⟩ = some (.slice (A j) (L j) (C j))
  rows : ∀ r, r < m → IntsIn W (A r) (L r) (Z r)
theorem RowsIn.below {W W' : World} {p : Option Addr} {m : Nat} {A : Nat → Option Addr} {L C : Nat → Nat} {Z : Nat → Nat → Int} (h : RowsIn W p m A L C Z) (hb : Below W.heap.size W W') : RowsIn W' p m A L C Z :=
  ⟨h.small, fun r hr => by
    obtain ⟨b, off, hp, hlt, hc⟩ := h.cell r hr
    exact ⟨b, off, hp, Nat.lt_of_lt_of_le hlt hb.size, fun j hj => (hb.cell (p := ⟨b, off + j, none⟩) hlt).trans (hc j hj)⟩, fun r hr => (h.rows r hr).below hb⟩
/-- Rounds that the call itself has made. -/
structure OwnRows (W : World) (base : Nat) (p : Option Addr) (m n : Nat) (B C : Nat → Nat) (v : Nat → Nat → Nat) : Prop where
  outer : ∀ r, r < m → ∃ O, p = some ⟨O, 0, none⟩ ∧ base ≤ O ∧ O < W.heap.size ∧ ∀ j, j < m → W.cell? ⟨O, j, none⟩ = some (.slice (some ⟨B j, 0, none⟩) n (C j))
  rows : ∀ r, r < m → IntsAt W (B r) n (v r) ∧ base ≤ B r
theorem OwnRows.reads {W : World} {base m n : Nat} {p : Option Addr} {B C : Nat → Nat} {v : Nat → Nat → Nat} (h : OwnRows W base p m n B C v) : ReadRows W p m n (fun j => some ⟨B j, 0, none⟩) C v :=
  ⟨fun r hr => by
    obtain ⟨O, hp, _, hlt, hc⟩ := h.outer r hr
    exact ⟨O, 0, hp, hlt, fun j hj => by rw [Nat.zero_add]; exact hc j hj⟩, fun r hr => (h.rows r hr).1.reads⟩
theorem OwnRows.below {W W' : World} {base m n : Nat} {p : Option Addr} {B C : Nat → Nat} {v : Nat → Nat → Nat} (h : OwnRows W base p m n B C v) (hb : Below W.heap.size W W') : OwnRows W' base p m n B C v :=
  ⟨fun r hr => by
    obtain ⟨O, hp, h1, hlt, hc⟩ := h.outer r hr
    exact ⟨O, hp, h1, Nat.lt_of_lt_of_le hlt hb.size, fun j hj => (hb.cell (p := ⟨O, j, none⟩) hlt).trans (hc j hj)⟩, fun r hr => ⟨(h.rows r hr).1.below hb, (h.rows r hr).2⟩⟩
theorem OwnRows.other {W : World} {base m n b i : Nat} {p : Option Addr} {B C : Nat → Nat} {v : Nat → Nat → Nat} (h : OwnRows W base p m n B C v) (hb : b < base) (u : Value) : OwnRows (W.setCell ⟨b, i, none⟩ u) base p m n B C v :=
  ⟨fun r hr => by
    obtain ⟨O, hp, h1, hlt, hc⟩ := h.outer r hr
    exact ⟨O, hp, h1, by simpa using hlt, fun j hj => (World.cell?_setCell_far W ⟨b, i, none⟩ ⟨O, j, none⟩ u (by show b ≠ O; omega)).trans (hc j hj)⟩, fun r hr => ⟨(h.rows r hr).1.other (by have := (h.rows r hr).2; omega) u, (h.rows r hr).2⟩⟩
theorem own_below {W W' : World} {base e size n : Nat} {v : Value} {xs : List Value} (h : W.ownsRow base e size v n xs) (hb : Below W.heap.size W W') : W'.ownsRow base e size v n xs := by
  refine ⟨h.1, ?_⟩
  rcases h.2 with h1 | ⟨g, cap, cur, h1, h2, h3, h4⟩
  · exact .inl h1
  · exact .inr ⟨g, cap, cur, h1, h2, (hb.block g (Array.getElem?_eq_some_iff.1 h3).1).trans h3, h4⟩
theorem own_low {W W' : World} {base e size n F : Nat} {v : Value} {xs : List Value} (h : W.ownsRow base e size v n xs) (hv : ∀ g, v.ownBlock = some g → g < F) (hb : Below F W W') : W'.ownsRow base e size v n xs := by
  refine ⟨h.1, ?_⟩
  rcases h.2 with h1 | ⟨g, cap, cur, h1, h2, h3, h4⟩
  · exact .inl h1
  · exact .inr ⟨g, cap, cur, h1, h2, (hb.block g (hv g (by rw [h1]; rfl))).trans h3, h4⟩
theorem IntsAt.low {W W' : World} {F G n : Nat} {a : Nat → Nat} (h : IntsAt W G n a) (hb : Below F W W') (hG : G < F) : IntsAt W' G n a :=
  ⟨Nat.lt_of_lt_of_le h.lt (by have := hb.block G hG; obtain ⟨cs, hc⟩ := h.row; rcases Nat.lt_or_ge W'.heap.size W.heap.size with hl | hl
                               · exact absurd hb.size (by omega)
                               · exact hl), fun i hi => (hb.cell (p := ⟨G, i, none⟩) hG).trans (h.cell i hi), fun i => (hb.frozen (p := ⟨G, i, none⟩) hG).trans (h.free i), by obtain ⟨cs, hc⟩ := h.row; exact ⟨cs, (hb.block _ hG).trans hc⟩⟩
theorem hown_ne {W : World} {base size n : Nat} {v : Value} {xs : List Value} (h : W.ownsRow base 22 size v n xs) (G : Nat) (hG : ∃ cs, W.heap[G]? = some (.cells cs 3 (0, 0))) : some G ≠ v.ownBlock := fun e => by
  obtain ⟨cs, hc⟩ := hG
  rcases h.2 with ⟨h1, _⟩ | ⟨g, cap, cur, h1, h2, h3, h4⟩
  · rw [h1] at e; cases e
  · rw [h1] at e
    obtain rfl : G = g := by simpa [Value.ownBlock] using e
    rw [h3] at hc
    simp at hc
/-- What made returns. -/
def IsMade (w : World) (e : Ending) (w' : World) : Prop := ∃ (cap t lim n m G cw cm base : Nat) (p : Option Addr) (wt : Nat → Nat) (B C : Nat → Nat) (ar : Nat → Nat → Nat),
  e = .returned (.tuple #[.agg #[.int .i64 (cap : Int), .int .i64 (t : Int), .int .i64 (lim : Int), .slice (some ⟨G, 0, none⟩) n cw], .slice p m cm]) ∧
  (cap < 60 ∧ lim < 80 ∧ 1 ≤ n ∧ n ≤ 8 ∧ t < n ∧ m ≤ 12) ∧ (∀ i, i < n → wt i ≤ lim) ∧ (∀ k, k < m → ∀ i, i < n → ar k i < 50) ∧
  IntsAt w' G n wt ∧ w.heap.size ≤ G ∧ G < base ∧ OwnRows w' base p m n B C ar ∧ Below w.heap.size w w'
set_option maxRecDepth 100000 in
set_option maxHeartbeats 8000000 in
theorem made_any (a0 a1 a2 : Int) (p q : Option Addr) (n0 c0 m0 e0 : Nat) (f : Nat → Int) (A : Nat → Option Addr) (L C : Nat → Nat) (Z : Nat → Nat → Int) (w : World) (hin : IntsIn w p n0 f) (hrows : RowsIn w q m0 A L C Z)
    (b0 : -9223372036854775808 ≤ a0 ∧ a0 ≤ 9223372036854775807) (b1 : -9223372036854775808 ≤ a1 ∧ a1 ≤ 9223372036854775807) (b2 : -9223372036854775808 ≤ a2 ∧ a2 ≤ 9223372036854775807) :
    Calls Try.prog 15 #[.int .i64 a0, .int .i64 a1, .int .i64 a2, .slice p n0 c0, .slice q m0 e0] w (IsMade w) := by
  obtain ⟨i0, hi, hz0, hz1, hz2⟩ := info_parts Try.infoInt
  obtain ⟨i1, hi', hy0, hy1, hy2⟩ := info_parts Try.infoInts
  have hm0 := hrows.small
  unfold maxLen at hm0
  have HIN := Lib.hid hin
  have HROWS := Lib.hid hrows
  clear hin hrows
  have k1 := pickN_lt a0 (show 0 < 60 by omega)
  have k2 := pickN_lt a1 (show 0 < 80 by omega)
  have q1 := fun W => pick_any a0 60 60 W rfl b0.1 b0.2 (by omega) (by omega)
  have q2 := fun W => pick_any a1 80 80 W rfl b1.1 b1.2 (by omega) (by omega)
  obtain ⟨cap, hcap⟩ : ∃ x, pickN a0 60 = x := ⟨_, rfl⟩
  obtain ⟨lim, hlim⟩ : ∃ x, pickN a1 80 = x := ⟨_, rfl⟩
  rw [hcap] at k1 q1
  rw [hlim] at k2 q2
  have Q1 := Lib.hid q1
  have Q2 := Lib.hid q2
  clear hcap hlim q1 q2
  go_enter Try.func15, Try.ntmps15
  go_wp2_with fail
  refine (Q1.out _).mono ?_
  rintro e w1 ⟨rfl, rfl⟩
  go_wp2_with fail
  refine (Q2.out _).mono ?_
  rintro e w1 ⟨rfl, rfl⟩
  have hR := QBox.new w 0 0 0 (.slice none 0 0)
  have hQ : QBox ((w.alloc (.cells #[.int .i64 0, .int .i64 0, .int .i64 0, .slice none 0 0] 35)).alloc (.cells #[.int .i64 (cap : Int), .int .i64 0, .int .i64 (lim : Int), .slice none 0 0] 35)) (w.heap.size + 1) cap 0 lim (.slice none 0 0) := by
    have := QBox.new (w.alloc (.cells #[.int .i64 0, .int .i64 0, .int .i64 0, .slice none 0 0] 35)) cap 0 lim (.slice none 0 0)
    rwa [World.size_alloc] at this
  have hR2 : QBox ((w.alloc (.cells #[.int .i64 0, .int .i64 0, .int .i64 0, .slice none 0 0] 35)).alloc (.cells #[.int .i64 (cap : Int), .int .i64 0, .int .i64 (lim : Int), .slice none 0 0] 35)) w.heap.size 0 0 0 (.slice none 0 0) := hR.alloc _
  have hB0 := ((Below.refl w.heap.size w).alloc (Nat.le_refl _) (.cells #[.int .i64 0, .int .i64 0, .int .i64 0, .slice none 0 0] 35)).alloc (by simp) (.cells #[.int .i64 (cap : Int), .int .i64 0, .int .i64 (lim : Int), .slice none 0 0] 35)
  clear hR
  go_wp2_with fail
  refine (demands_any p n0 c0 f _ (HIN.out.below hB0)).mono ?_
  rintro e w2 ⟨D, n, cp, d, rfl, hn1, hn8, hd, hD, hat, hb2⟩
  have hQ2 := hQ.below hb2
  have hR3 := hR2.below hb2
  have hB2 := hB0.trans (hb2.mono hB0.size)
  have hD2 : w.heap.size + 2 ≤ D := by simpa using hD
  clear hQ hR2 hb2 hB0
  clear hD
  have hw2 := hat.lt
  go_wp2_with fail
  go_loopw [14] (fun z wr => ∃ (k : Nat) (v : Value), k ≤ n ∧ z = .int .i64 k ∧ QBox wr (w.heap.size + 1) cap 0 lim v ∧ QBox wr w.heap.size 0 0 0 (.slice none 0 0) ∧ wr.ownsRow w2.heap.size 3 1 v k ((List.range k).map fun i => Value.int .i64 ((pickN ((d i : Nat) : Int) (lim + 1) : Nat) : Int)) ∧ IntsAt wr D n d ∧ Below w.heap.size w wr ∧ w2.heap.size ≤ wr.heap.size) (fun z _ => n - (intOf z).toNat)
  case atStart => exact ⟨0, _, by omega, rfl, hQ2, hR3, World.ownsRow_nil _ _ _ _, hat, hB2, Nat.le_refl _⟩
  case round =>
    obtain ⟨k, v, hk, rfl, hQ, hR, hrow, hat, hB, hsz⟩ := hrel
    obtain ⟨vp, vc, rfl⟩ : ∃ vp vc, v = .slice vp k vc := by
      rcases hrow.2 with ⟨h, h0⟩ | ⟨g, cap, cur, h, _⟩
      · exact ⟨none, 0, by rw [h, h0]⟩
      · exact ⟨_, _, h⟩
    by_cases hlt : k < n
    · obtain ⟨y0, y1, y2, y3⟩ := hQ.cells
      have y4 := hQ.free 3
      have x1 := hat.cell k hlt
      have k0 : (0 : Int) ≤ (k : Int) := by omega
      have k3 : (k : Int) < (n : Int) := by omega
      have k4 : IntKind.i64.wrap ((lim : Int) + 1) = (lim : Int) + 1 := IntWalk.i64_in _ (by omega)
      have hdk := hd k hlt
      have hq := pickN_lt ((d k : Nat) : Int) (show 0 < lim + 1 by omega)
      have Q3 := Lib.hid (fun W => pick_any ((d k : Nat) : Int) ((lim : Int) + 1) (lim + 1) W (by omega) (by omega) (by omega) (by omega) (by omega))
      go_wp2_with fail
      refine (wpIn_wide (n := 1)).1 ?_
      refine region_R (fun zz W => match zz with | 1 => W.cell? ⟨w.heap.size + 1, 3, none⟩ = some (.slice vp k vc) | 5 => W.cell? ⟨D, k, none⟩ = some (.int .i64 ((d k : Nat) : Int)) | 7 => W.cell? ⟨w.heap.size + 1, 2, none⟩ = some (.int .i64 ((lim : Nat) : Int)) | _ => True) (by kernel_rfl) ?_
      refine wpAnyR_take (i := 0) (v := ?_) (noDefer_of rfl) rfl (by kernel_rfl) (by kernel_rfl) (by kernel_rfl) ?_ rfl (fun _ => rfl) ?_ (fun W hW => ?_) ?_
      rotate_left
      · exact fun _ _ _ h => h
      · trivial
      · go_simp
        all_goals with_reducible rfl
      refine wpAnyR_take (i := 1) (v := ?_) (noDefer_of rfl) rfl (by kernel_rfl) (by kernel_rfl) (by kernel_rfl) ?_ rfl (fun _ => rfl) ?_ (fun W hW => ?_) ?_
      rotate_left
      · exact fun _ _ _ h => h
      · exact y3
      · have hW' : W.cell? ⟨w.heap.size + 1, 3, none⟩ = some (.slice vp k vc) := hW
        go_simp
        all_goals with_reducible rfl
      refine wpAnyR_take (i := 2) (v := ?_) (noDefer_of rfl) rfl (by kernel_rfl) (by kernel_rfl) (by kernel_rfl) ?_ rfl (fun _ => rfl) ?_ (fun W hW => ?_) ?_
      rotate_left
      · exact fun _ _ _ h => h
      · trivial
      · go_simp
        all_goals with_reducible rfl
      refine wpAnyR_take (i := 3) (v := ?_) (noDefer_of rfl) rfl (by kernel_rfl) (by kernel_rfl) (by kernel_rfl) ?_ rfl (fun _ => rfl) ?_ (fun W hW => ?_) ?_
      rotate_left
      · exact fun _ _ _ h => h
      · trivial
      · go_simp
        all_goals with_reducible rfl
      refine wpAnyR_take (i := 4) (v := ?_) (noDefer_of rfl) rfl (by kernel_rfl) (by kernel_rfl) (by kernel_rfl) ?_ rfl (fun _ => rfl) ?_ (fun W hW => ?_) ?_
      rotate_left
      · exact fun _ _ _ h => h
      · trivial
      · go_simp
        all_goals with_reducible rfl
      refine wpAnyR_take (i := 5) (v := ?_) (noDefer_of rfl) rfl (by kernel_rfl) (by kernel_rfl) (by kernel_rfl) ?_ rfl (fun _ => rfl) ?_ (fun W hW => ?_) ?_
      rotate_left
      · exact fun _ _ _ h => h
      · exact x1
      · have hW' : W.cell? ⟨D, k, none⟩ = some (.int .i64 ((d k : Nat) : Int)) := hW
        go_simp
        all_goals with_reducible rfl
      refine wpAnyR_take (i := 6) (v := ?_) (noDefer_of rfl) rfl (by kernel_rfl) (by kernel_rfl) (by kernel_rfl) ?_ rfl (fun _ => rfl) ?_ (fun W hW => ?_) ?_
      rotate_left
      · exact fun _ _ _ h => h
      · trivial
      · go_simp
        all_goals with_reducible rfl
      refine wpAnyR_take (i := 7) (v := ?_) (noDefer_of rfl) rfl (by kernel_rfl) (by kernel_rfl) (by kernel_rfl) ?_ rfl (fun _ => rfl) ?_ (fun W hW => ?_) ?_
      rotate_left
      · exact fun _ _ _ h => h
      · exact y2
      · have hW' : W.cell? ⟨w.heap.size + 1, 2, none⟩ = some (.int .i64 ((lim : Nat) : Int)) := hW
        go_simp
        all_goals with_reducible rfl
      refine wpAnyR_take (i := 8) (v := ?_) (noDefer_of rfl) rfl (by kernel_rfl) (by kernel_rfl) (by kernel_rfl) ?_ rfl (fun _ => rfl) ?_ (fun W hW => ?_) ?_
      rotate_left
      · exact fun _ _ _ h => h
      · trivial
      · go_simp
        all_goals with_reducible rfl
      refine wpAnyR_one (i := 9) rfl (by kernel_rfl) rfl (fun K hK => ?_)
      go_simp
      refine ⟨trivial, ?_⟩
      refine (callsIn_wide.2 (Q3.out _)).mono ?_
      rintro e w5 ⟨rfl, rfl⟩
      obtain ⟨u, hu⟩ : ∃ u, pickN ((d k : Nat) : Int) (lim + 1) = u := ⟨_, rfl⟩
      rw [hu] at hq
      refine hK _ _ (fun _ _ h => h) ?_
      clear hK K
      rw [hu]
      refine wpAnyR_one (i := 10) rfl (by kernel_rfl) rfl (fun K hK => ?_)
      go_simp
      refine hK _ _ (fun j _ hT => ?_) ?_
      · split
        · exact (hQ.alloc _).drew.cells.2.2.2
        · exact ((hat.alloc _).drew).cell k hlt
        · exact (hQ.alloc _).drew.cells.2.2.1
        · trivial
      clear hK K
      refine wpAnyR_one (i := 11) rfl (by kernel_rfl) rfl (fun K hK => ?_)
      refine opIn_append_own _ _ 22 rfl w2.heap.size 3 i0 (.int .i64 0) 1 8 Try.underlying22 hi hz0 hz1 hz2 rfl (by decide) (.slice vp k vc) k _ rfl ((hrow.alloc _).drew) ⟨wr.heap.size, 0, none⟩ 1 1 [.int .i64 (u : Int)] rfl rfl (cell_one_new wr _ _) (by simp [Value.oneCell']) (by unfold maxLen; omega) (by omega) (by simp; omega) (fun v' w6 hown' hgrow => ?_)
      obtain ⟨g', cap', rfl⟩ := ownsRow_succ hown'
      have hne := own_ne hrow (b := w.heap.size + 1) (by omega)
      have hQ6 := ((hQ.alloc _).drew).kept hgrow hne
      have hR6 := ((hR.alloc _).drew).kept hgrow (own_ne hrow (by omega))
      have hat6 := ((hat.alloc _).drew).kept hgrow (own_ne hrow hw2)
      have hB6 := ((hB.alloc hB.size _).drew).grown hgrow (by simp; have := hB.size; omega) (fun j e => by have := (hrow.lt j e).1; omega)
      obtain ⟨z0, z1, z2, z3⟩ := hQ6.cells
      have z4 := hQ6.free 3
      refine hK _ _ (fun j _ hT => ?_) ?_
      · split
        · exact z3
        · exact hat6.cell k hlt
        · exact z2
        · trivial
      clear hK K
      refine wpAnyR_take (i := 12) (v := ?_) (noDefer_of rfl) rfl (by kernel_rfl) (by kernel_rfl) (by kernel_rfl) ?_ rfl (fun _ => rfl) ?_ (fun W hW => ?_) ?_
      rotate_left
      · exact fun _ _ _ h => h
      · trivial
      · go_simp
        all_goals with_reducible rfl
      refine wpAnyR_one (i := 13) rfl (by kernel_rfl) rfl (fun K hK => ?_)
      go_simp
      refine hK _ _ (fun j hj hT => ?_) ?_
      · rcases j with _ | _ | _ | _ | _ | _ | _ | _ | j
        all_goals first | trivial | exact absurd hj (by decide)
      clear hK K
      refine wpAnyR_done (by kernel_rfl) ?_ _
      go_wp2_with fail
      exact ⟨⟨k + 1, _, by omega, by go_num, hQ6.setW _, hR6.other (by omega) _, by rw [List.range_succ, List.map_append, List.map_cons, List.map_nil, hu]; exact own_far hown' (by omega) _, hat6.other (by omega) _, Below_set hB6 (by omega) _, by have := hown'.lt g' rfl; simp; omega⟩, by simp [intOf]; omega⟩
    · obtain rfl : n = k := by omega
      obtain ⟨GW, cw, hvf⟩ : ∃ g c, Value.slice vp n vc = .slice (some ⟨g, 0, none⟩) n c := by
        rcases hrow.2 with ⟨_, h0⟩ | ⟨g, cap, cur, h, _⟩
        · omega
        · exact ⟨g, cap, h⟩
      obtain ⟨rfl, rfl⟩ : vp = some ⟨GW, 0, none⟩ ∧ vc = cw := by injection hvf; exact ⟨by assumption, by assumption⟩
      obtain ⟨hWi, hWl⟩ := IntsAt.of_own (a := fun i => pickN ((d i : Nat) : Int) (lim + 1)) hrow
      have ht := pickN_lt a2 (show 0 < n by omega)
      have q3 := fun W => pick_any a2 n n W rfl b2.1 b2.2 (by omega) (by omega)
      obtain ⟨t, hte⟩ : ∃ t, pickN a2 n = t := ⟨_, rfl⟩
      rw [hte] at ht q3
      have Q3 := Lib.hid q3
      obtain ⟨y0, y1, y2, y3⟩ := hQ.cells
      have y4 := hQ.free 1
      have hQ2 := hQ.setT t
      have hR2 := hR.other (b := w.heap.size + 1) (i := 1) (by omega) (.int .i64 (t : Int))
      have hW2 := hWi.other (b := w.heap.size + 1) (i := 1) (by omega) (.int .i64 (t : Int))
      have hB2 := Below_set hB (b := w.heap.size + 1) (i := 1) (by omega) (.int .i64 (t : Int))
      obtain ⟨o, hmk, hmi⟩ := make_all n (by omega)
      have HMI := Lib.hid hmi
      clear hvf hrow hte q3 hQ hR hat hWi hB hmi
      go_wp2_with fail
      refine (Q3.out _).mono ?_
      rintro e w5 ⟨rfl, rfl⟩
      go_wp2_with fail
      obtain ⟨wo, hwo⟩ : ∃ wo, wr.setCell ⟨w.heap.size + 1, 1, none⟩ (.int .i64 (t : Int)) = wo := ⟨_, rfl⟩
      rw [hwo] at hQ2 hR2 hW2 hB2 ⊢
      clear hwo y0 y1 y2 y3 y4
      go_loopw [15, 16] (fun v z wr => ∃ (k : Nat) (B : Nat → Nat) (ar : Nat → Nat → Nat), k ≤ m0 ∧ k ≤ 12 ∧ z = .int .i64 k ∧ wr.ownsRow wo.heap.size 22 1 v k ((List.range k).map fun j => Value.slice (some ⟨B j, 0, none⟩) n n) ∧ (∀ j, j < k → IntsAt wr (B j) n (ar j) ∧ wo.heap.size ≤ B j ∧ ∀ i, i < n → ar j i < 50) ∧ Below wo.heap.size wo wr) (fun _ z _ => 12 - (intOf z).toNat)
      case atStart => exact ⟨0, fun _ => 0, fun _ _ => 0, by omega, by omega, rfl, World.ownsRow_nil _ _ _ _, fun j hj => by omega, Below.refl _ _⟩
      case round =>
        obtain ⟨k, B, ar, hk, hk12, rfl, hown, hold, hb⟩ := hrel
        have hBw : Below w.heap.size w wr := hB2.trans (hb.mono hB2.size)
        by_cases hlt : k < m0
        · by_cases hlt12 : k < 12
          · obtain ⟨bq, oq, rfl, hbq, hcq⟩ := (HROWS.out.below hBw).cell k hlt
            have hIn := HROWS.out.rows k hlt
            have hBi := hBw.alloc hBw.size o
            have hF0 := HMI.out wr
            have hB3 : Below wo.heap.size wo (wr.alloc o) := hb.alloc hb.size o
            have hown3 := hown.alloc o
            have hlow : ∀ g, u15.ownBlock = some g → g < wr.heap.size := fun g e => (hown.lt g e).2
            have hold4 : ∀ j, j < k → IntsAt (wr.alloc o) (B j) n (ar j) ∧ B j < wr.heap.size ∧ wo.heap.size ≤ B j ∧ ∀ i, i < n → ar j i < 50 := fun j hj => ⟨(hold j hj).1.alloc o, (hold j hj).1.lt, (hold j hj).2⟩
            have k0 : (0 : Int) ≤ (k : Int) := by omega
            have k3 : (k : Int) < (m0 : Int) := by omega
            have e12 : decide ((k : Int) < 12) = true := decide_eq_true (by omega)
            have hbl := hb.size
            have c1 : wr.cell? ⟨bq, oq + k, none⟩ = some (.slice (A k) (L k) (C k)) := hcq k hlt
            have c2 : (wr.alloc o).cell? ⟨bq, oq + k, none⟩ = some (.slice (A k) (L k) (C k)) := (((Below.refl wr.heap.size wr).alloc (Nat.le_refl _) o).cell (p := ⟨bq, oq + k, none⟩) hbq).trans c1
            have hwF := hBw.size
            go_wp2_with fail
            obtain ⟨F, hFe⟩ : ∃ F, wr.heap.size = F := ⟨_, rfl⟩
            obtain ⟨wi, hwi⟩ : ∃ wi, wr.alloc o = wi := ⟨_, rfl⟩
            have hsz : wi.heap.size = F + 1 := by rw [← hwi, ← hFe]; simp
            rw [hFe] at hF0 hbq hbl hwF hlow hold4 ⊢
            rw [hwi] at hF0 hB3 hown3 hold4 c2 hBi ⊢
            have HOLD := Lib.hid hold4
            have HLOW := Lib.hid hlow
            clear hlow
            clear hwi hFe hcq hown hold hb c1 hold4 hBw
            have hl0 := hIn.small
            unfold maxLen at hl0
            go_loopw [18] (fun z wv => ∃ (j : Nat) (g : Nat → Nat), j ≤ n ∧ z = .int .i64 j ∧ IntsAt wv F n g ∧ (∀ i, i < n → g i < 50) ∧ Below F wi wv) (fun z _ => n - (intOf z).toNat)
            case atStart => exact ⟨0, fun _ => 0, by omega, rfl, hF0, fun _ _ => by show 0 < 50; omega, Below.refl _ _⟩
            case round =>
              obtain ⟨j, g, hj, rfl, hF, hg, hbi⟩ := hrel
              have c3 := (hbi.cell (p := ⟨bq, oq + k, none⟩) hbq).trans c2
              have hBv := hBi.trans (hbi.mono hwF)
              have hG := Lib.hid hg
              have HOWN := Lib.hid hown3
              obtain ⟨ll, hll⟩ : ∃ ll, L k = ll := ⟨_, rfl⟩
              rw [hll] at c3 hl0
              have HLL := Lib.hid hll
              clear hg hll hown3
              by_cases hjn : j < n
              · by_cases hjl : j < ll
                · obtain ⟨br, orr, hAk, hbr, hcr⟩ := hIn.cell j (by rw [HLL.out]; exact hjl)
                  have hbd := hIn.bd j (by rw [HLL.out]; exact hjl)
                  rw [hAk] at c3
                  have c4 : wr.cell? ⟨br, orr + j, none⟩ = some (.int .i64 (Z k j)) := (hBv.cell (p := ⟨br, orr + j, none⟩) hbr).trans (hcr j (by rw [HLL.out]; exact hjl))
                  have c5 := hF.cell j hjn
                  have c6 := hF.free j
                  have j0 : (0 : Int) ≤ (j : Int) := by omega
                  have j1 : (j : Int) < (n : Int) := by omega
                  have j2 : (j : Int) < (ll : Int) := by omega
                  have hu := pickN_lt (Z k j) (show 0 < 50 by omega)
                  have q4 := fun W => pick_any (Z k j) 50 50 W rfl hbd.1 hbd.2 (by omega) (by omega)
                  obtain ⟨u, hue⟩ : ∃ u, pickN (Z k j) 50 = u := ⟨_, rfl⟩
                  rw [hue] at hu q4
                  have Q4 := Lib.hid q4
                  clear hAk hcr q4 hue
                  go_wp2_with fail
                  refine (Q4.out _).mono ?_
                  rintro e w6 ⟨rfl, rfl⟩
                  go_wp2_with fail
                  exact ⟨⟨j + 1, fun i => if i = j then u else g i, by omega, by go_num, hF.set j u hjn, fun i hi => by
                    show (if i = j then u else g i) < 50
                    by_cases e : i = j
                    · rw [if_pos e]; exact hu
                    · rw [if_neg e]; exact hG.out i hi, Below_set hbi (Nat.le_refl _) _⟩, by simp [intOf]; omega⟩
                · have j2 : ¬ (j : Int) < (ll : Int) := by omega
                  have j0 : (0 : Int) ≤ (j : Int) := by omega
                  have hb2 : Below wo.heap.size wo wr := hB3.trans (hbi.mono hbl)
                  have hown := own_low HOWN.out HLOW.out hbi
                  have hold : ∀ j, j < k → IntsAt wr (B j) n (ar j) ∧ wo.heap.size ≤ B j ∧ ∀ i, i < n → ar j i < 50 := fun j hj => ⟨(HOLD.out j hj).1.low hbi (HOLD.out j hj).2.1, (HOLD.out j hj).2.2⟩
                  have hg := hG.out
                  go_wp2_with (at_builtin; refine wpList_append_own (o := ⟨some 92, _, _, _, _, _⟩) _ rfl _ _ 33 rfl wo.heap.size 22 i1 (.slice none 0 0) 1 24 Try.underlying33 hi' hy0 hy1 hy2 rfl (by decide) _ _ _ rfl (hown.alloc _) ⟨wr.heap.size, 0, none⟩ 1 1 [.slice _ _ _] rfl rfl (cell_one_new _ _ _) (by simp [Value.oneCell']) (by unfold maxLen; omega) (by omega) (by have := hb2.size; simp; omega) ?_; intro v' w5 hown' hgrow _; obtain ⟨g', cap', rfl⟩ := ownsRow_succ hown')
                  have hn2 := fun G (h : ∃ cs, wr.heap[G]? = some (.cells cs 3 (0, 0))) => hown_ne hown G h
                  refine ⟨⟨k + 1, (fun j => if j = k then F else B j), (fun j => if j = k then g else ar j), by omega, by omega, by go_num, ?_, fun j hj => ?_, own_grown_below hb2.size hb2 hown hgrow⟩, by simp [intOf]; omega⟩
                  · rw [List.range_succ, List.map_append, List.map_cons, List.map_nil]
                    have e : (List.range k).map (fun j => Value.slice (some ⟨if j = k then F else B j, 0, none⟩) n n) = (List.range k).map (fun j => Value.slice (some ⟨B j, 0, none⟩) n n) := List.map_congr_left fun j hj => by rw [if_neg (by have := List.mem_range.1 hj; omega)]
                    rw [e]
                    simp only [if_true]
                    simpa using hown'
                  · by_cases e : j = k
                    · simp only [e, if_true]
                      exact ⟨(hF.alloc _).kept hgrow (hn2 F hF.row), by omega, hg⟩
                    · simp only [e, if_false]
                      obtain ⟨r1, r2, r3⟩ := hold j (by omega)
                      exact ⟨(r1.alloc _).kept hgrow (hn2 (B j) r1.row), r2, r3⟩
              · have j2 : ¬ (j : Int) < (n : Int) := by omega
                have hb2 : Below wo.heap.size wo wr := hB3.trans (hbi.mono hbl)
                have hown := own_low HOWN.out HLOW.out hbi
                have hold : ∀ j, j < k → IntsAt wr (B j) n (ar j) ∧ wo.heap.size ≤ B j ∧ ∀ i, i < n → ar j i < 50 := fun j hj => ⟨(HOLD.out j hj).1.low hbi (HOLD.out j hj).2.1, (HOLD.out j hj).2.2⟩
                have hg := hG.out
                go_wp2_with (at_builtin; refine wpList_append_own (o := ⟨some 92, _, _, _, _, _⟩) _ rfl _ _ 33 rfl wo.heap.size 22 i1 (.slice none 0 0) 1 24 Try.underlying33 hi' hy0 hy1 hy2 rfl (by decide) _ _ _ rfl (hown.alloc _) ⟨wr.heap.size, 0, none⟩ 1 1 [.slice _ _ _] rfl rfl (cell_one_new _ _ _) (by simp [Value.oneCell']) (by unfold maxLen; omega) (by omega) (by have := hb2.size; simp; omega) ?_; intro v' w5 hown' hgrow _; obtain ⟨g', cap', rfl⟩ := ownsRow_succ hown')
                have hn2 := fun G (h : ∃ cs, wr.heap[G]? = some (.cells cs 3 (0, 0))) => hown_ne hown G h
                refine ⟨⟨k + 1, (fun j => if j = k then F else B j), (fun j => if j = k then g else ar j), by omega, by omega, by go_num, ?_, fun j hj => ?_, own_grown_below hb2.size hb2 hown hgrow⟩, by simp [intOf]; omega⟩
                · rw [List.range_succ, List.map_append, List.map_cons, List.map_nil]
                  have e : (List.range k).map (fun j => Value.slice (some ⟨if j = k then F else B j, 0, none⟩) n n) = (List.range k).map (fun j => Value.slice (some ⟨B j, 0, none⟩) n n) := List.map_congr_left fun j hj => by rw [if_neg (by have := List.mem_range.1 hj; omega)]
                  rw [e]
                  simp only [if_true]
                  simpa using hown'
                · by_cases e : j = k
                  · simp only [e, if_true]
                    exact ⟨(hF.alloc _).kept hgrow (hn2 F hF.row), by omega, hg⟩
                  · simp only [e, if_false]
                    obtain ⟨r1, r2, r3⟩ := hold j (by omega)
                    exact ⟨(r1.alloc _).kept hgrow (hn2 (B j) r1.row), r2, r3⟩
          · skip
            have hk3 : ¬ (k : Int) < 12 := by omega
            have hbe := hb
            have hBe := hB2.trans (hb.mono hB2.size)
            have hQe := hQ2.below hb
            have hRe := hR2.below hb
            have hWe := hW2.below hb
            obtain ⟨op, oc, rfl⟩ : ∃ op oc, u15 = .slice op k oc := by
              rcases hown.2 with ⟨h, h0⟩ | ⟨g, cap, cur, h, _⟩
              · exact ⟨none, 0, by rw [h, h0]⟩
              · exact ⟨_, _, h⟩
            have hor : OwnRows wr wo.heap.size op k n B (fun _ => n) ar := ⟨fun r hr => by
              have hown2 := hown
              rcases hown.2 with ⟨h, h0⟩ | ⟨g, cap, cur, h, _⟩
              · omega
              · obtain ⟨rfl, rfl⟩ : op = some ⟨g, 0, none⟩ ∧ oc = cap := by injection h; exact ⟨by assumption, by assumption⟩
                exact ⟨g, rfl, (hown2.lt g rfl).1, (hown2.lt g rfl).2, fun j hj => by rw [hown2.cellAt j (by omega)]; simp [hj]⟩, fun r hr => ⟨(hold r hr).1, (hold r hr).2.1⟩⟩
            obtain ⟨y0, y1, y2, y3⟩ := hQe.cells
            obtain ⟨z0, z1, z2, z3⟩ := hRe.cells
            have f0 := hRe.free 0
            have f1 := hRe.free 1
            have f2 := hRe.free 2
            have f3 := hRe.free 3
            have hws := hW2.lt
            have hHOR := Lib.hid hor
            have hHOLD := Lib.hid hold
            clear hor hold hown hb hbe
            go_wp2_with fail
            refine bodyPost_ret (v := .tuple #[.agg #[.int .i64 (cap : Int), .int .i64 (t : Int), .int .i64 (lim : Int), .slice (some ⟨GW, 0, none⟩) n vc], .slice op k oc]) (by simp [results, Try.results15, go_sem, z0, z1, z2, z3]) rfl ?_
            exact ⟨cap, t, lim, n, k, GW, vc, oc, wo.heap.size, op, _, B, fun _ => n, ar, rfl, ⟨k1, k2, hn1, hn8, ht, by omega⟩, fun i _ => by have := pickN_lt ((d i : Nat) : Int) (show 0 < lim + 1 by omega); show pickN ((d i : Nat) : Int) (lim + 1) ≤ lim; omega, fun j hj => (hHOLD.out j hj).2.2,
              (((hWe.other (by omega) _).other (by omega) _).other (by omega) _).other (by omega) _, by omega, hws, (((hHOR.out.other (by omega) _).other (by omega) _).other (by omega) _).other (by omega) _, Below_set (Below_set (Below_set (Below_set hBe (by omega) _) (by omega) _) (by omega) _) (by omega) _⟩
        · skip
          have hk3 : ¬ (k : Int) < (m0 : Int) := by omega
          have hbe := hb
          have hBe := hB2.trans (hb.mono hB2.size)
          have hQe := hQ2.below hb
          have hRe := hR2.below hb
          have hWe := hW2.below hb
          obtain ⟨op, oc, rfl⟩ : ∃ op oc, u15 = .slice op k oc := by
            rcases hown.2 with ⟨h, h0⟩ | ⟨g, cap, cur, h, _⟩
            · exact ⟨none, 0, by rw [h, h0]⟩
            · exact ⟨_, _, h⟩
          have hor : OwnRows wr wo.heap.size op k n B (fun _ => n) ar := ⟨fun r hr => by
            have hown2 := hown
            rcases hown.2 with ⟨h, h0⟩ | ⟨g, cap, cur, h, _⟩
            · omega
            · obtain ⟨rfl, rfl⟩ : op = some ⟨g, 0, none⟩ ∧ oc = cap := by injection h; exact ⟨by assumption, by assumption⟩
              exact ⟨g, rfl, (hown2.lt g rfl).1, (hown2.lt g rfl).2, fun j hj => by rw [hown2.cellAt j (by omega)]; simp [hj]⟩, fun r hr => ⟨(hold r hr).1, (hold r hr).2.1⟩⟩
          obtain ⟨y0, y1, y2, y3⟩ := hQe.cells
          obtain ⟨z0, z1, z2, z3⟩ := hRe.cells
          have f0 := hRe.free 0
          have f1 := hRe.free 1
          have f2 := hRe.free 2
          have f3 := hRe.free 3
          have hws := hW2.lt
          have hHOR := Lib.hid hor
          have hHOLD := Lib.hid hold
          clear hor hold hown hb hbe
          go_wp2_with fail
          refine bodyPost_ret (v := .tuple #[.agg #[.int .i64 (cap : Int), .int .i64 (t : Int), .int .i64 (lim : Int), .slice (some ⟨GW, 0, none⟩) n vc], .slice op k oc]) (by simp [results, Try.results15, go_sem, z0, z1, z2, z3]) rfl ?_
          exact ⟨cap, t, lim, n, k, GW, vc, oc, wo.heap.size, op, _, B, fun _ => n, ar, rfl, ⟨k1, k2, hn1, hn8, ht, by omega⟩, fun i _ => by have := pickN_lt ((d i : Nat) : Int) (show 0 < lim + 1 by omega); show pickN ((d i : Nat) : Int) (lim + 1) ≤ lim; omega, fun j hj => (hHOLD.out j hj).2.2,
            (((hWe.other (by omega) _).other (by omega) _).other (by omega) _).other (by omega) _, by omega, hws, (((hHOR.out.other (by omega) _).other (by omega) _).other (by omega) _).other (by omega) _, Below_set (Below_set (Below_set (Below_set hBe (by omega) _) (by omega) _) (by omega) _) (by omega) _⟩
end Go.Proofs.Ytdodhfodojjfeaa
