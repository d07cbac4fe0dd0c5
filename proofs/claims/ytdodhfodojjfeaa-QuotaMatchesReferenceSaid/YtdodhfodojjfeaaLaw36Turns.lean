/- QuotaTurns returns true. Condition: numbers of 64 bits. -/
import Derived.Test.YtdodhfodojjfeaaQuotaRun
import Derived.Test.YtdodhfodojjfeaaLaw36Copy
namespace Go.Proofs.Ytdodhfodojjfeaa
open Go Go.RowKit Go.Shelf
theorem cnt_full {d : Nat → Nat} {n t L : Nat} (hn : 0 < n) (hd : ∀ i, i < n → L < d i) : ∀ k, cnt d n t L k = k
  | 0 => rfl
  | k + 1 => by simp only [cnt]; rw [cnt_full hn hd k, if_pos (hd _ (Nat.mod_lt _ hn))]
theorem sumTo_const (n L : Nat) : sumTo (fun _ => L) n = n * L := by
  induction n with
  | zero => simp [sumTo]
  | succ n ih => simp only [sumTo]; rw [ih, Nat.succ_mul]
theorem turn_sum : ∀ n : Fin 9, ∀ i : Fin 9, ∀ r : Fin 9, i.val < n.val → r.val < n.val → sumTo (fun t => if posOf n.val t i.val < r.val then 1 else 0) n.val = r.val := by decide +kernel
theorem turns_law {n c t : Nat} {U S : Nat → Nat → Nat} (hn1 : 1 ≤ n) (hn : n ≤ 8) (hc : c < 1000) (h : RunIs n c 2000 t n (fun _ => 2000) (fun _ _ => 2000) U S) : ∀ i, i < n → servedF S n i = c := fun i hi => by
  have hS : ∀ k, k < n → S k i = c / n + if posOf n ((t + k) % n) i < c % n then 1 else 0 := fun k hk => by
    have hd := (h.2 k hk).1
    have hcn : c / n ≤ c := Nat.div_le_self c n
    have hall : ∀ j, j < n → c / n < (fun i => min (U k i + 2000) 2000) j := fun j _ => by show c / n < min (U k j + 2000) 2000; omega
    have hcnt := fun m => cnt_full (t := (t + k) % n) (by omega) hall m
    have hsum : sumTo (fun j => min ((fun i => min (U k i + 2000) 2000) j) (c / n)) n = n * (c / n) := by
      rw [← sumTo_const]
      exact sumTo_congr n fun j hj => by have := hall j hj; show min (min (U k j + 2000) 2000) (c / n) = c / n; omega
    have := div_eq (by omega) hd (c / n) (c % n) (by rw [hcnt n]; exact Nat.mod_lt _ (by omega)) (by rw [hsum]; exact Nat.div_add_mod c n) i hi
    rw [this]
    unfold share extra
    rw [hcnt]
    have hm : min ((fun i => min (U k i + 2000) 2000) i) (c / n) = c / n := by have := hall i hi; exact Nat.min_eq_right (Nat.le_of_lt this)
    rw [hm]
    · by_cases e : posOf n ((t + k) % n) i < c % n
      · rw [if_pos e, if_pos ⟨hall i hi, e⟩]
      · rw [if_neg e, if_neg (fun x => e x.2)]
  unfold servedF
  rw [sumTo_congr n hS, sumTo_add (fun _ => c / n), sumTo_const, sumTo_circle (fun t => if posOf n t i < c % n then 1 else 0) n (by omega) t]
  have := turn_sum ⟨n, by omega⟩ ⟨i, by omega⟩ ⟨c % n, by have := Nat.mod_lt c (show 0 < n by omega); omega⟩ hi (Nat.mod_lt _ (by omega))
  rw [this]
  exact Nat.div_add_mod c n
theorem own_ne {W : World} {base e size n b : Nat} {v : Value} {xs : List Value} (h : W.ownsRow base e size v n xs) (hb : b < base) : some b ≠ v.ownBlock := fun e => by
  have := (h.lt b e.symm).1
  omega
theorem own_far {W : World} {base e size n b i : Nat} {v : Value} {xs : List Value} (h : W.ownsRow base e size v n xs) (hb : b < base) (u : Value) : (W.setCell ⟨b, i, none⟩ u).ownsRow base e size v n xs :=
  h.kept (grownBy_setCell_at W b i u) (.inr (Ne.symm (own_ne h hb)))
theorem Try.infoInts : (Try.prog.info? 22).map (fun i => (i.zero, i.size, i.bytes)) = some (some (.slice none 0 0), 1, 24) := by kernel_rfl
set_option maxRecDepth 100000 in
set_option maxHeartbeats 4000000 in
theorem quotaTurns_any (a0 a1 a2 : Int) (w : World) (b0 : -9223372036854775808 ≤ a0 ∧ a0 ≤ 9223372036854775807) (b1 : -9223372036854775808 ≤ a1 ∧ a1 ≤ 9223372036854775807) (b2 : -9223372036854775808 ≤ a2 ∧ a2 ≤ 9223372036854775807) :
    Calls Try.prog 9 #[.int .i64 a0, .int .i64 a1, .int .i64 a2] w fun e w' => e = .returned (.bool true) ∧ Below w.heap.size w w' := by
  obtain ⟨i0, hi, hz0, hz1, hz2⟩ := info_parts Try.infoInt
  obtain ⟨i1, hi', hy0, hy1, hy2⟩ := info_parts Try.infoInts
  go_enter Try.func9, Try.ntmps9
  go_wp2_with fail
  refine (sane_any w).mono ?_
  rintro e w1 ⟨rfl, hB1⟩
  go_wp2_with fail
  refine (pick_any a2 8 8 _ rfl b2.1 b2.2 (by omega) (by omega)).mono ?_
  rintro e w2 ⟨rfl, rfl⟩
  have hx := pickN_lt a2 (show 0 < 8 by omega)
  obtain ⟨n, hn, hn1, hn8⟩ : ∃ n : Nat, (1 : Int) + ((pickN a2 8 : Nat) : Int) = (n : Int) ∧ 1 ≤ n ∧ n ≤ 8 := ⟨1 + pickN a2 8, by omega, by omega, by omega⟩
  obtain ⟨x, hxe⟩ : ∃ x, pickN a2 8 = x := ⟨_, rfl⟩
  rw [hxe] at hn hx ⊢
  clear hxe
  go_wp2_with fail
  refine (pick_any a0 1000 1000 _ rfl b0.1 b0.2 (by omega) (by omega)).mono ?_
  rintro e w3 ⟨rfl, rfl⟩
  have hc := pickN_lt a0 (show 0 < 1000 by omega)
  obtain ⟨c, hce⟩ : ∃ c, pickN a0 1000 = c := ⟨_, rfl⟩
  rw [hce] at hc ⊢
  clear hce
  go_wp2_with fail
  refine (pick_any a1 n n _ rfl b1.1 b1.2 (by omega) (by omega)).mono ?_
  rintro e w3 ⟨rfl, rfl⟩
  have ht := pickN_lt a1 (show 0 < n by omega)
  obtain ⟨t, hte⟩ : ∃ t, pickN a1 n = t := ⟨_, rfl⟩
  rw [hte] at ht ⊢
  clear hte hn hx
  obtain ⟨o, hmk, hmi⟩ := make_all n (by omega)
  have hF := hmi (w1.alloc (.cells #[.int .i64 (c : Int), .int .i64 (t : Int), .int .i64 2000, .slice none 0 0] 35))
  rw [World.size_alloc] at hF
  have hQ : QBox ((w1.alloc (.cells #[.int .i64 (c : Int), .int .i64 (t : Int), .int .i64 2000, .slice none 0 0] 35)).alloc o) w1.heap.size c t 2000 (.slice none 0 0) := (QBox.new w1 c t 2000 (.slice none 0 0)).alloc o
  have hB2 := (hB1.alloc hB1.size (.cells #[.int .i64 (c : Int), .int .i64 (t : Int), .int .i64 2000, .slice none 0 0] 35)).alloc (by have := hB1.size; simp; omega) o
  have hwQ := hB1.size
  clear hmi
  go_wp2_with fail
  clear hmk
  obtain ⟨Q, hQe⟩ : ∃ Q, w1.heap.size = Q := ⟨_, rfl⟩
  obtain ⟨w3, hw3⟩ : ∃ w3, (w1.alloc (.cells #[.int .i64 (c : Int), .int .i64 (t : Int), .int .i64 2000, .slice none 0 0] 35)).alloc o = w3 := ⟨_, rfl⟩
  rw [hw3, hQe] at hF hQ
  rw [hw3] at hB2
  rw [hw3, hQe]
  rw [hQe] at hwQ
  have hsz : w3.heap.size = Q + 2 := by rw [← hw3, ← hQe]; simp
  clear hw3 hQe hB1
  go_loopw [13] (fun z wr => ∃ (k : Nat) (v : Value), k ≤ n ∧ z = .int .i64 k ∧ QBox wr Q c t 2000 v ∧ wr.ownsRow (Q + 2) 3 1 v k ((List.range k).map fun _ => Value.int .i64 ((2000 : Nat) : Int)) ∧ IntsAt wr (Q + 1) n (fun i => if i < k then 2000 else 0) ∧ Below w.heap.size w wr ∧ Q + 2 ≤ wr.heap.size) (fun z _ => n - (intOf z).toNat)
  case atStart => exact ⟨0, _, by omega, rfl, hQ, World.ownsRow_nil _ _ _ _, hF.congr (fun i _ => by rw [if_neg (by omega)]), hB2, by omega⟩
  case round =>
    obtain ⟨k, v, hk, rfl, hQ, hrow, hF, hB, hsz⟩ := hrel
    obtain ⟨vp, vc, rfl⟩ : ∃ vp vc, v = .slice vp k vc := by
      rcases hrow.2 with ⟨h, h0⟩ | ⟨g, cap, cur, h, _⟩
      · exact ⟨none, 0, by rw [h, h0]⟩
      · exact ⟨_, _, h⟩
    by_cases hlt : k < n
    · obtain ⟨y0, y1, y2, y3⟩ := hQ.cells
      have y4 := hQ.free 3
      have x1 := hF.cell k hlt
      have x2 := hF.free k
      rw [if_neg (by omega)] at x1
      have k0 : (0 : Int) ≤ (k : Int) := by omega
      have k1 : (k : Int) < (n : Int) := by omega
      have hQ1 := hQ.other (b := Q + 1) (i := k) (by omega) (.int .i64 2000)
      have hr1 := own_far hrow (b := Q + 1) (i := k) (by omega) (.int .i64 2000)
      have hF1 := (hF.set k 2000 hlt).congr (b := fun i => if i < k + 1 then 2000 else 0) (fun i hi => by
        by_cases e : i = k
        · rw [if_pos (by omega), if_pos e]
        · rw [if_neg e]
          by_cases h : i < k
          · rw [if_pos h, if_pos (by omega)]
          · rw [if_neg h, if_neg (by omega)])
      have hB1 := Below_set hB (b := Q + 1) (i := k) (by omega) (.int .i64 2000)
      have hr1' := hr1
      clear hQ hrow hF hB
      go_wp2_with (at_builtin; refine wpList_append_own (o := ⟨some 44, _, _, _, _, _⟩) _ rfl _ _ 22 rfl (Q + 2) 3 i0 (.int .i64 0) 1 8 Try.underlying22 hi hz0 hz1 hz2 rfl (by decide) (.slice vp k vc) k _ rfl (hr1.alloc _) ⟨wr.heap.size, 0, none⟩ 1 1 [.int .i64 _] rfl rfl (by rw [show wr.heap.size = (wr.setCell ⟨Q + 1, k, none⟩ (.int .i64 2000)).heap.size by simp]; exact cell_one_new _ _ _) (by simp [Value.oneCell']) (by unfold maxLen; omega) (by omega) (by simp; omega) ?_; intro v' w5 hown' hgrow _; obtain ⟨g', cap', rfl⟩ := ownsRow_succ hown'; have hQ5 := (hQ1.alloc _).kept hgrow (own_ne hr1 (by omega)); have hF5 := (hF1.alloc _).kept hgrow (own_ne hr1 (by omega)); have hB5 := (hB1.alloc (by simp; omega) _).grown hgrow (by simp; omega) (fun j e => by have := (hr1'.lt j e).1; omega); obtain ⟨z0, z1, z2, z3⟩ := hQ5.cells; have z4 := hQ5.free 3)
      exact ⟨⟨k + 1, _, by omega, by go_num, hQ5.setW _, by rw [List.range_succ, List.map_append]; exact own_far hown' (by omega) _, hF5.other (by omega) _, Below_set hB5 hwQ _, by have := hown'.lt g' rfl; simp; omega⟩, by simp [intOf]; omega⟩
    · obtain rfl : n = k := by omega
      obtain ⟨k', hk'⟩ : ∃ k', n = k' + 1 := ⟨n - 1, by omega⟩
      obtain ⟨GW, cw, hvf⟩ : ∃ g c, Value.slice vp n vc = .slice (some ⟨g, 0, none⟩) n c := by
        rcases hrow.2 with ⟨_, h0⟩ | ⟨g, cap, cur, h, _⟩
        · omega
        · exact ⟨g, cap, h⟩
      obtain ⟨rfl, rfl⟩ : vp = some ⟨GW, 0, none⟩ ∧ vc = cw := by injection hvf; exact ⟨by assumption, by assumption⟩
      have hW := IntsAt.of_own (a := fun _ => 2000) hrow
      obtain ⟨hWi, hWl⟩ := hW
      have hFf : IntsAt wr (Q + 1) n (fun _ => 2000) := hF.congr (fun i hi => by rw [if_pos hi])
      have hBs := hB.size
      clear hvf hrow hF
      have HK := Lib.hid hk'
      clear hk'
      obtain ⟨wo, rfl⟩ : ∃ wo : World, wo = wr := ⟨_, rfl⟩
      go_wp2_with fail
      go_loopw [11, 14] (fun v z wv => ∃ k : Nat, k ≤ n ∧ z = .int .i64 k ∧ wv.ownsRow wo.heap.size 22 1 v k ((List.range k).map fun _ => Value.slice (some ⟨Q + 1, 0, none⟩) n n) ∧ Below wo.heap.size wo wv) (fun _ z _ => n - (intOf z).toNat)
      case atStart => exact ⟨0, by omega, rfl, World.ownsRow_nil _ _ _ _, Below.refl _ _⟩
      case round =>
        obtain ⟨k, hk, rfl, hrow, hb⟩ := hrel
        by_cases hlt : k < n
        · go_wp2_with (at_builtin; refine wpList_append_own (o := ⟨some 54, _, _, _, _, _⟩) _ rfl _ _ 33 rfl wo.heap.size 22 i1 (.slice none 0 0) 1 24 Try.underlying33 hi' hy0 hy1 hy2 rfl (by decide) _ _ _ rfl (hrow.alloc _) ⟨wr.heap.size, 0, none⟩ 1 1 [.slice _ _ _] rfl rfl (cell_one_new _ _ _) (by simp [Value.oneCell']) (by unfold maxLen; omega) (by omega) (by have := hb.size; simp; omega) ?_; intro v' w5 hown' hgrow _; obtain ⟨g', cap', rfl⟩ := ownsRow_succ hown')
          refine ⟨⟨k + 1, by omega, by go_num, ?_, own_grown_below hb.size hb hrow hgrow⟩, by simp [intOf]; omega⟩
          rw [List.range_succ, List.map_append]
          simpa using hown'
        · obtain rfl : n = k := by omega
          have hk2 := HK.out
          obtain ⟨O, cO, rfl⟩ : ∃ g c, u11 = .slice (some ⟨g, 0, none⟩) n c := by
            rcases hrow.2 with ⟨_, h0⟩ | ⟨g, cap, cur, h, _⟩
            · omega
            · exact ⟨g, cap, h⟩
          clear hk2
          have hQ2 := hQ.below hb
          have hW2 := hWi.below hb
          have hF2 := hFf.below hb
          have hB3 := hB.trans (hb.mono hB.size)
          have hrr : ReadRows wr (some ⟨O, 0, none⟩) n n (fun _ => some ⟨Q + 1, 0, none⟩) (fun _ => n) (fun _ _ => 2000) := ⟨fun r hr => ⟨O, 0, rfl, (hrow.lt O rfl).2, fun j hj => by rw [Nat.zero_add, hrow.cellAt j (by omega)]; simp [hj]⟩, fun r hr => hF2.reads⟩
          obtain ⟨y0, y1, y2, y3⟩ := hQ2.cells
          clear hQ hWi hFf hB hb hrow hF2
          go_wp2_with fail
          refine (run_any c t 2000 n vc n cO _ _ (fun _ => 2000) (fun _ _ => 2000) _ _ wr (by omega) (by omega) hn1 hn8 ht (by omega) (fun i _ => Nat.le_refl _) (fun k _ i _ => by show 2000 ≤ 1000000; omega) hW2.reads hrr).mono ?_
          rintro e w6 ⟨G1, G2, G3, c1, U, S, rfl, hrun, _, hS, _, _, hb⟩
          have hSc : IntsAt w6 G2 n (fun _ => c) := hS.congr (fun i hi => (turns_law hn1 hn8 hc hrun i hi).symm)
          have hB4 := hB3.trans (hb.mono hB3.size)
          obtain ⟨tt, htt⟩ : ∃ tt, (t + n) % n = tt := ⟨_, rfl⟩
          rw [htt]
          have hSd := hSc.alloc (.cells #[.int .i64 (c : Int), .int .i64 (tt : Int), .int .i64 2000, .slice (some ⟨G1, 0, none⟩) n c1] 35)
          have hB5 := hB4.alloc hB4.size (.cells #[.int .i64 (c : Int), .int .i64 (tt : Int), .int .i64 2000, .slice (some ⟨G1, 0, none⟩) n c1] 35)
          clear hS hSc hB3 hb hB4 hrun htt y0 y1 y2 y3 hrr
          go_wp2_with fail
          go_loop [19] (fun z => ∃ k : Nat, k ≤ n ∧ z = .int .i64 k) (fun z => n - (intOf z).toNat)
          case atStart => exact ⟨0, by omega, rfl⟩
          case round =>
            obtain ⟨k, hk, rfl⟩ := hrel
            by_cases hlt : k < n
            · have x1 := hSd.cell k hlt
              have k0 : (0 : Int) ≤ (k : Int) := by omega
              have k1 : (k : Int) < (n : Int) := by omega
              go_wp2
              go_round
              case rel => exact ⟨k + 1, by omega, by go_num⟩
              case measure => simp [intOf]; omega
            · obtain rfl : n = k := by omega
              go_wp2
              go_ret
              exact ⟨rfl, hB5⟩
end Go.Proofs.Ytdodhfodojjfeaa
