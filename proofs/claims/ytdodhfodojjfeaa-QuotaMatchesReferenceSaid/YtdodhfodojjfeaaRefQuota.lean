/- The reference of chapter 36: units, level, Divide, Valid. Conditions: slices that can be read; numbers of 64 bits. -/
import Derived.Test.YtdodhfodojjfeaaQuotaRun
import Derived.Test.YtdodhfodojjfeaaLaw36Fair
namespace Go.Proofs.Ytdodhfodojjfeaa
open Go Go.RowKit Go.Shelf
theorem ref_units_any (p : Option Addr) (n c : Nat) (f : Nat → Int) (w : World) (hn : n ≤ maxLen) (hr : ReadsI w p n f) :
    Calls Try.prog 35 #[.slice p n c] w fun e w' => Says e (demandsB n f) ∧ w = w' := by
  have HR := Lib.hid hr
  clear hr
  unfold maxLen at hn
  by_cases h1 : 1 ≤ n
  · by_cases h8 : n ≤ 8
    · go_enter Try.func35, Try.ntmps35
      go_wp2_with fail
      go_loop [3] (fun i => ∃ k : Nat, k ≤ n ∧ i = .int .i64 k ∧ Hid (∀ j, j < k → 0 ≤ f j ∧ f j ≤ 1000000)) (fun i => n - (intOf i).toNat)
      case atStart => exact ⟨0, by omega, rfl, Lib.hid (fun j hj => by omega)⟩
      case round =>
        obtain ⟨k, hk, rfl, HG⟩ := hrel
        by_cases hlt : k < n
        · obtain ⟨b, off, rfl, hc⟩ := HR.out k hlt
          have c1 := hc k hlt
          clear hc
          by_cases hb : 0 ≤ f k ∧ f k ≤ 1000000
          · have HB := Lib.hid hb
            obtain ⟨hb1, hb2⟩ := hb
            go_wp2
            go_round
            case rel => exact ⟨k + 1, by omega, by go_num, Lib.hid (fun j hj => by
              by_cases e : j = k
              · subst e; exact HB.out
              · exact HG.out j (by omega))⟩
            case measure => simp [intOf]; omega
          · have HB : Hid (¬ demandsB n f) := Lib.hid (fun h => hb (h.2.2 k hlt))
            by_cases hb1 : 0 ≤ f k
            · have hb2 : ¬ f k ≤ 1000000 := fun h => hb ⟨hb1, h⟩
              clear hb
              go_wp2
              go_ret
              exact ⟨⟨false, rfl, by simp [HB.out]⟩, rfl⟩
            · clear hb
              go_wp2
              go_ret
              exact ⟨⟨false, rfl, by simp [HB.out]⟩, rfl⟩
        · obtain rfl : k = n := by omega
          have HB : Hid (demandsB k f) := Lib.hid ⟨h1, h8, HG.out⟩
          go_wp2
          go_ret
          exact ⟨⟨true, rfl, by simp [HB.out]⟩, rfl⟩
    · have HB : Hid (¬ demandsB n f) := Lib.hid (fun h => h8 h.2.1)
      go_enter Try.func35, Try.ntmps35
      go_wp2
      go_ret
      exact ⟨⟨false, rfl, by simp [HB.out]⟩, rfl⟩
  · have HB : Hid (¬ demandsB n f) := Lib.hid (fun h => h1 h.1)
    go_enter Try.func35, Try.ntmps35
    go_wp2
    go_ret
    exact ⟨⟨false, rfl, by simp [HB.out]⟩, rfl⟩
theorem lev_bd (d : Nat → Nat) (L k : Nat) (hd : ∀ i, i < k → d i ≤ 1000000) : lev d k L ≤ k * 1000000 := sumTo_bd _ k fun i hi => by have := hd i hi; show min (d i) L ≤ 1000000; omega
theorem level_any (p : Option Addr) (n c L : Nat) (d : Nat → Nat) (w : World) (hn : n ≤ 8) (hL : L ≤ 1000000) (hd : ∀ i, i < n → d i ≤ 1000000) (hr : ReadsI w p n (fun i => ((d i : Nat) : Int))) :
    Calls Try.prog 36 #[.slice p n c, .int .i64 (L : Int)] w fun e w' => e = .returned (.int .i64 (lev d n L : Nat)) ∧ w = w' := by
  have HR := Lib.hid hr
  clear hr
  go_enter Try.func36, Try.ntmps36
  go_wp2_with fail
  go_loop [5, 6] (fun v i => ∃ k : Nat, k ≤ n ∧ i = .int .i64 k ∧ v = .int .i64 (lev d k L : Nat)) (fun _ i => n - (intOf i).toNat)
  case atStart => exact ⟨0, by omega, rfl, rfl⟩
  case round =>
    obtain ⟨k, hk, rfl, rfl⟩ := hrel
    have hb := lev_bd d L k (fun i hi => hd i (by omega))
    by_cases hlt : k < n
    · obtain ⟨b, off, rfl, hc⟩ := HR.out k hlt
      have c1 : w.cell? ⟨b, off + k, none⟩ = some (.int .i64 ((d k : Nat) : Int)) := hc k hlt
      have hak := hd k hlt
      have HS : Hid (lev d (k + 1) L = lev d k L + min (d k) L) := rfl
      obtain ⟨x, hx⟩ : ∃ x, d k = x := ⟨_, rfl⟩
      obtain ⟨mm, hmm⟩ : ∃ m, min x L = m := ⟨_, rfl⟩
      rw [hx] at c1 hak HS
      rw [hmm] at HS
      have x1 : (if (L : Int) < (x : Int) then (L : Int) else (x : Int)) = (mm : Int) := by rw [← hmm]; split <;> omega
      have x2 : (if L < x then (L : Int) else (x : Int)) = (mm : Int) := by rw [← hmm]; split <;> omega
      have hm1 : mm ≤ 1000000 := by omega
      have hb2 : lev d k L ≤ 8000000 := by omega
      clear hc hx hmm hb
      go_wp2
      go_round
      case rel => exact ⟨k + 1, by omega, by go_num, by rw [HS.out]; go_num⟩
      case measure => simp [intOf]; omega
    · obtain rfl : k = n := by omega
      go_wp2
      go_ret
      exact ⟨rfl, rfl⟩
theorem lev_zero (d : Nat → Nat) : ∀ n, lev d n 0 = 0
  | 0 => rfl
  | n + 1 => by have := lev_zero d n; unfold lev at *; simp only [sumTo]; rw [this]; simp
/-- What the reference gives to a tenant before its k-th turn. -/
def given (d : Nat → Nat) (n t L r k i : Nat) : Nat := min (d i) L + if posOf n t i < k then extra d n t L r i else 0
theorem given_zero (d : Nat → Nat) (n t L r i : Nat) : given d n t L r 0 i = min (d i) L := by simp [given]
theorem given_all {d : Nat → Nat} {n t L r i : Nat} (hn : 0 < n) : given d n t L r n i = share d n t L r i := by
  unfold given share
  rw [if_pos (posOf_lt hn)]
theorem given_at {d : Nat → Nat} {n t L r k : Nat} (ht : t < n) (hk : k < n) : given d n t L r k ((t + k) % n) = min (d ((t + k) % n)) L := by
  unfold given
  rw [posOf_at ht hk, if_neg (by omega)]; rfl
theorem given_step {d : Nat → Nat} {n t L r k : Nat} (ht : t < n) (hk : k < n) : ∀ i, i < n → given d n t L r (k + 1) i = if i = (t + k) % n then min (d i) L + extra d n t L r i else given d n t L r k i := fun i hi => by
  unfold given
  by_cases e : i = (t + k) % n
  · rw [if_pos e, if_pos (by rw [e, posOf_at ht hk]; omega)]
  · rw [if_neg e]
    have hp : posOf n t i ≠ k := fun h => e (by rw [← h, at_posOf ht hi])
    by_cases h : posOf n t i < k
    · rw [if_pos h, if_pos (by omega)]
    · rw [if_neg h, if_neg (by omega)]
theorem extra_at {d : Nat → Nat} {n t L r k : Nat} (ht : t < n) (hk : k < n) : extra d n t L r ((t + k) % n) = if L < d ((t + k) % n) ∧ cnt d n t L k < r then 1 else 0 := by
  unfold extra
  rw [posOf_at ht hk]
theorem ref_law {d : Nat → Nat} {n c t L : Nat} (ht : t < n) (hd : ∀ i, i < n → d i ≤ 1000000) (h1 : lev d n L ≤ c) (h2 : L = 1000000 ∨ c < lev d n (L + 1)) : DivIs n d c t (share d n t L (c - lev d n L)) := by
  by_cases h : c < lev d n (L + 1)
  · rw [lev_succ d n t L (by omega)] at h
    exact .inr ⟨L, c - lev d n L, by omega, by show lev d n L + (c - lev d n L) = c; omega, fun i _ => rfl⟩
  · obtain rfl : L = 1000000 := by omega
    have hs : lev d n 1000000 = sumTo d n := sumTo_congr n fun i hi => Nat.min_eq_left (hd i hi)
    refine .inl ⟨by omega, fun i hi => ?_⟩
    have := share_le d n t 1000000 (c - lev d n 1000000) i
    have := hd i hi
    omega
set_option maxHeartbeats 2000000 in
theorem ref_divide_any (c n t : Nat) (d : Nat → Nat) (p : Option Addr) (cp : Nat) (w : World) (hc : c ≤ 1000000) (hn1 : 1 ≤ n) (hn : n ≤ 8) (ht : t < n) (hd : ∀ i, i < n → d i ≤ 1000000) (hr : ReadsI w p n (fun i => ((d i : Nat) : Int))) :
    Calls Try.prog 19 #[.int .i64 (c : Nat), .slice p n cp, .int .i64 (t : Nat)] w fun e w' =>
      ∃ (G : Nat) (a : Nat → Nat), e = .returned (.tuple #[.slice (some ⟨G, 0, none⟩) n n, .int .i64 0]) ∧ w.heap.size ≤ G ∧ IntsAt w' G n a ∧ DivIs n d c t a ∧ Below w.heap.size w w' := by
  have HR := Lib.hid hr
  have HD := Lib.hid hd
  have hok : demandsB n (fun i => ((d i : Nat) : Int)) := ⟨hn1, hn, fun i hi => by have := hd i hi; exact ⟨by show (0 : Int) ≤ (d i : Nat); omega, by show ((d i : Nat) : Int) ≤ 1000000; omega⟩⟩
  have HU := Lib.hid ((ref_units_any p n cp _ w (by unfold maxLen; omega) hr).mono fun e w' h => (⟨h.1.yes hok, h.2⟩ : e = Ending.returned (.bool true) ∧ w = w'))
  have d1 : decide ((c : Int) < 0) = false := decide_eq_false (by omega)
  have d2 : decide (1000000 < (c : Int)) = false := decide_eq_false (by omega)
  have d3 : decide ((t : Int) < 0) = false := decide_eq_false (by omega)
  have d4 : decide (n ≤ t) = false := decide_eq_false (by omega)
  clear hr hd hok
  go_enter Try.func19, Try.ntmps19
  go_wp2_with fail
  refine HU.out.mono ?_
  rintro e w1 ⟨rfl, rfl⟩
  clear HU
  go_wp2_with fail
  go_loopw [8, 9] (fun lo hi wv => ∃ a b : Nat, w = wv ∧ lo = .int .i64 a ∧ hi = .int .i64 b ∧ a ≤ b ∧ b ≤ 1000000 ∧ Hid (lev d n a ≤ c ∧ (b = 1000000 ∨ c < lev d n (b + 1)))) (fun lo hi _ => (intOf hi).toNat - (intOf lo).toNat)
  case atStart => exact ⟨0, 1000000, rfl, rfl, rfl, by omega, by omega, Lib.hid ⟨by rw [lev_zero]; omega, .inl rfl⟩⟩
  case round =>
    obtain ⟨a, b, rfl, rfl, rfl, hab, hb, HL⟩ := hrel
    by_cases hlt : a < b
    · go_wp2_with fail
      obtain ⟨md, hmd⟩ : ∃ md, (a + b + 1) / 2 = md := ⟨_, rfl⟩
      rw [show ((a : Int) + (b : Int) + 1) / 2 = (md : Int) by omega]
      have hmd1 : a < md ∧ md ≤ b := by omega
      obtain ⟨hmd1, hmd2⟩ := hmd1
      clear hmd
      refine (level_any p n cp md d w hn (by omega) HD.out HR.out).mono ?_
      rintro e w1 ⟨rfl, rfl⟩
      by_cases hle : lev d n md ≤ c
      · have HLE := Lib.hid hle
        obtain ⟨x, hx⟩ : ∃ x, lev d n md = x := ⟨_, rfl⟩
        rw [hx] at hle ⊢
        clear hx
        go_wp2_with fail
        exact ⟨⟨md, b, trivial, rfl, rfl, by omega, hb, Lib.hid ⟨HLE.out, HL.out.2⟩⟩, by simp [intOf]; omega⟩
      · have HLE := Lib.hid hle
        obtain ⟨x, hx⟩ : ∃ x, lev d n md = x := ⟨_, rfl⟩
        rw [hx] at hle ⊢
        clear hx
        go_wp2_with fail
        exact ⟨⟨a, md - 1, trivial, rfl, by go_num, by omega, by omega, Lib.hid ⟨HL.out.1, .inr (by rw [show md - 1 + 1 = md by omega]; have := HLE.out; omega)⟩⟩, by simp [intOf]; omega⟩
    · obtain rfl : a = b := by omega
      go_wp2_with fail
      refine (level_any p n cp a d w hn (by omega) HD.out HR.out).mono ?_
      rintro e w1 ⟨rfl, rfl⟩
      have hdiv := ref_law ht HD.out HL.out.1 HL.out.2
      have hx1 := HL.out.1
      obtain ⟨r, hr⟩ : ∃ r, c - lev d n a = r := ⟨_, rfl⟩
      obtain ⟨x, hx⟩ : ∃ x, lev d n a = x := ⟨_, rfl⟩
      rw [hr] at hdiv
      rw [hx] at hr hx1 ⊢
      have HDIV := Lib.hid hdiv
      obtain ⟨o, hmk, hmi⟩ := make_all n (by omega)
      have hF := hmi w
      have hB := (Below.refl w.heap.size w).alloc (Nat.le_refl _) o
      have hr2 : (c : Int) - (x : Int) = (r : Int) := by omega
      have HR2 := Lib.hid hr2
      have hrc : r ≤ 1000000 := by omega
      clear hx hdiv hmi HL hr2 hr
      go_wp2_with fail
      clear hmk
      obtain ⟨G, hG⟩ : ∃ G, w.heap.size = G := ⟨_, rfl⟩
      obtain ⟨w2, hw2⟩ : ∃ w2, w.alloc o = w2 := ⟨_, rfl⟩
      rw [hw2, hG] at hF
      rw [hw2] at hB ⊢
      rw [HR2.out]
      clear hx1
      go_loopw [13] (fun z wv => ∃ k : Nat, k ≤ n ∧ z = .int .i64 k ∧ IntsAt wv G n (fun i => if i < k then min (d i) a else 0) ∧ Below w.heap.size w wv) (fun z _ => n - (intOf z).toNat)
      case atStart => exact ⟨0, by omega, rfl, hF.congr (fun i _ => by rw [if_neg (by omega)]), hB⟩
      case round =>
        obtain ⟨k, hk, rfl, hF, hB⟩ := hrel
        by_cases hlt : k < n
        · obtain ⟨bb, off, rfl, hc⟩ := HR.out.below hB k hlt
          have c1 : wr.cell? ⟨bb, off + k, none⟩ = some (.int .i64 ((d k : Nat) : Int)) := hc k hlt
          have hak := HD.out k hlt
          have x3 := hF.cell k hlt
          have x4 := hF.free k
          rw [if_neg (by omega)] at x3
          have v0 : (0 : Int) ≤ (k : Int) := by omega
          have v1 : (k : Int) < (n : Int) := by omega
          obtain ⟨mm, hmm⟩ : ∃ m, min (d k) a = m := ⟨_, rfl⟩
          obtain ⟨y, hy⟩ : ∃ y, d k = y := ⟨_, rfl⟩
          rw [hy] at c1 hak hmm
          have x1 : (if (a : Int) < (y : Int) then (a : Int) else (y : Int)) = (mm : Int) := by rw [← hmm]; split <;> omega
          have x2 : (if a < y then (a : Int) else (y : Int)) = (mm : Int) := by rw [← hmm]; split <;> omega
          have hF2 := (hF.set k mm hlt).congr (b := fun i => if i < k + 1 then min (d i) a else 0) (fun i hi => by
            by_cases e : i = k
            · rw [if_pos (by omega), if_pos e, e, hy, hmm]
            · rw [if_neg e]
              by_cases h : i < k
              · rw [if_pos h, if_pos (by omega)]
              · rw [if_neg h, if_neg (by omega)])
          have hB2 := Below_set hB (b := G) (i := k) (by omega) (.int .i64 (mm : Int))
          clear hc hmm hy hF hB
          go_wp2_with fail
          exact ⟨⟨k + 1, by omega, by go_num, hF2, hB2⟩, by simp [intOf]; omega⟩
        · obtain rfl : n = k := by omega
          have hG0 : IntsAt wr G n (given d n t a r 0) := hF.congr fun i hi => by rw [given_zero, if_pos hi]
          clear hF
          go_wp2_with fail
          go_loopw [11, 14] (fun v z wv => ∃ k : Nat, k ≤ n ∧ z = .int .i64 k ∧ v = .int .i64 ((r - cnt d n t a k : Nat) : Int) ∧ IntsAt wv G n (given d n t a r k) ∧ Below w.heap.size w wv) (fun _ z _ => n - (intOf z).toNat)
          case atStart => exact ⟨0, by omega, rfl, by go_num, hG0, hB⟩
          case round =>
            obtain ⟨k, hk, rfl, rfl, hF, hB⟩ := hrel
            by_cases hlt : k < n
            · go_wp2_with fail
              obtain ⟨ii, hii⟩ : ∃ ii, (t + k) % n = ii := ⟨_, rfl⟩
              rw [show ((t : Int) + (k : Int)) % (n : Int) = (ii : Int) by rw [← hii]; rfl]
              have hi2 : ii < n := by rw [← hii]; exact Nat.mod_lt _ (by omega)
              obtain ⟨bb, off, rfl, hc⟩ := HR.out.below hB ii hi2
              have c1 : wr.cell? ⟨bb, off + ii, none⟩ = some (.int .i64 ((d ii : Nat) : Int)) := hc ii hi2
              have x3 := hF.cell ii hi2
              have x4 := hF.free ii
              have hga := given_at (d := d) (L := a) (r := r) ht hlt
              have hea := extra_at (d := d) (L := a) (r := r) ht hlt
              have hgs := given_step (d := d) (L := a) (r := r) ht hlt
              have hcn : cnt d n t a (k + 1) = cnt d n t a k + if a < d ((t + k) % n) then 1 else 0 := rfl
              rw [hii] at hga hea hgs hcn
              rw [hga] at x3
              have v0 : (0 : Int) ≤ (ii : Int) := by omega
              have v1 : (ii : Int) < (n : Int) := by omega
              have hdi := HD.out ii hi2
              have HGS := Lib.hid hgs
              have HEA := Lib.hid hea
              have HCN := Lib.hid hcn
              have HGA := Lib.hid hga
              clear hgs hea hcn hc hga hii
              obtain ⟨y, hy⟩ : ∃ y, d ii = y := ⟨_, rfl⟩
              rw [hy] at c1 hdi x3
              obtain ⟨cn, hcn⟩ : ∃ y, cnt d n t a k = y := ⟨_, rfl⟩
              rw [hcn]
              obtain ⟨mm, hmm⟩ : ∃ m, min y a = m := ⟨_, rfl⟩
              rw [hmm] at x3
              have HMM := Lib.hid hmm
              have HY := Lib.hid hy
              have HCN2 := Lib.hid hcn
              by_cases hq : cn < r
              · by_cases hya : a < y
                · have g1 : decide (0 < ((r - cn : Nat) : Int)) = true := decide_eq_true (by omega)
                  have g2 : decide ((mm : Int) < (y : Int)) = true := decide_eq_true (by omega)
                  have g3 : decide (mm < y) = true := decide_eq_true (by omega)
                  have g4 : decide (0 < r - cn) = true := decide_eq_true (by omega)
                  have hm2 : mm ≤ 1000000 := by omega
                  clear hmm hy hcn
                  go_quiet (fail)
                  go_wp2_with fail
                  rw [show (mm : Int) + 1 = ((mm + 1 : Nat) : Int) by omega]
                  exact ⟨⟨k + 1, by omega, by go_num, by rw [HCN.out, HY.out, HCN2.out, if_pos hya]; exact congrArg _ (by omega), ((hF.drewN nq).set ii (mm + 1) hi2).congr (fun i hi => by
                    rw [HGS.out i hi]
                    by_cases e : i = ii
                    · rw [if_pos e, if_pos e, e, HEA.out, HY.out, HCN2.out, HMM.out, if_pos ⟨hya, hq⟩]
                    · rw [if_neg e, if_neg e]), Below_set (Below_drewN hB nq) (by omega) _⟩, by simp [intOf]; omega⟩
                · have g1 : decide (0 < ((r - cn : Nat) : Int)) = true := decide_eq_true (by omega)
                  have g2 : decide ((mm : Int) < (y : Int)) = false := decide_eq_false (by omega)
                  have g3 : decide (mm < y) = false := decide_eq_false (by omega)
                  have g4 : decide (0 < r - cn) = true := decide_eq_true (by omega)
                  clear hmm hy hcn
                  go_quiet (fail)
                  go_wp2_with fail
                  exact ⟨⟨k + 1, by omega, by go_num, by rw [HCN.out, HY.out, HCN2.out, if_neg hya]; rfl, (hF.drewN nq).congr (fun i hi => by
                    rw [HGS.out i hi]
                    by_cases e : i = ii
                    · rw [if_pos e, e, HEA.out, HGA.out, HY.out, if_neg (fun x => hya x.1)]; rfl
                    · rw [if_neg e]), Below_drewN hB nq⟩, by simp [intOf]; omega⟩
              · have g1 : decide (0 < ((r - cn : Nat) : Int)) = false := decide_eq_false (by omega)
                have g4 : decide (0 < r - cn) = false := decide_eq_false (by omega)
                clear hmm hy hcn
                go_quiet (fail)
                go_wp2_with fail
                exact ⟨⟨k + 1, by omega, by go_num, by rw [HCN.out, HCN2.out]; exact congrArg _ (by omega), (hF.drewN nq).congr (fun i hi => by
                    rw [HGS.out i hi]
                    by_cases e : i = ii
                    · rw [if_pos e, e, HEA.out, HGA.out, HCN2.out, if_neg (fun x => hq x.2)]; rfl
                    · rw [if_neg e]), Below_drewN hB nq⟩, by simp [intOf]; omega⟩
            · obtain rfl : n = k := by omega
              go_wp2_with fail
              refine bodyPost_ret (v := .tuple #[.slice (some ⟨G, 0, none⟩) n n, .int .i64 0]) (by simp [results, Try.results19, go_sem]) rfl ?_
              exact ⟨G, _, rfl, by omega, hF.congr (fun i hi => (given_all (by omega)).symm), HDIV.out, hB⟩
end Go.Proofs.Ytdodhfodojjfeaa
