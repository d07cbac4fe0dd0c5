/- The law of chapter 6: SeedChosen returns true. Conditions: a list that can be read; the table holds its words. -/
import Derived.Test.YtfdmmobadmmhdaaDoorLaw06Sane
import Derived.Test.YtfdmmobadmmhdaaDoorSeedChosenLaw
import Derived.Test.YtfdmmobadmmhdaaDoorSlices
import Derived.Maps.AppendAt
import Derived.RangeFuncBox
namespace Go.Proofs.YtfdmmobadmmhdaaDoor
open Go Go.RowKit
theorem IntsIn.reads {W : World} {p : Option Addr} {n : Nat} {f : Nat → Int} (h : IntsIn W p n f) : ReadsI W p n f := fun i hi => by
  obtain ⟨b, off, hp, _, hc⟩ := h.cell i hi
  exact ⟨b, off, hp, hc⟩
set_option maxHeartbeats 1000000 in
theorem same06_any (p q : Option Addr) (n m c d : Nat) (f g : Nat → Int) (w : World) (hn : n ≤ 1000000000) (hm : m ≤ 1000000000) (hp : ReadsI w p n f) (hq : ReadsI w q m g) :
    Calls Tryd.prog 24 #[.slice p n c, .slice q m d] w fun e w' => (∃ b : Bool, e = .returned (.bool b) ∧ (b = true ↔ n = m ∧ ∀ i, i < n → f i = g i)) ∧ Below w.heap.size w w' := by
  have HP := Lib.hid hp
  have HQ := Lib.hid hq
  clear hp hq
  by_cases h : (n : Int) = (m : Int)
  · obtain rfl : n = m := by omega
    clear h
    go_enter Tryd.func24, Tryd.ntmps24
    go_wp2_with fail
    go_loopw [5] (fun i wr => ∃ k : Nat, k ≤ n ∧ i = .int .i64 k ∧ Hid (∀ j, j < k → f j = g j) ∧ Below w.heap.size w wr) (fun i _ => n - (intOf i).toNat)
    case atStart => exact ⟨0, by omega, rfl, Lib.hid (fun j h => by omega), Below.refl _ _⟩
    case round =>
      obtain ⟨k, hk, rfl, HF, hB⟩ := hrel
      by_cases hlt : k < n
      · obtain ⟨b, o, rfl, hc⟩ := HP.out.below hB k hlt
        obtain ⟨b', o', rfl, hc'⟩ := HQ.out.below hB k hlt
        have c1 := hc k hlt
        have c2 := hc' k hlt
        have v0 : (0 : Int) ≤ (k : Int) := by omega
        have v1 : (k : Int) < (n : Int) := by omega
        clear hc hc'
        obtain ⟨x, hx⟩ : ∃ x, f k = x := ⟨_, rfl⟩
        obtain ⟨y, hy⟩ : ∃ y, g k = y := ⟨_, rfl⟩
        rw [hx] at c1
        rw [hy] at c2
        have HX := Lib.hid hx
        have HY := Lib.hid hy
        clear hx hy
        by_cases e : x = y
        · subst e
          go_wp2_with fail
          go_quiet (fail)
          go_wp2_with fail
          exact ⟨⟨k + 1, by omega, by go_num, Lib.hid (fun j hj => by
            by_cases e : j = k
            · rw [e, HX.out, HY.out]
            · exact HF.out j (by omega)), Below_dn hB _⟩, by simp [intOf]; omega⟩
        · go_wp2_with fail
          go_quiet (fail)
          go_wp2_with fail
          go_ret
          exact ⟨⟨_, rfl, by simp, fun h => absurd (by rw [← HX.out, ← HY.out]; exact h.2 k hlt) e⟩, Below_dn hB _⟩
      · obtain rfl : n = k := by omega
        go_wp2_with fail
        go_ret
        exact ⟨⟨_, rfl, fun _ => ⟨trivial, HF.out⟩, fun _ => rfl⟩, hB⟩
  · go_enter Tryd.func24, Tryd.ntmps24
    go_wp2_with fail
    go_ret
    exact ⟨⟨_, rfl, by simp, fun hx => absurd (by rw [hx.1]) h⟩, Below.refl _ _⟩
theorem make_ints (W : World) (n : Nat) (hn : n ≤ 1000) : ∃ o : Obj, (Instr.makeSlice 31 (.int .i64 (n : Nat)) (.int .i64 (n : Nat))).run Tryd.prog W = .ok (.slice (some ⟨W.heap.size, 0, none⟩) n n) (W.alloc o) ∧ UBox .i64 (W.alloc o) W.heap.size n (fun _ => 0) := by
  obtain ⟨i0, hi, hz0, hz1, hz2⟩ := infoI64
  have h := run_make (P := Tryd.prog) W 31 3 i0 (.int .i64 0) Tryd.underlying31 hi hz0 .i64 .i64 (n : Int) (n : Int) (by omega) (by omega) (by rw [hz2]; omega) (by omega)
  simp only [Int.toNat_natCast] at h
  refine ⟨_, h, ?_⟩
  have e : madeCells (Value.int .i64 0).cells (n * i0.size) = ((List.range n).map fun _ => Value.int .i64 0).toArray := by
    rw [hz1]
    apply Array.toList_inj.1
    rw [made_one _ rfl]
    apply List.ext_getElem <;> simp
  rw [e]
  exact UBox.new W _ _ _ (by simp) (fun i hi => by simp [hi])
/-- An owned row of integers is read. -/
theorem own_reads {W : World} {base n : Nat} {t : TypeId} {v : Value} {f : Nat → Int} (h : W.ownsRow base t 1 v n ((List.range n).map fun i => .int .i64 (f i))) : ∃ p c, v = .slice p n c ∧ ReadsI W p n f := by
  rcases Nat.eq_zero_or_pos n with h0 | h0
  · subst h0
    rcases h.2 with ⟨rfl, _⟩ | ⟨g, cap, cur, rfl, _⟩
    · exact ⟨none, 0, rfl, fun i hi => by omega⟩
    · exact ⟨_, _, rfl, fun i hi => by omega⟩
  · obtain ⟨k, rfl⟩ : ∃ k, n = k + 1 := ⟨n - 1, by omega⟩
    obtain ⟨g, cap, rfl⟩ := ownsRow_succ h
    refine ⟨_, _, rfl, fun i _ => ⟨g, 0, rfl, fun j hj => ?_⟩⟩
    have h2 := h.cells (g := g) rfl j (.int .i64 (f j)) (by simp [hj])
    rwa [addr_add] at h2
def wtF (a : Nat → Int) (i : Nat) : Int := pickF (a i) 20
theorem wt_ok (a : Nat → Int) (n : Nat) : wOk (wtF a) n := fun i _ => by
  have := pickF_range (a i) 20 (by decide)
  unfold wtF
  omega
theorem wt_sum (a : Nat → Int) : ∀ k, 0 ≤ sumI (wtF a) k ∧ sumI (wtF a) k ≤ 20 * k
  | 0 => ⟨Int.le_refl _, by simp [sumI]⟩
  | k + 1 => by
    have h := wt_sum a k
    have := pickF_range (a k) 20 (by decide)
    unfold sumI wtF
    unfold wtF at h
    omega
set_option maxRecDepth 100000 in
set_option maxHeartbeats 4000000 in
theorem chosen_any (p : Option Addr) (n c : Nat) (a : Nat → Int) (w : World) (hr : IntsIn w p n a) (hT : RoundOk w) :
    Calls Tryd.prog 9 #[.slice p n c] w fun e w' => e = .returned (.bool true) ∧ Below w.heap.size w w' := by
  have HT := Lib.hid hT
  have HR := Lib.hid hr.reads
  have HBD := Lib.hid hr.bd
  have hnm := hr.small
  unfold maxLen at hnm
  obtain ⟨i0, hi, hz0, hz1, hz2⟩ := infoI64
  clear hT hr
  go_enter Tryd.func9, Tryd.ntmps9
  go_wp2_with fail
  refine (sane_any _ HT.out).mono ?_
  rintro e w1 ⟨rfl, hb1⟩
  have HB1 := Lib.hid hb1
  clear hb1
  go_wp2_with fail
  go_loopw [4, 5, 6] (fun v4 v5 v6 wr => ∃ k : Nat, k ≤ n ∧ k ≤ 12 ∧ v6 = .int .i64 (k : Nat) ∧ v5 = .int .i64 (sumI (wtF a) k) ∧ wr.ownsRow w.heap.size 3 1 v4 k ((List.range k).map fun i => .int .i64 (wtF a i)) ∧ Below w.heap.size w wr) (fun _ _ v6 _ => 12 - (intZ v6).toNat)
  case atStart => exact ⟨0, by omega, by omega, rfl, rfl, World.ownsRow_nil _ _ _ _, HB1.out⟩
  case round =>
    obtain ⟨k, hk, hk12, rfl, rfl, hrow, hB⟩ := hrel
    have hsm := wt_sum a k
    by_cases hgo : k < n ∧ k < 12
    · obtain ⟨hlt, hlt2⟩ := hgo
      obtain ⟨b, o, rfl, hc⟩ := HR.out.below hB k hlt
      have c1 := hc k hlt
      have v0 : (0 : Int) ≤ (k : Int) := by omega
      have v1 : (k : Int) < (n : Int) := by omega
      have v2 : (k : Int) < 12 := by omega
      have hbd := HBD.out k hlt
      have PK := Lib.hid (fun W => pick_any (a k) 20 W hbd (by decide) (by decide))
      have hpr := pickF_range (a k) 20 (by decide)
      have HNX : Hid (sumI (wtF a) (k + 1) = sumI (wtF a) k + pickF (a k) 20) := Lib.hid rfl
      have HWK : Hid (wtF a k = pickF (a k) 20) := Lib.hid rfl
      obtain ⟨x, hx⟩ : ∃ x, pickF (a k) 20 = x := ⟨_, rfl⟩
      obtain ⟨s, hs⟩ : ∃ s, sumI (wtF a) k = s := ⟨_, rfl⟩
      rw [hx] at PK hpr HNX HWK
      rw [hs] at hsm HNX ⊢
      clear hx hs hc hbd
      go_wp2_with fail
      refine (PK.out _).mono ?_
      rintro e w2 ⟨rfl, rfl⟩
      go_wp2_with (at_builtin; refine wpList_append_own _ rfl _ _ 31 rfl w.heap.size 3 i0 (.int .i64 0) 1 8 Tryd.underlying31 hi hz0 hz1 hz2 rfl (by decide) _ _ _ rfl (hrow.alloc _) ⟨wr.heap.size, 0, none⟩ 1 1 [.int .i64 _] rfl rfl (cell_one_new _ _ _) (by simp [Value.oneCell']) (by unfold maxLen; omega) (by omega) (by have := hB.size; simp; omega) ?_; intro v' w1 hown' hgrow _; obtain ⟨g', cap', rfl⟩ := ownsRow_succ hown'; have hbb := own_grown_below hB.size hB hrow hgrow; have c2 : w1.cell? ⟨b, o + k, none⟩ = some (.int .i64 (a k)) := (by
          obtain ⟨b2, o2, he2, hc2⟩ := HR.out.below hbb k hlt
          cases he2
          exact hc2 k hlt))
      refine (PK.out _).mono ?_
      rintro e w4 ⟨rfl, rfl⟩
      go_wp2_with fail
      refine ⟨⟨k + 1, by omega, by omega, by go_num, by rw [HNX.out], ?_, hbb⟩, by simp [intZ]; omega⟩
      rw [List.range_succ, List.map_append]
      simpa [HWK.out] using hown'
    · obtain ⟨pv, cv, rfl, hrd⟩ := own_reads hrow
      have HRD := Lib.hid hrd
      have HBr := Lib.hid hB
      have HOK := Lib.hid (wt_ok a k)
      obtain ⟨S, hS⟩ : ∃ S, sumI (wtF a) k = S := ⟨_, rfl⟩
      have HS := Lib.hid hS
      rw [hS] at hsm ⊢
      obtain ⟨o, hmk, hub⟩ := make_ints wr k (by omega)
      have hal := (Below.refl wr.heap.size wr).alloc (Nat.le_refl _) o
      have hex : ¬ ((k : Int) < (n : Int)) ∨ ((k : Int) < (n : Int) ∧ ¬ ((k : Int) < 12)) := by omega
      clear hS hrd hgo
      rcases hex with hex | ⟨hex, hex2⟩
      · clear hrow hB
        obtain ⟨wo, rfl⟩ : ∃ W : World, W = wr := ⟨_, rfl⟩
        obtain ⟨G, hG⟩ : ∃ G, wo.heap.size = G := ⟨_, rfl⟩
        rw [hG] at hmk hub hal
        have HUB := Lib.hid (hub.congr (f' := manyF (wtF a) 0) (fun i hi => many_zero HOK.out hi))
        have HAL := Lib.hid hal
        have HG := Lib.hid hG
        clear hub hal
        go_wp2_with fail
        clear hmk
        go_loopw [8, 9] (fun v8 v9 W => ∃ d v : Nat, v9 = .int .i64 (d : Nat) ∧ (d : Int) ≤ S ∧ v8 = .int .i64 (v : Nat) ∧ v ≤ k ∧ Hid (sumI (wtF a) v ≤ (d : Int)) ∧ UBox .i64 W G k (manyF (wtF a) (d : Int)) ∧ Below G wo W) (fun _ v9 _ => S.toNat - (intZ v9).toNat)
        case atStart => exact ⟨0, 0, rfl, by omega, rfl, by omega, Lib.hid (Int.le_refl _), HUB.out, HAL.out⟩
        case round =>
          obtain ⟨d, v, rfl, hd, rfl, hv, hsv, hub, hb⟩ := hrel
          have HBW := Lib.hid hb
          have HUW := Lib.hid hub
          clear hb hub
          have HCH := Lib.hid (choose_any pv k cv (wtF a) (d : Int) wr (by omega) (HRD.out.below (by rw [HG.out]; exact HBW.out)))
          by_cases hlt : (d : Int) < S
          · obtain ⟨j, hj, hjv, hje, hj1, hj2⟩ := cho_in (d := (d : Int)) (by omega) HOK.out (by omega) (by rw [HS.out]; exact hlt)
            have hvj := cho_next HOK.out hv hsv.out hj hj2
            rw [hjv, hje] at HCH
            have HJ := Lib.hid (And.intro hj1 hj2)
            have q1 : ¬ (j : Int) < (v : Int) := by omega
            have q2 : (j : Int) < (k : Int) := by omega
            have q3 : (0 : Int) ≤ (j : Int) := by omega
            have q4 := many_le HOK.out (d : Int) hj
            have q5 := pickF_range (a j) 20 (by decide)
            have HNX := Lib.hid (fun i (hi : i < k) => many_step HOK.out hj hj1 hj2 hi)
            obtain ⟨m, hm⟩ : ∃ m, manyF (wtF a) (d : Int) j = m := ⟨_, rfl⟩
            have q6 : (m : Int) < 20 := by rw [← hm]; unfold wtF at q4 ⊢; omega
            have HM := Lib.hid hm
            clear hj1 hj2 hjv hje q4 q5 hm hsv
            go_wp2_with fail
            refine HCH.out.mono ?_
            rintro e w3 ⟨rfl, hb3⟩
            have hub3 := HUW.out.below hb3
            have x1 := hub3.cell j hj
            rw [HM.out] at x1
            have f1 := hub3.free j
            have HUB3 := Lib.hid hub3
            have HB3 := Lib.hid (HBW.out.trans (hb3.mono (by rw [← HG.out]; exact HBW.out.size)))
            clear hub3 hb3
            go_wp2_with fail
            refine ⟨⟨d + 1, j, by go_num, by omega, rfl, by omega, Lib.hid (by have := HJ.out.1; omega), ?_, Below_set' HB3.out (Nat.le_refl _) _⟩, by simp [intZ]; omega⟩
            have h5 := HUB3.out.set j hj (m + 1)
            refine h5.congr fun i hi => ?_
            rw [show ((d + 1 : Nat) : Int) = (d : Int) + 1 by omega, HNX.out i hi, HM.out]
          · obtain rfl : S = (d : Int) := by omega
            obtain ⟨hcv, hce⟩ := cho_out (d := (d : Int)) HOK.out (by omega) (by rw [HS.out]; exact Int.le_refl _)
            rw [hcv, hce] at HCH
            clear hcv hce
            go_wp2_with fail
            refine HCH.out.mono ?_
            rintro e w3 ⟨rfl, hb3⟩
            have HB3 := Lib.hid (HBW.out.trans (hb3.mono (by rw [← HG.out]; exact HBW.out.size)))
            have HSM := Lib.hid (same06_any (some ⟨G, 0, none⟩) pv k k k cv (fun i => ((manyF (wtF a) (d : Int) i : Nat) : Int)) (wtF a) w3 (by omega) (by omega)
              (fun i hi => ⟨G, 0, rfl, fun j hj => by rw [Nat.zero_add]; exact (HUW.out.below hb3).cell j hj⟩) (HRD.out.below (by rw [HG.out]; exact HB3.out)))
            clear hb3
            go_wp2_with fail
            refine HSM.out.mono ?_
            rintro e w4 ⟨⟨b, rfl, hbe⟩, hb4⟩
            obtain rfl : b = true := hbe.2 ⟨trivial, fun i hi => by rw [← HS.out]; exact many_end HOK.out hi⟩
            have HB4 := Lib.hid (HBr.out.trans ((HB3.out.trans (hb4.mono (by rw [← HG.out]; exact HB3.out.size))).mono (by rw [← HG.out]; exact HBr.out.size)))
            clear hbe hb4
            go_wp2_with fail
            go_ret
            exact ⟨rfl, HB4.out⟩
      · clear hrow hB
        obtain ⟨wo, rfl⟩ : ∃ W : World, W = wr := ⟨_, rfl⟩
        obtain ⟨G, hG⟩ : ∃ G, wo.heap.size = G := ⟨_, rfl⟩
        rw [hG] at hmk hub hal
        have HUB := Lib.hid (hub.congr (f' := manyF (wtF a) 0) (fun i hi => many_zero HOK.out hi))
        have HAL := Lib.hid hal
        have HG := Lib.hid hG
        clear hub hal
        go_wp2_with fail
        clear hmk
        go_loopw [8, 9] (fun v8 v9 W => ∃ d v : Nat, v9 = .int .i64 (d : Nat) ∧ (d : Int) ≤ S ∧ v8 = .int .i64 (v : Nat) ∧ v ≤ k ∧ Hid (sumI (wtF a) v ≤ (d : Int)) ∧ UBox .i64 W G k (manyF (wtF a) (d : Int)) ∧ Below G wo W) (fun _ v9 _ => S.toNat - (intZ v9).toNat)
        case atStart => exact ⟨0, 0, rfl, by omega, rfl, by omega, Lib.hid (Int.le_refl _), HUB.out, HAL.out⟩
        case round =>
          obtain ⟨d, v, rfl, hd, rfl, hv, hsv, hub, hb⟩ := hrel
          have HBW := Lib.hid hb
          have HUW := Lib.hid hub
          clear hb hub
          have HCH := Lib.hid (choose_any pv k cv (wtF a) (d : Int) wr (by omega) (HRD.out.below (by rw [HG.out]; exact HBW.out)))
          by_cases hlt : (d : Int) < S
          · obtain ⟨j, hj, hjv, hje, hj1, hj2⟩ := cho_in (d := (d : Int)) (by omega) HOK.out (by omega) (by rw [HS.out]; exact hlt)
            have hvj := cho_next HOK.out hv hsv.out hj hj2
            rw [hjv, hje] at HCH
            have HJ := Lib.hid (And.intro hj1 hj2)
            have q1 : ¬ (j : Int) < (v : Int) := by omega
            have q2 : (j : Int) < (k : Int) := by omega
            have q3 : (0 : Int) ≤ (j : Int) := by omega
            have q4 := many_le HOK.out (d : Int) hj
            have q5 := pickF_range (a j) 20 (by decide)
            have HNX := Lib.hid (fun i (hi : i < k) => many_step HOK.out hj hj1 hj2 hi)
            obtain ⟨m, hm⟩ : ∃ m, manyF (wtF a) (d : Int) j = m := ⟨_, rfl⟩
            have q6 : (m : Int) < 20 := by rw [← hm]; unfold wtF at q4 ⊢; omega
            have HM := Lib.hid hm
            clear hj1 hj2 hjv hje q4 q5 hm hsv
            go_wp2_with fail
            refine HCH.out.mono ?_
            rintro e w3 ⟨rfl, hb3⟩
            have hub3 := HUW.out.below hb3
            have x1 := hub3.cell j hj
            rw [HM.out] at x1
            have f1 := hub3.free j
            have HUB3 := Lib.hid hub3
            have HB3 := Lib.hid (HBW.out.trans (hb3.mono (by rw [← HG.out]; exact HBW.out.size)))
            clear hub3 hb3
            go_wp2_with fail
            refine ⟨⟨d + 1, j, by go_num, by omega, rfl, by omega, Lib.hid (by have := HJ.out.1; omega), ?_, Below_set' HB3.out (Nat.le_refl _) _⟩, by simp [intZ]; omega⟩
            have h5 := HUB3.out.set j hj (m + 1)
            refine h5.congr fun i hi => ?_
            rw [show ((d + 1 : Nat) : Int) = (d : Int) + 1 by omega, HNX.out i hi, HM.out]
          · obtain rfl : S = (d : Int) := by omega
            obtain ⟨hcv, hce⟩ := cho_out (d := (d : Int)) HOK.out (by omega) (by rw [HS.out]; exact Int.le_refl _)
            rw [hcv, hce] at HCH
            clear hcv hce
            go_wp2_with fail
            refine HCH.out.mono ?_
            rintro e w3 ⟨rfl, hb3⟩
            have HB3 := Lib.hid (HBW.out.trans (hb3.mono (by rw [← HG.out]; exact HBW.out.size)))
            have HSM := Lib.hid (same06_any (some ⟨G, 0, none⟩) pv k k k cv (fun i => ((manyF (wtF a) (d : Int) i : Nat) : Int)) (wtF a) w3 (by omega) (by omega)
              (fun i hi => ⟨G, 0, rfl, fun j hj => by rw [Nat.zero_add]; exact (HUW.out.below hb3).cell j hj⟩) (HRD.out.below (by rw [HG.out]; exact HB3.out)))
            clear hb3
            go_wp2_with fail
            refine HSM.out.mono ?_
            rintro e w4 ⟨⟨b, rfl, hbe⟩, hb4⟩
            obtain rfl : b = true := hbe.2 ⟨trivial, fun i hi => by rw [← HS.out]; exact many_end HOK.out hi⟩
            have HB4 := Lib.hid (HBr.out.trans ((HB3.out.trans (hb4.mono (by rw [← HG.out]; exact HB3.out.size))).mono (by rw [← HG.out]; exact HBr.out.size)))
            clear hbe hb4
            go_wp2_with fail
            go_ret
            exact ⟨rfl, HB4.out⟩
end Go.Proofs.YtfdmmobadmmhdaaDoor
