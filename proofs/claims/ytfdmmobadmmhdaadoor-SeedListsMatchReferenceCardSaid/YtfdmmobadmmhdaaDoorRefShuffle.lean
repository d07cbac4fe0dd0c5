/- The reference of chapter 6: Shuffle, Sample, Choose; and package seed's in the same words. Conditions: lists that can be read; the table holds its words. -/
import Derived.Test.YtfdmmobadmmhdaaDoorRefSeed
import Derived.Test.YtfdmmobadmmhdaaDoorLaw06Chosen
namespace Go.Proofs.YtfdmmobadmmhdaaDoor
open Go Go.RowKit
/-- The first n numbers of a block of the call's own. -/
def RBox (W : World) (B n : Nat) (f : Nat → Nat) : Prop := ∃ (cs : Array Value) (t : TypeId), W.heap[B]? = some (.cells cs t (0, 0)) ∧ n ≤ cs.size ∧ ∀ i, i < n → cs[i]? = some (.int .i64 (f i : Nat))
section
variable {W W' : World} {B n : Nat} {f : Nat → Nat}
theorem RBox.lt (h : RBox W B n f) : B < W.heap.size := by
  obtain ⟨cs, t, h, _⟩ := h
  exact (Array.getElem?_eq_some_iff.1 h).1
theorem RBox.cell (h : RBox W B n f) (i : Nat) (hi : i < n) : W.cell? ⟨B, i, none⟩ = some (.int .i64 (f i : Nat)) := by
  obtain ⟨cs, t, h, _, hc⟩ := h
  unfold World.cell?
  simp only [h]
  exact hc i hi
theorem RBox.free (h : RBox W B n f) (i : Nat) : W.frozen? ⟨B, i, none⟩ = false := by
  obtain ⟨cs, t, h, _⟩ := h
  unfold World.frozen?
  rw [h]
  simp
theorem RBox.below (h : RBox W B n f) (hb : Below W.heap.size W W') : RBox W' B n f := by
  have hl := h.lt
  obtain ⟨cs, t, h, hc⟩ := h
  exact ⟨cs, t, (hb.block _ hl).trans h, hc⟩
theorem RBox.set (h : RBox W B n f) (j : Nat) (hj : j < n) (x : Nat) : RBox (W.setCell ⟨B, j, none⟩ (.int .i64 (x : Nat))) B n (fun i => if i = j then x else f i) := by
  obtain ⟨cs, t, h, hs, hc⟩ := h
  have hl := (Array.getElem?_eq_some_iff.1 (hc j hj)).1
  refine ⟨_, t, heap_set' h _, by simpa using hs, fun i hi => ?_⟩
  by_cases e : i = j
  · subst e
    rw [Array.getElem?_setIfInBounds_self_of_lt hl]
    simp
  · rw [Array.getElem?_setIfInBounds_ne (by omega), hc i hi]
    simp [e]
theorem RBox.congr {f' : Nat → Nat} (h : RBox W B n f) (e : ∀ i, i < n → f' i = f i) : RBox W B n f' := by
  obtain ⟨cs, t, h, hs, hc⟩ := h
  exact ⟨cs, t, h, hs, fun i hi => by rw [hc i hi, e i hi]⟩
theorem RBox.reads (h : RBox W B n f) : ReadsI W (some ⟨B, 0, none⟩) n (fun i => (f i : Nat)) := fun _ _ => ⟨B, 0, rfl, fun j hj => by rw [Nat.zero_add]; exact h.cell j hj⟩
theorem RBox.of_own {base k : Nat} {t : TypeId} {v : Value} (h : W.ownsRow base t 1 v (k + 1) ((List.range (k + 1)).map fun i => .int .i64 (f i : Nat))) : ∃ g cap, v = .slice (some ⟨g, 0, none⟩) (k + 1) cap ∧ k + 1 ≤ cap ∧ base ≤ g ∧ RBox W g (k + 1) f := by
  rcases h.2 with ⟨_, h0⟩ | ⟨g, cap, cur, rfl, hb, hg, h1, h2, hs, ht⟩
  · omega
  · refine ⟨g, cap, rfl, h1, hb, cur, t, hg, by rw [hs]; omega, fun i hi => ?_⟩
    have h3 := h.cells (g := g) rfl i (.int .i64 (f i : Nat)) (by simp [hi])
    rw [addr_add0] at h3
    unfold World.cell? at h3
    simp only [hg] at h3
    exact h3
end
/-- What a list of an optional permutation reads. -/
def ListSpec (r : Option (Nat → Nat)) (len m : Nat) (f : Nat → Int) (er : Int) : Prop := (r = none ∧ m = 0 ∧ er = 60) ∨ ∃ g, r = some g ∧ m = len ∧ er = 0 ∧ ∀ i, i < m → f i = (g i : Nat)
theorem ListSpec.unique {r : Option (Nat → Nat)} {len m m' : Nat} {f f' : Nat → Int} {er er' : Int} (h : ListSpec r len m f er) (h' : ListSpec r len m' f' er') : m = m' ∧ er = er' ∧ ∀ i, i < m → f i = f' i := by
  rcases h with ⟨rfl, rfl, rfl⟩ | ⟨g, rfl, rfl, rfl, h⟩
  · rcases h' with ⟨_, rfl, rfl⟩ | ⟨g', h1, _⟩
    · exact ⟨rfl, rfl, fun i hi => by omega⟩
    · cases h1
  · rcases h' with ⟨h1, _⟩ | ⟨g', h1, rfl, rfl, h'⟩
    · cases h1
    · cases h1
      exact ⟨rfl, rfl, fun i hi => by rw [h i hi, h' i hi]⟩
/-- A list and an error are returned. -/
def RetList (r : Option (Nat → Nat)) (len : Nat) (e : Ending) (w' : World) : Prop :=
  ∃ (p : Option Addr) (m c : Nat) (f : Nat → Int) (er : Int), e = .returned (.tuple #[.slice p m c, .int .i64 er]) ∧ ListSpec r len m f er ∧ ReadsI w' p m f ∧ m ≤ c ∧ m ≤ 1000
def sampR (s : ByteArray) (n k : Int) : Option (Nat → Nat) := if 0 ≤ k ∧ k ≤ n then shufR s n else none
theorem reads0 (W : World) (p : Option Addr) (f : Nat → Int) : ReadsI W p 0 f := fun i hi => by omega
theorem shuffle_l (s : ByteArray) (n : Int) (w : World) (hT : RoundOk w) :
    Calls Tryd.prog 20 #[.string s, .int .i64 n] w fun e w' => RetList (shufR s n) n.toNat e w' ∧ Below w.heap.size w w' := by
  refine (shuffle_any s n w hT).mono ?_
  rintro e w' ⟨h, hb⟩
  refine ⟨?_, hb⟩
  cases h with
  | no h => exact ⟨none, 0, 0, fun _ => 0, 60, rfl, .inl ⟨h, rfl, rfl⟩, reads0 _ _ _, by omega, by omega⟩
  | @yes _ g f m hm hm2 hs hub hg =>
    subst hm
    exact ⟨_, m, m, _, 0, rfl, .inr ⟨f, hs, by omega, rfl, fun i _ => rfl⟩, fun i hi => ⟨g, 0, rfl, fun j hj => by rw [Nat.zero_add]; exact hub.cell j hj⟩, by omega, hm2⟩
theorem sample_l (s : ByteArray) (n k : Int) (w : World) (hT : RoundOk w) :
    Calls Tryd.prog 22 #[.string s, .int .i64 n, .int .i64 k] w fun e w' => RetList (sampR s n k) k.toNat e w' ∧ Below w.heap.size w w' := by
  refine (sample_any s n k w hT).mono ?_
  rintro e w' ⟨h, hb⟩
  refine ⟨?_, hb⟩
  cases h with
  | no h =>
    refine ⟨none, 0, 0, fun _ => 0, 60, rfl, .inl ⟨?_, rfl, rfl⟩, reads0 _ _ _, by omega, by omega⟩
    unfold sampR
    split
    · next hk =>
      rcases h with h | h
      · exact h
      · exact absurd hk h
    · rfl
  | @yes _ g f m j hm hj hjm hm2 hs hub hg =>
    subst hm
    subst hj
    have hr : sampR s (m : Nat) (j : Nat) = some f := by
      unfold sampR
      rw [if_pos (by omega)]
      exact hs
    exact ⟨_, j, j, _, 0, rfl, .inr ⟨f, hr, by omega, rfl, fun i _ => rfl⟩, fun i hi => ⟨g, 0, rfl, fun q hq => by rw [Nat.zero_add]; exact hub.cell q (by omega)⟩, by omega, by omega⟩
set_option maxRecDepth 100000 in
set_option maxHeartbeats 4000000 in
theorem ref_shuffle_any (s : ByteArray) (n : Int) (w : World) :
    Calls Tryd.prog 21 #[.string s, .int .i64 n] w fun e w' => RetList (shufR s n) n.toNat e w' ∧ Below w.heap.size w w' := by
  have HN := Lib.hid (ref_named_any s 0 w)
  obtain ⟨i0, hi, hz0, hz1, hz2⟩ := infoI64
  have RNO : Hid (shufR s n = none → ∀ w', RetList (shufR s n) n.toNat (.returned (.tuple #[.slice none 0 0, .int .i64 60])) w') := Lib.hid (fun h w' => ⟨none, 0, 0, fun _ => 0, 60, rfl, .inl ⟨h, rfl, rfl⟩, reads0 _ _ _, by omega, by omega⟩)
  by_cases hn : Named s 0
  · rw [decide_eq_true hn] at HN
    by_cases h1 : 0 ≤ n
    · by_cases h2 : n ≤ 1000
      · obtain ⟨m, rfl⟩ : ∃ m : Nat, n = (m : Nat) := ⟨n.toNat, by omega⟩
        have hm : m ≤ 1000 := by omega
        have HR : Hid (shufR s (m : Nat) = shufO s (m - 1) id) := Lib.hid (if_pos ⟨hn, h1, h2⟩)
        clear hn h1 h2
        go_enter Tryd.func21, Tryd.ntmps21
        go_wp2_with fail
        refine HN.out.mono ?_
        rintro e w' ⟨rfl, rfl⟩
        go_wp2_with fail
        go_loopw [6, 7] (fun v6 v7 wr => ∃ k : Nat, k ≤ m ∧ v7 = .int .i64 (k : Nat) ∧ wr.ownsRow w.heap.size 3 1 v6 k ((List.range k).map fun i => .int .i64 ((i : Nat) : Int)) ∧ Below w.heap.size w wr) (fun _ v7 _ => m - (intZ v7).toNat)
        case atStart => exact ⟨0, by omega, rfl, World.ownsRow_nil _ _ _ _, Below.refl _ _⟩
        case round =>
          obtain ⟨k, hk, rfl, hrow, hB⟩ := hrel
          by_cases hlt : k < m
          · have v0 : (0 : Int) ≤ (k : Int) := by omega
            have v1 : (k : Int) < (m : Int) := by omega
            go_wp2_with (at_builtin; refine wpList_append_own _ rfl _ _ 31 rfl w.heap.size 3 i0 (.int .i64 0) 1 8 Tryd.underlying31 hi hz0 hz1 hz2 rfl (by decide) _ _ _ rfl (hrow.alloc _) ⟨wr.heap.size, 0, none⟩ 1 1 [.int .i64 _] rfl rfl (cell_one_new _ _ _) (by simp [Value.oneCell']) (by unfold maxLen; omega) (by omega) (by have := hB.size; simp; omega) ?_; intro v' w1 hown' hgrow _; obtain ⟨g', cap', rfl⟩ := ownsRow_succ hown')
            refine ⟨⟨k + 1, by omega, by go_num, ?_, own_grown_below hB.size hB hrow hgrow⟩, by simp [intZ]; omega⟩
            rw [List.range_succ, List.map_append]
            exact hown'
          · obtain rfl : k = m := by omega
            obtain ⟨wo, rfl⟩ : ∃ W : World, W = wr := ⟨_, rfl⟩
            have hex : ¬ (k : Int) < (k : Int) := by omega
            cases k with
            | zero =>
              obtain ⟨pv, cv, rfl, _⟩ := own_reads hrow
              have HB0 := Lib.hid hB
              have hx1 : ¬ (1 : Int) ≤ -1 := by omega
              clear hrow hB
              go_wp2_with fail
              go_loopw [8] (fun v8 W => v8 = .int .i64 (-1) ∧ wo = W) (fun _ _ => 0)
              case atStart => exact ⟨rfl, rfl⟩
              case round =>
              obtain ⟨rfl, rfl⟩ := hrel
              go_wp2_with fail
              go_ret2
              exact ⟨⟨_, 0, _, fun _ => 0, 0, rfl, .inr ⟨id, HR.out, by omega, rfl, fun i hi => by omega⟩, reads0 _ _ _, by omega, by omega⟩, HB0.out⟩
            | succ k' =>
              obtain ⟨G, cap, rfl, hcap, hGB, hbx⟩ := RBox.of_own (f := id) hrow
              have HBX := Lib.hid hbx
              have HB0 := Lib.hid hB
              have HGB := Lib.hid hGB
              obtain ⟨m, hm'⟩ : ∃ m, k' + 1 = m := ⟨_, rfl⟩
              rw [hm'] at HBX HR hcap hex
              rw [hm'] at RNO hm
              have HR1 := Lib.hid (show shufR s (m : Nat) = shufO s k' id by rw [HR.out, ← hm']; rfl)
              have hz0 : IntKind.i64.wrap ((m : Int) - 1) = (k' : Int) := by rw [IntWalk.i64_in _ (by omega)]; omega
              have hkm : k' < m := by omega
              rw [hm']
              have HMM := Lib.hid hm'
              clear hrow hB hbx hGB HR hm'
              go_wp2_with fail
              go_loopw [8] (fun v8 W => ∃ z : Nat, v8 = .int .i64 (z : Nat) ∧ z ≤ k' ∧ ∃ f, RBox W G m f ∧ Hid (shufO s z f = shufO s k' id) ∧ Below G wo W) (fun v8 _ => (intZ v8).toNat)
              case atStart => exact ⟨k', rfl, by omega, id, HBX.out, Lib.hid rfl, Below.refl _ _⟩
              case round =>
                obtain ⟨z, rfl, hzk, f, hbx, hR, hb⟩ := hrel
                by_cases hz : 1 ≤ z
                · obtain ⟨k, rfl⟩ : ∃ k, z = k + 1 := ⟨z - 1, by omega⟩
                  have hd0 := ref_draw_any s ((k + 1 : Nat) : Int) ((k + 2 : Nat) : Int) wr
                  have HRk := Lib.hid hR.out
                  obtain ⟨q, hq⟩ : ∃ q : Nat, k + 1 = q := ⟨_, rfl⟩
                  have hq2 : ((k + 2 : Nat) : Int) = (q : Int) + 1 := by omega
                  have HBf := Lib.hid hbx
                  have HBW := Lib.hid hb
                  have v0 : (1 : Int) ≤ (q : Int) := by omega
                  have v1 : (q : Int) < (m : Int) := by omega
                  have v2 : (0 : Int) ≤ (q : Int) := by omega
                  have v3 : q ≤ 1000 := by omega
                  have hqm : q < m := by omega
                  clear hbx hb hR
                  cases hd : drawO s ((k + 1 : Nat) : Int) ((k + 2 : Nat) : Int) with
                  | none =>
                    have HNO := Lib.hid ((HR1.out.trans HRk.out.symm).trans (shufO_none hd))
                    rw [show drawV s ((k + 1 : Nat) : Int) ((k + 2 : Nat) : Int) = 0 by rw [drawV, hd]; rfl, show drawE s ((k + 1 : Nat) : Int) ((k + 2 : Nat) : Int) = 60 by rw [drawE, hd]; rfl, hq2, hq] at hd0
                    have HD := Lib.hid hd0
                    clear hd hd0 HRk
                    rw [hq] at hzk ⊢
                    clear hq hq2
                    go_wp2_with fail
                    refine HD.out.mono ?_
                    rintro e w2 ⟨rfl, hb2⟩
                    have HB2 := Lib.hid (HB0.out.trans ((HBW.out.trans (hb2.mono (Nat.le_of_lt HBf.out.lt))).mono HGB.out))
                    clear hb2
                    go_wp2_with fail
                    go_ret2
                    exact ⟨by rw [HMM.out]; exact RNO.out HNO.out _, HB2.out⟩
                  | some d =>
                    have hdl := drawO_lt hd
                    obtain ⟨dn, rfl⟩ : ∃ dn : Nat, d = (dn : Nat) := ⟨d.toNat, by omega⟩
                    have hdn : dn < m := by omega
                    have HYES := Lib.hid ((shufO_some hd).symm.trans HRk.out)
                    rw [show drawV s ((k + 1 : Nat) : Int) ((k + 2 : Nat) : Int) = dn by rw [drawV, hd]; rfl, show drawE s ((k + 1 : Nat) : Int) ((k + 2 : Nat) : Int) = 0 by rw [drawE, hd]; rfl, hq2, hq] at hd0
                    have HD := Lib.hid hd0
                    have HQ := Lib.hid hq
                    clear hd hd0 hdl HRk
                    rw [hq] at hzk ⊢
                    clear hq hq2
                    go_wp2_with fail
                    refine HD.out.mono ?_
                    rintro e w2 ⟨rfl, hb2⟩
                    have hbx2 := HBf.out.below hb2
                    have HB2 := Lib.hid (HBW.out.trans (hb2.mono (Nat.le_of_lt HBf.out.lt)))
                    have y0 : (0 : Int) ≤ (dn : Int) := by omega
                    have y1 : (dn : Int) < (m : Int) := by omega
                    have x1 := hbx2.cell q hqm
                    have x2 := hbx2.cell dn hdn
                    have f1 := hbx2.free q
                    obtain ⟨a, ha⟩ : ∃ a, f q = a := ⟨_, rfl⟩
                    obtain ⟨b, hb⟩ : ∃ a, f dn = a := ⟨_, rfl⟩
                    rw [ha] at x1
                    rw [hb] at x2
                    have hbx3 := hbx2.set q hqm b
                    have x3 := hbx3.cell dn hdn
                    have f3 := hbx3.free dn
                    have HX4 := Lib.hid (hbx3.set dn hdn a)
                    have HA := Lib.hid ha
                    have HBB := Lib.hid hb
                    obtain ⟨y, hy⟩ : ∃ y, (if dn = q then b else f dn) = y := ⟨_, rfl⟩
                    rw [hy] at x3
                    clear hb2 hbx2 hbx3 ha hb hy
                    go_wp2_with fail
                    refine ⟨⟨k, ?_, by have := HQ.out; omega, swapF f q dn, ?_, Lib.hid (by rw [← HQ.out]; exact HYES.out), Below_set' (Below_set' HB2.out (Nat.le_refl _) _) (Nat.le_refl _) _⟩, ?_⟩
                    · have := HQ.out; congr 1; omega
                    · refine HX4.out.congr fun i _ => ?_
                      unfold swapF
                      rw [HA.out, HBB.out]
                    · have := HQ.out; simp [intZ]; omega
                · obtain rfl : z = 0 := by omega
                  have HBf := Lib.hid hbx
                  have HB2 := Lib.hid (HB0.out.trans (hb.mono HGB.out))
                  have HEND := Lib.hid (show shufR s (m : Nat) = some f from HR1.out.trans hR.out.symm)
                  clear hbx hb hR
                  go_wp2_with fail
                  go_ret2
                  exact ⟨by rw [HMM.out]; exact ⟨_, m, _, _, 0, rfl, .inr ⟨f, HEND.out, by omega, rfl, fun i _ => rfl⟩, HBf.out.reads, hcap, hm⟩, HB2.out⟩
      · have HR : Hid (shufR s n = none) := Lib.hid (if_neg (fun h => h2 h.2.2))
        have h3 : 1000 < n := by omega
        clear hn
        go_enter Tryd.func21, Tryd.ntmps21
        go_wp2_with fail
        refine HN.out.mono ?_
        rintro e w' ⟨rfl, rfl⟩
        go_wp2_with fail
        go_ret2
        exact ⟨RNO.out HR.out _, Below.refl _ _⟩
    · have HR : Hid (shufR s n = none) := Lib.hid (if_neg (fun h => h1 h.2.1))
      have h3 : n < 0 := by omega
      clear hn
      go_enter Tryd.func21, Tryd.ntmps21
      go_wp2_with fail
      refine HN.out.mono ?_
      rintro e w' ⟨rfl, rfl⟩
      go_wp2_with fail
      go_ret2
      exact ⟨RNO.out HR.out _, Below.refl _ _⟩
  · rw [decide_eq_false hn] at HN
    have HR : Hid (shufR s n = none) := Lib.hid (if_neg (fun h => hn h.1))
    clear hn
    go_enter Tryd.func21, Tryd.ntmps21
    go_wp2_with fail
    refine HN.out.mono ?_
    rintro e w' ⟨rfl, rfl⟩
    go_wp2_with fail
    go_ret2
    exact ⟨RNO.out HR.out _, Below.refl _ _⟩
set_option maxHeartbeats 1000000 in
theorem ref_sample_any (s : ByteArray) (n k : Int) (w : World) :
    Calls Tryd.prog 23 #[.string s, .int .i64 n, .int .i64 k] w fun e w' => RetList (sampR s n k) k.toNat e w' ∧ Below w.heap.size w w' := by
  have HC := Lib.hid (ref_shuffle_any s n w)
  have RNO : Hid (sampR s n k = none → ∀ w', RetList (sampR s n k) k.toNat (.returned (.tuple #[.slice none 0 0, .int .i64 60])) w') := Lib.hid (fun h w' => ⟨none, 0, 0, fun _ => 0, 60, rfl, .inl ⟨h, rfl, rfl⟩, reads0 _ _ _, by omega, by omega⟩)
  go_enter Tryd.func23, Tryd.ntmps23
  go_wp2_with fail
  refine HC.out.mono ?_
  rintro e w' ⟨⟨p, m, c, f, er, rfl, hsp, hrd, hmc, hm⟩, hb⟩
  rcases hsp with ⟨hno, rfl, rfl⟩ | ⟨g, hs, hmn, rfl, hfg⟩
  · have HNO : Hid (sampR s n k = none) := Lib.hid (by unfold sampR; split <;> first | exact hno | rfl)
    clear hno hrd HC
    go_wp2_with fail
    go_ret2
    exact ⟨RNO.out HNO.out _, hb⟩
  · have HS := Lib.hid hs
    have HFG := Lib.hid hfg
    have HRD := Lib.hid hrd
    have HN0 : Hid (0 ≤ n) := Lib.hid (by
      rcases Int.lt_or_le n 0 with h | h
      · have : shufR s n = none := if_neg (fun hx => by have := hx.2.1; omega)
        rw [this] at hs; cases hs
      · exact h)
    have hnm : n = (m : Int) := by have := HN0.out; omega
    clear hs hfg hrd HC
    clear hmn
    subst hnm
    by_cases k1 : k < 0
    · have HNO : Hid (sampR s (m : Nat) k = none) := Lib.hid (if_neg (by omega))
      go_wp2_with fail
      go_ret2
      exact ⟨RNO.out HNO.out _, hb⟩
    · by_cases k2 : (m : Int) < k
      · have HNO : Hid (sampR s (m : Nat) k = none) := Lib.hid (if_neg (by omega))
        go_wp2_with fail
        go_ret2
        exact ⟨RNO.out HNO.out _, hb⟩
      · obtain ⟨j, rfl⟩ : ∃ j : Nat, k = (j : Nat) := ⟨k.toNat, by omega⟩
        have hjm : j ≤ m := by omega
        have HY : Hid (sampR s (m : Nat) (j : Nat) = some g) := Lib.hid ((if_pos (by omega)).trans HS.out)
        have z1 : (0 : Int) ≤ (j : Int) := by omega
        have z2 : (j : Int) ≤ (c : Int) := by omega
        go_wp2_with fail
        go_ret2
        refine ⟨⟨p, j, c, f, 0, ?_, .inr ⟨g, HY.out, by omega, rfl, fun i hi => HFG.out i (by omega)⟩, fun i hi => ?_, by omega, by omega⟩, hb⟩
        · rfl
        · obtain ⟨b, o, hp, hc⟩ := HRD.out i (by omega)
          exact ⟨b, o, hp, fun j' hj' => hc j' (by omega)⟩
set_option maxRecDepth 100000 in
set_option maxHeartbeats 4000000 in
theorem ref_choose_any (p : Option Addr) (n c : Nat) (f : Nat → Int) (d : Int) (w : World) (hn : n ≤ 1000000) (hr : ReadsI w p n f) :
    Calls Tryd.prog 26 #[.slice p n c, .int .i64 d] w fun e w' => e = .returned (.tuple #[.int .i64 (choV f n d), .int .i64 (choE f n d)]) ∧ w = w' := by
  have HR := Lib.hid hr
  clear hr
  by_cases h1 : (n : Int) ≤ 200
  · by_cases h2 : 0 ≤ d
    · go_enter Tryd.func26, Tryd.ntmps26
      go_wp2_with fail
      go_loopw [6] (fun v6 wr => ∃ k : Nat, k ≤ n ∧ v6 = .int .i64 (k : Nat) ∧ Hid (wOk f k) ∧ w = wr) (fun v6 _ => n - (intZ v6).toNat)
      case atStart => exact ⟨0, by omega, rfl, Lib.hid (fun i hi => by omega), rfl⟩
      case round =>
        obtain ⟨k, hk, rfl, hw, rfl⟩ := hrel
        by_cases hlt : k < n
        · obtain ⟨b, o, rfl, hc⟩ := HR.out k hlt
          have x0 := hc k hlt
          have v1 : (0 : Int) ≤ (k : Int) := by omega
          have v2 : (k : Int) < (n : Int) := by omega
          obtain ⟨x, hx⟩ : ∃ x, f k = x := ⟨_, rfl⟩
          rw [hx] at x0
          have HX := Lib.hid hx
          clear hc hx
          by_cases x1 : x < 0
          · have HNO : Hid (¬ ChoOk f n d) := Lib.hid (fun h => by have := (h.2.2.1 k hlt).1; have := HX.out; omega)
            go_wp2_with fail
            go_ret2
            exact ⟨by rw [show choV f n d = 0 from if_neg HNO.out, show choE f n d = 60 from if_neg HNO.out]; rfl, rfl⟩
          · by_cases x2 : 1125899906842624 < x
            · have HNO : Hid (¬ ChoOk f n d) := Lib.hid (fun h => by have := (h.2.2.1 k hlt).2; have := HX.out; omega)
              go_wp2_with fail
              go_ret2
              exact ⟨by rw [show choV f n d = 0 from if_neg HNO.out, show choE f n d = 60 from if_neg HNO.out]; rfl, rfl⟩
            · have HW1 : Hid (wOk f (k + 1)) := Lib.hid (fun i hi => by
                by_cases e : i = k
                · rw [e, HX.out]; omega
                · exact hw.out i (by omega))
              go_wp2_with fail
              exact ⟨⟨k + 1, by omega, by go_num, HW1, trivial⟩, by simp [intZ]; omega⟩
        · obtain rfl : n = k := by omega
          have hnn : ¬ (n : Int) < (n : Int) := by omega
          go_wp2_with fail
          go_loopw [7, 8] (fun v7 v8 wr => ∃ k : Nat, k ≤ n ∧ v8 = .int .i64 (k : Nat) ∧ v7 = .int .i64 (sumI f k) ∧ Hid (sumI f k ≤ d) ∧ w = wr) (fun _ v8 _ => n - (intZ v8).toNat)
          case atStart => exact ⟨0, by omega, rfl, rfl, Lib.hid h2, rfl⟩
          case round =>
            obtain ⟨k, hk, rfl, rfl, hs, rfl⟩ := hrel
            by_cases hlt2 : k < n
            · obtain ⟨b, o, rfl, hc⟩ := HR.out k hlt2
              have x0 := hc k hlt2
              have v1 : (0 : Int) ≤ (k : Int) := by omega
              have v2 : (k : Int) < (n : Int) := by omega
              have hb1 := sumI_bound k (fun i hi => hw.out i (by omega))
              have hx3 := hw.out k hlt2
              have HSX : Hid (sumI f (k + 1) = sumI f k + f k) := Lib.hid rfl
              obtain ⟨x, hx⟩ : ∃ x, f k = x := ⟨_, rfl⟩
              rw [hx] at x0 hx3 HSX
              obtain ⟨S, hS⟩ : ∃ S, sumI f k = S := ⟨_, rfl⟩
              have HS := Lib.hid hS
              rw [hS] at hb1 HSX ⊢
              have hwp : IntKind.i64.wrap (S + x) = S + x := IntWalk.i64_in _ (by omega)
              have hb2 : S ≤ 1125899906842624 * 200 := by omega
              clear hc hx hS hb1
              by_cases t : d < S + x
              · have HY : Hid (choV f n d = (k : Nat) ∧ choE f n d = 0) := Lib.hid (by
                  have hlast : chosenAt f d n = (k : Nat) := by
                    have hsle := sumI_le hw.out (i := k + 1) (j := n) (by omega) (by omega)
                    rw [HSX.out] at hsle
                    obtain ⟨c', h3, h4, h5, h6⟩ := (chosen_is hw.out h2 n (Nat.le_refl _)).1 (by omega)
                    have h7 := cho_next hw.out (v := k) (by omega) (by rw [HS.out]; have := hs.out; rw [HS.out] at this; exact this) h3 h6
                    have h8 := cho_next hw.out (v := c') (d := d) (by omega) h5 hlt2 (by rw [HSX.out]; exact t)
                    rw [h4, show c' = k by omega]
                  have hok : ChoOk f n d := ⟨by omega, h2, hw.out, by rw [hlast]; omega⟩
                  exact ⟨by rw [choV, if_pos hok, hlast], by rw [choE, if_pos hok]⟩)
                go_wp2_with fail
                go_ret2
                exact ⟨by rw [HY.out.1, HY.out.2]; rfl, rfl⟩
              · have HT : Hid (sumI f (k + 1) ≤ d) := Lib.hid (by rw [HSX.out]; omega)
                go_wp2_with fail
                exact ⟨⟨k + 1, by omega, by go_num, by rw [HSX.out], HT, trivial⟩, by simp [intZ]; omega⟩
            · obtain rfl : n = k := by omega
              have HY := Lib.hid (cho_out hw.out h2 hs.out)
              go_wp2_with fail
              go_ret2
              exact ⟨by rw [HY.out.1, HY.out.2]; rfl, rfl⟩
    · have HX : Hid (¬ ChoOk f n d) := Lib.hid (fun h => h2 h.2.1)
      have h3 : d < 0 := by omega
      go_enter Tryd.func26, Tryd.ntmps26
      go_wp2_with fail
      go_ret2
      exact ⟨by rw [show choV f n d = 0 from if_neg HX.out, show choE f n d = 60 from if_neg HX.out]; rfl, rfl⟩
  · have HX : Hid (¬ ChoOk f n d) := Lib.hid (fun h => h1 (by have := h.1; omega))
    have h3 : (200 : Int) < (n : Int) := by omega
    go_enter Tryd.func26, Tryd.ntmps26
    go_wp2_with fail
    go_ret2
    exact ⟨by rw [show choV f n d = 0 from if_neg HX.out, show choE f n d = 60 from if_neg HX.out]; rfl, rfl⟩
end Go.Proofs.YtfdmmobadmmhdaaDoor
