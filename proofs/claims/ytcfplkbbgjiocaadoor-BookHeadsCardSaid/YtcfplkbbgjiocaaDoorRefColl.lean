/- The references of chapters 2 and 27: Collided, SamePostings, one answer each. Conditions: lists of at most 1000 that can be read; strings of at most 10000 bytes. -/
import Derived.Test.YtcfplkbbgjiocaaDoorHeadsBase
import Derived.Test.YtcfplkbbgjiocaaDoorBookSame
namespace Go.Proofs.YtcfplkbbgjiocaaDoor
open Go Go.RowKit
noncomputable def samePB (n m : Nat) (f g : Nat → Pst) : Bool := @decide (n = m ∧ ∀ i, i < n → f i = g i) (Classical.propDecidable _)
theorem samePB_iff {n m : Nat} {f g : Nat → Pst} : samePB n m f g = true ↔ (n = m ∧ ∀ i, i < n → f i = g i) := by
  unfold samePB
  exact @decide_eq_true_iff _ (Classical.propDecidable _)
theorem sameP_len (p q : Option Addr) (n m c d : Nat) (w : World) (h : n ≠ m) :
    Calls Tryd.prog 14 #[.slice p n c, .slice q m d] w fun e w' => e = .returned (.bool false) ∧ Below w.heap.size w w' := by
  have h1 : ((n : Int) == (m : Int)) = false := by simp; omega
  have h2 : ((n : Int) != (m : Int)) = true := by simp; omega
  have h3 : ¬ (n : Int) = (m : Int) := by omega
  go_enter Tryd.func14, Tryd.ntmps14
  go_wp2_with fail
  go_ret
  exact ⟨rfl, Below.refl _ _⟩
theorem sameP_any (p q : Option Addr) (n m c d : Nat) (f g : Nat → Pst) (w : World) (hn : n ≤ 1000) (hp : ReadsP w p n f) (hq : ReadsP w q m g) :
    Calls Tryd.prog 14 #[.slice p n c, .slice q m d] w fun e w' => e = .returned (.bool (samePB n m f g)) ∧ Below w.heap.size w w' := by
  by_cases h : n = m
  · subst h
    by_cases h2 : ∀ i, i < n → f i = g i
    · rw [show samePB n n f g = true from samePB_iff.2 ⟨rfl, h2⟩]
      exact sameP_yes p q n c d f g w hn hp hq h2
    · obtain ⟨k, hk⟩ := Classical.not_forall.1 h2
      obtain ⟨hk1, hk2⟩ := Classical.not_imp.1 hk
      rw [show samePB n n f g = false from Bool.eq_false_iff.2 (fun e => h2 (samePB_iff.1 e).2)]
      exact sameP_no p q n c d k f g w hn hp hq hk1 hk2
  · rw [show samePB n m f g = false from Bool.eq_false_iff.2 (fun e => h (samePB_iff.1 e).1)]
    exact sameP_len p q n m c d w h
def CollA (n m : Nat) (F G : Nat → ByteArray) : Prop := ∃ i k, i < n ∧ k < m ∧ F i ≠ G k ∧ dS (F i) = dS (G k)
noncomputable def collAB (n m : Nat) (F G : Nat → ByteArray) : Bool := @decide (CollA n m F G) (Classical.propDecidable _)
theorem collAB_true {n m : Nat} {F G : Nat → ByteArray} (h : CollA n m F G) : collAB n m F G = true := by unfold collAB; exact @decide_eq_true _ (Classical.propDecidable _) h
theorem collAB_false {n m : Nat} {F G : Nat → ByteArray} (h : ¬ CollA n m F G) : collAB n m F G = false := by unfold collAB; exact @decide_eq_false _ (Classical.propDecidable _) h
def lsS (D : Nat → ByteArray) (n : Nat) : List ByteArray := (List.range n).map D
theorem lsS_succ (D : Nat → ByteArray) (n : Nat) : lsS D (n + 1) = lsS D n ++ [D n] := by simp [lsS, List.range_succ]
theorem lsS_reads {W : World} {base n : Nat} {v : Value} {D : Nat → ByteArray} (h : W.ownsRow base 9 1 v n ((lsS D n).map strV)) : ∃ p c, v = .slice p n c ∧ n ≤ c ∧ ReadsS W p n D := by
  have hl : (lsS D n).length = n := by simp [lsS]
  have h2 : W.ownsRow base 9 1 v (lsS D n).length ((lsS D n).map strV) := by rw [hl]; exact h
  obtain ⟨q, cq, e, hc, hr⟩ := own_readsS h2
  rw [hl] at e hc hr
  refine ⟨q, cq, e, hc, hr.congr (fun i hi => ?_)⟩
  unfold getS lsS
  rw [List.getD_eq_getElem?_getD, List.getElem?_map, List.getElem?_range hi]
  rfl
set_option maxRecDepth 100000 in
set_option maxHeartbeats 4000000 in
theorem Collided_any (p q : Option Addr) (n m cp cq : Nat) (F G : Nat → ByteArray) (w : World) (hn : n ≤ 1000) (hm : m ≤ 1000) (hF : ∀ i, (F i).size ≤ 10000) (hG : ∀ i, (G i).size ≤ 10000) (hp : ReadsS w p n F) (hq : ReadsS w q m G) :
    Calls Tryd.prog 15 #[.slice p n cp, .slice q m cq] w fun e w' => e = .returned (.bool (collAB n m F G)) ∧ Below w.heap.size w w' := by
  obtain ⟨i0, hi, hz0, hz1, hz2⟩ := infoStr
  have HP := Lib.hid hp
  have HQ := Lib.hid hq
  have HS1 := Lib.hid (fun i W => ref_sum_s (F i) W (hF i))
  have HS2 := Lib.hid (fun i W => ref_sum_s (G i) W (hG i))
  have HY : Hid (CollA n m F G → collAB n m F G = true) := Lib.hid collAB_true
  have HNO : Hid (¬ CollA n m F G → collAB n m F G = false) := Lib.hid collAB_false
  unfold CollA at HY HNO
  obtain ⟨D, hD⟩ : ∃ D : Nat → ByteArray, ∀ i, dS (G i) = D i := ⟨_, fun _ => rfl⟩
  obtain ⟨A, hA⟩ : ∃ D : Nat → ByteArray, ∀ i, dS (F i) = D i := ⟨_, fun _ => rfl⟩
  simp only [hA] at HS1 HY HNO
  simp only [hD] at HS2 HY HNO
  clear hp hq hF hG hA hD
  go_enter Tryd.func15, Tryd.ntmps15
  go_wp2_with fail
  go_loopw [5, 6] (fun v5 v6 wr => ∃ k : Nat, v6 = .int .i64 (k : Nat) ∧ k ≤ m ∧ wr.ownsRow w.heap.size 9 1 v5 k ((lsS D k).map strV) ∧ Below w.heap.size w wr) (fun _ v6 _ => m - (intOf v6).toNat)
  case atStart => exact ⟨0, rfl, by omega, World.ownsRow_nil _ _ _ _, Below.refl _ _⟩
  case round =>
    obtain ⟨k, rfl, hk, hown, hB⟩ := hrel
    by_cases hlt : k < m
    · obtain ⟨b, o, rfl, hc⟩ := HQ.out k hlt
      have c1 := (hB.cell (p := ⟨b, o + k, none⟩) (cell_lt' (hc k hlt))).trans (hc k hlt)
      have v0 : (0 : Int) ≤ (k : Int) := by omega
      have v1 : (k : Int) < (m : Int) := by omega
      have HSU := Lib.hid (lsS_succ D k)
      have HN := Lib.hid (HS2.out k wr)
      have HOWN := Lib.hid hown
      have HB := Lib.hid hB
      obtain ⟨y, hy⟩ : ∃ y, G k = y := ⟨_, rfl⟩
      obtain ⟨X, hX⟩ : ∃ y, D k = y := ⟨_, rfl⟩
      rw [hy] at c1 HN
      rw [hX] at HN HSU
      clear hc hy hX hown hB
      go_wp2_with fail
      refine HN.out.mono ?_
      rintro e w2 ⟨rfl, hb2⟩
      have h22 := own_below HOWN.out hb2
      have HB2 := Lib.hid (HB.out.trans (hb2.mono HB.out.size))
      have hw2 := HB2.out.size
      clear hb2 c1
      go_wp2_with (at_builtin; refine wpList_append_own _ rfl _ _ 36 rfl w.heap.size 9 i0 (.string ⟨#[]⟩) 1 16 Tryd.underlying36 hi hz0 hz1 hz2 rfl (by decide) _ k _ rfl (h22.alloc _) ⟨w2.heap.size, 0, none⟩ 1 1 [.string X] rfl rfl (cell_one_new _ _ _) (by simp [Value.oneCell']) (by unfold maxLen; omega) (by omega) (by simp; omega) ?_; intro v' w6 hown6 hgrow6 _; obtain ⟨g6, cap6, rfl⟩ := ownsRow_succ hown6; have hbb := (HB2.out.alloc hw2 (.cells #[.string X] 9)).grown hgrow6 (by simp; omega) (fun q ej => (h22.lt q ej).1))
      refine ⟨⟨k + 1, by go_num, by omega, ?_, hbb⟩, by simp [intOf]; omega⟩
      rw [HSU.out, List.map_append]
      exact hown6
    · obtain rfl : m = k := by omega
      obtain ⟨qs, cs, rfl, hcs, hrs⟩ := lsS_reads hown
      have HRS := Lib.hid hrs
      have HBW := Lib.hid hB
      obtain ⟨w3, rfl⟩ : ∃ W : World, W = wr := ⟨_, rfl⟩
      clear hown hrs hB
      go_wp2_with fail
      go_loopw [7] (fun v7 wr => ∃ i : Nat, v7 = .int .i64 (i : Nat) ∧ i ≤ n ∧ Hid (∀ j, j < i → ∀ k, k < m → ¬ (F j ≠ G k ∧ A j = D k)) ∧ Below w3.heap.size w3 wr) (fun v7 _ => n - (intOf v7).toNat)
      case atStart => exact ⟨0, rfl, by omega, Lib.hid (fun j h => by omega), Below.refl _ _⟩
      case round =>
        obtain ⟨i, rfl, hi9, hall, hB⟩ := hrel
        by_cases hlt2 : i < n
        · obtain ⟨b, o, rfl, hc⟩ := HP.out i hlt2
          have cw := (HBW.out.cell (p := ⟨b, o + i, none⟩) (cell_lt' (hc i hlt2))).trans (hc i hlt2)
          have c1 := (hB.cell (p := ⟨b, o + i, none⟩) (cell_lt' cw)).trans cw
          have v0 : (0 : Int) ≤ (i : Int) := by omega
          have v1 : (i : Int) < (n : Int) := by omega
          have HN := Lib.hid (HS1.out i wr)
          have HB := Lib.hid hB
          obtain ⟨x, hx⟩ : ∃ y, F i = y := ⟨_, rfl⟩
          obtain ⟨X, hX⟩ : ∃ y, A i = y := ⟨_, rfl⟩
          have HX := Lib.hid hx
          have HAX := Lib.hid hX
          rw [hx] at cw c1 HN
          rw [hX] at HN
          have CW := Lib.hid cw
          clear hc hx hX hB cw
          go_wp2_with fail
          refine HN.out.mono ?_
          rintro e w4 ⟨rfl, hb4⟩
          have HB4 := Lib.hid (HB.out.trans (hb4.mono HB.out.size))
          clear hb4 c1 HN
          go_wp2_with fail
          go_loopw [9] (fun v9 wr => ∃ k : Nat, v9 = .int .i64 (k : Nat) ∧ k ≤ m ∧ Hid (∀ j, j < k → ¬ (x ≠ G j ∧ X = D j)) ∧ Below w3.heap.size w3 wr) (fun v9 _ => m - (intOf v9).toNat)
          case atStart => exact ⟨0, rfl, by omega, Lib.hid (fun j h => by omega), HB4.out⟩
          case round =>
            obtain ⟨k, rfl, hk9, hall2, hB⟩ := hrel
            by_cases hlt3 : k < m
            · obtain ⟨b', o', rfl, hc'⟩ := HQ.out k hlt3
              obtain ⟨b2, o2, rfl, hc2⟩ := HRS.out k hlt3
              have cw' := (HBW.out.cell (p := ⟨b', o' + k, none⟩) (cell_lt' (hc' k hlt3))).trans (hc' k hlt3)
              have c2 := (hB.cell (p := ⟨b', o' + k, none⟩) (cell_lt' cw')).trans cw'
              have c3 := (hB.cell (p := ⟨b2, o2 + k, none⟩) (cell_lt' (hc2 k hlt3))).trans (hc2 k hlt3)
              have c1 := (hB.cell (p := ⟨b, o + i, none⟩) (cell_lt' CW.out)).trans CW.out
              have v2 : (0 : Int) ≤ (k : Int) := by omega
              have v3 : (k : Int) < (m : Int) := by omega
              obtain ⟨y, hy⟩ : ∃ y, G k = y := ⟨_, rfl⟩
              obtain ⟨Y, hY⟩ : ∃ y, D k = y := ⟨_, rfl⟩
              rw [hy] at c2
              rw [hY] at c3
              have HYk := Lib.hid hy
              have HYY := Lib.hid hY
              have HB := Lib.hid hB
              clear hc' hc2 cw' hy hY hB
              by_cases e : x = y
              · subst e
                go_wp2_with fail
                go_quiet (fail)
                go_wp2_with fail
                refine ⟨⟨k + 1, by go_num, by omega, Lib.hid (fun j hj => ?_), Below_dn HB.out _⟩, by simp [intOf]; omega⟩
                by_cases hjk : j = k
                · rw [hjk, HYk.out]
                  exact fun h => h.1 rfl
                · exact hall2.out j (by omega)
              · have e2 : (x.toList == y.toList) = false := by rw [beq_dec]; exact decide_eq_false e
                have e3 : (x.toList != y.toList) = true := by simp [bne, e2]
                have HE := Lib.hid e
                clear e
                by_cases ed : X = Y
                · subst ed
                  have HRES := Lib.hid (HY.out ⟨i, k, hlt2, hlt3, by rw [HX.out, HYk.out]; exact HE.out, by rw [HAX.out, HYY.out]⟩)
                  go_wp2_with fail
                  go_quiet (fail)
                  go_wp2_with fail
                  go_ret
                  exact ⟨by rw [HRES.out]; try rfl, HBW.out.trans ((Below_dn HB.out _).mono HBW.out.size)⟩
                · have f2 : (X.toList == Y.toList) = false := by rw [beq_dec]; exact decide_eq_false ed
                  have HED := Lib.hid ed
                  clear ed
                  go_wp2_with fail
                  go_quiet (fail)
                  go_wp2_with fail
                  refine ⟨⟨k + 1, by go_num, by omega, Lib.hid (fun j hj => ?_), Below_dn HB.out _⟩, by simp [intOf]; omega⟩
                  by_cases hjk : j = k
                  · rw [hjk, HYk.out, HYY.out]
                    exact fun h => HED.out h.2
                  · exact hall2.out j (by omega)
            · obtain rfl : m = k := by omega
              have HB := Lib.hid hB
              clear hB
              go_wp2_with fail
              refine ⟨⟨i + 1, by go_num, by omega, Lib.hid (fun j hj => ?_), HB.out⟩, by simp [intOf]; omega⟩
              by_cases hji : j = i
              · rw [hji, HX.out, HAX.out]
                exact hall2.out
              · exact hall.out j (by omega)
        · obtain rfl : n = i := by omega
          have HB := Lib.hid hB
          have HRES := Lib.hid (HNO.out (fun ⟨j, k, h1, h2, h3, h4⟩ => hall.out j h1 k h2 ⟨h3, h4⟩))
          clear hB
          go_wp2_with fail
          go_ret
          exact ⟨by rw [HRES.out]; try rfl, HBW.out.trans (HB.out.mono HBW.out.size)⟩
end Go.Proofs.YtcfplkbbgjiocaaDoor
