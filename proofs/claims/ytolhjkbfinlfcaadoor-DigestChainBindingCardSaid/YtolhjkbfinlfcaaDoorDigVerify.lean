/- Package digest: Verify. Conditions: an entry of at most 4000 bytes; a proof of at most 1000 strings that can be read; the table holds its words. -/
import Derived.Test.YtolhjkbfinlfcaaDoorDigSides
namespace Go.Proofs.YtolhjkbfinlfcaaDoor
open Go Go.RowKit Go.Shelf
attribute [local go_sem] Oper.semAt_some
/-- Between two rounds. -/
def VerOn (R : List (ByteArray × Bool)) (fin : ByteArray) (w wq : World) (S j : Nat) (W : World) : Prop :=
  ∃ ac : ByteArray, ac.size = 32 ∧ foldD R j ac = fin ∧ Boxed W S 9 (.string ac) ∧ Below w.heap.size w W ∧ wq.heap.size ≤ W.heap.size ∧ ∀ b, b < wq.heap.size → b ≠ S → W.heap[b]? = wq.heap[b]?
def VerAcc (R : List (ByteArray × Bool)) (fin : ByteArray) (w wq : World) (S D l : Nat) (r : Loop) (j : Nat) (W : World) : Prop :=
  ∃ ac : ByteArray, ac.size = 32 ∧ foldD R j ac = fin ∧ Boxed W S 9 (.string ac) ∧ Below w.heap.size w W ∧ wq.heap.size ≤ W.heap.size ∧ (∀ b, b < wq.heap.size → b ≠ S → W.heap[b]? = wq.heap[b]?) ∧ LoopAt W D l r .ready none
theorem VerAcc.loop {R : List (ByteArray × Bool)} {fin : ByteArray} {w wq : World} {S D l : Nat} {r : Loop} {j : Nat} {W : World} (h : VerAcc R fin w wq S D l r j W) : LoopAt W D l r .ready none := by
  obtain ⟨_, _, _, _, _, _, _, h⟩ := h
  exact h
theorem VerAcc.rest {R : List (ByteArray × Bool)} {fin : ByteArray} {w wq : World} {S D l : Nat} {r : Loop} {j : Nat} {W : World} (h : VerAcc R fin w wq S D l r j W) : ∀ b, b < wq.heap.size → b ≠ S → W.heap[b]? = wq.heap[b]? := by
  obtain ⟨_, _, _, _, _, _, h, _⟩ := h
  exact h
set_option maxRecDepth 100000 in
set_option maxHeartbeats 4000000 in
theorem verify_in (root s : ByteArray) (n i : Int) (p : Option Addr) (c cc : Nat) (P : Nat → ByteArray) (w : World) (hnb : n ≤ 9223372036854775807) (hib : -9223372036854775808 ≤ i) (hs : s.size ≤ 4000) (hc : c ≤ 1000) (hcc : c ≤ cc) (hr : ReadsS w p c P) (hT : RoundOk w) :
    CallsIn Fence.wide 9 Tryd.prog 21 #[.string root, .int .i64 n, .int .i64 i, .string s, .slice p c cc] w fun e w' => e = .returned (.bool (decide (VerifyOk root n i s P c))) ∧ Below w.heap.size w w' := by
  have HT := Lib.hid hT
  have HR := Lib.hid hr
  have HALL := Lib.hid (fun W hr => all_any p c cc P W (by omega) hr)
  obtain ⟨i0, hi, hz0, hz1, hz2⟩ := infoSide
  clear hT hr
  refine callsIn_of_wp_marks Tryd.func21 rfl trivial ?_ rfl
  simp only [Tryd.ntmps21, List.size_toArray, List.length_cons, List.length_nil, Nat.reduceAdd, Nat.reduceSub, Array.replicate_succ, Array.replicate_zero, List.push_toArray, List.append_toArray, List.nil_append, List.cons_append]
  refine wpIn_wide.2 ?_
  by_cases h0 : i < 0
  · have HX : Hid (decide (VerifyOk root n i s P c) = false) := Lib.hid (decide_eq_false (fun h => by have := h.1; omega))
    go_wp2_with fail
    refine ⟨.bool false, by simp [results, Tryd.results21, go_sem], ?_⟩
    exact ⟨by rw [HX.out], Below.refl _ _⟩
  · by_cases h1 : n ≤ i
    · have HX : Hid (decide (VerifyOk root n i s P c) = false) := Lib.hid (decide_eq_false (fun h => by have := h.2.1; omega))
      go_wp2_with fail
      refine ⟨.bool false, by simp [results, Tryd.results21, go_sem], ?_⟩
      exact ⟨by rw [HX.out], Below.refl _ _⟩
    · by_cases h2 : Digs c P
      · rw [decide_eq_true h2] at HALL
        have HD := Lib.hid h2
        obtain ⟨n0, rfl⟩ : ∃ n0 : Nat, n = (n0 : Nat) := ⟨n.toNat, by omega⟩
        obtain ⟨j0, rfl⟩ : ∃ j0 : Nat, i = (j0 : Nat) := ⟨i.toNat, by omega⟩
        have HSP : Hid (decide (VerifyOk root n0 j0 s P c) = decide (valueV s P c n0 j0 = some root)) := Lib.hid (by
          rw [decide_eq_decide]
          unfold VerifyOk
          rw [Int.toNat_natCast, Int.toNat_natCast]
          exact ⟨fun h => h.2.2.2, fun h => ⟨by omega, by omega, h2, h⟩⟩)
        have d1 : decide ((j0 : Int) < 0) = false := decide_eq_false (by omega)
        have d2 : decide (n0 ≤ j0) = false := decide_eq_false (by omega)
        have d3 : decide ((n0 : Int) ≤ (j0 : Int)) = false := decide_eq_false (by omega)
        have hjn : j0 < n0 := by omega
        clear h2 h0 h1
        go_wp2_with fail
        refine (HALL.out w HR.out).mono ?_
        rintro e w' ⟨rfl, rfl⟩
        go_wp2_with fail
        go_loopw [1, 2, 4, 11] (fun v1 v2 v4 v11 wr => ∃ (n' j' c' : Nat) (p' : Option Addr) (cc' : Nat) (W : List (ByteArray × Bool)), v1 = .int .i64 (n' : Nat) ∧ v2 = .int .i64 (j' : Nat) ∧ v4 = .slice p' c' cc' ∧ c' ≤ cc' ∧ 1 ≤ n' ∧ n' ≤ n0 ∧ j' < n' ∧ W.length + c' = c ∧
          Hid (p' = p ∨ c' = 0) ∧ wr.ownsRow w.heap.size 58 2 v11 W.length (flatD W) ∧ Hid (valueV s P c n0 j0 = (valueV s P c' n' j').map (fun v => W.foldr joinD v)) ∧ Hid (∀ d, d ∈ W → d.1.size = 32) ∧ Below w.heap.size w wr) (fun v1 _ _ _ _ => (intOf v1).toNat)
        case atStart => exact ⟨n0, j0, c, p, cc, [], rfl, rfl, rfl, hcc, by omega, by omega, hjn, by simp, Lib.hid (.inl rfl), World.ownsRow_nil _ _ _ _, Lib.hid (by cases valueV s P c n0 j0 <;> rfl), Lib.hid (fun d h => by simp at h), Below.refl _ _⟩
        case round =>
          obtain ⟨n', j', c', p', cc', W, rfl, rfl, rfl, hcc', hn1, hn0, hj', hWc, hp, hown, hval, hsz, hB⟩ := hrel
          have hrd : ReadsS wr p' c' P := by
            rcases hp.out with h | h
            · rw [h]; exact (HR.out.below hB).less (by omega)
            · rw [h]; exact fun q hq => by omega
          by_cases hlt : 1 < n'
          · have v0 : (1 : Int) < (n' : Int) := by omega
            have HTK := Lib.hid (take_any p' c' cc' P wr (by omega) hcc' hrd)
            have HB := Lib.hid hB
            have HOWN := Lib.hid hown
            have hlf := left_facts (n := n') (by omega)
            have HLF := Lib.hid (fun W => left_any n' W (by omega) (by omega))
            obtain ⟨k, hk⟩ : ∃ k, leftN n' = k := ⟨_, rfl⟩
            rw [hk] at hlf HLF
            have HK := Lib.hid hk
            clear hrd hB hown hk
            go_wp2_with fail
            refine HTK.out.mono ?_
            rintro e w2 ⟨h, hb2⟩
            rcases h with ⟨hc0, rfl⟩ | ⟨q, hq, rfl⟩
            · have HX : Hid (decide (VerifyOk root n0 j0 s P c) = false) := Lib.hid (by rw [HSP.out]; refine decide_eq_false (fun h => ?_); rw [hval.out, hc0, valueV, if_neg (by omega)] at h; cases h)
              have HB2 := Lib.hid (HB.out.trans (hb2.mono HB.out.size))
              clear hc0 hb2
              go_wp2_with fail
              refine ⟨.bool false, by simp [results, Tryd.results21, go_sem], ?_⟩
              exact ⟨by rw [HX.out], HB2.out⟩
            · have HB2 := Lib.hid (HB.out.trans (hb2.mono HB.out.size))
              have h22 := own_below HOWN.out hb2
              have hw2 := HB2.out.size
              have HQ := Lib.hid hq
              have hWl : W.length ≤ 1000 := by omega
              have HPS : Hid ((P q).size = 32) := Lib.hid (HD.out q (by omega))
              have HVS := Lib.hid (value_step s P q j' (show 2 ≤ n' by omega))
              obtain ⟨x, hx⟩ : ∃ x, P q = x := ⟨_, rfl⟩
              rw [hx, HK.out] at HVS
              rw [hx] at HPS ⊢
              clear hb2 hq hx HTK HOWN HB
              by_cases hik : j' < k
              · have hcmp : ¬ (k : Int) ≤ (j' : Int) := by omega
                have d4 : decide (k ≤ j') = false := decide_eq_false (by omega)
                have d5 : decide ((k : Int) ≤ (j' : Int)) = false := decide_eq_false (by omega)
                have HNV : Hid (valueV s P c n0 j0 = (valueV s P q k j').map (fun v => (W ++ [(x, false)]).foldr joinD v)) := Lib.hid (by
                  rw [hval.out, HQ.out, HVS.out, if_pos hik, d4, Option.map_map]
                  congr 1
                  funext v
                  simp)
                go_wp2_with fail
                refine (HLF.out w2).mono ?_
                rintro e w3 ⟨rfl, rfl⟩
                go_wp2_with (at_builtin; refine wpList_append_own _ rfl _ _ 54 rfl w.heap.size 58 i0 (.agg #[.string ⟨#[]⟩, .bool false]) 2 24 Tryd.underlying54 hi hz0 hz1 hz2 rfl (by decide) _ W.length _ rfl (h22.alloc _) ⟨w2.heap.size, 0, none⟩ 1 1 [.string x, .bool false] rfl rfl (news_two _ _ _ _) (by simp [Value.oneCell']) (by unfold maxLen; omega) (by omega) (by simp; omega) ?_; intro v' w6 hown6 hgrow6 _; obtain ⟨g6, cap6, rfl⟩ := ownsRow_succ hown6; have hbb := (HB2.out.alloc hw2 (.cells #[.string x, .bool false] 58)).grown hgrow6 (by simp; omega) (fun q ej => (h22.lt q ej).1))
                refine ⟨⟨k, j', q, p', cc', W ++ [(x, false)], rfl, rfl, rfl, by have := HQ.out; omega, by omega, by omega, by omega, by have := HQ.out; simp; omega, Lib.hid ?_, ?_, HNV, Lib.hid ?_, hbb⟩, by simp [intOf]; omega⟩
                · rcases hp.out with h | h
                  · exact .inl h
                  · have := HQ.out; omega
                · rw [List.length_append, flatD_snoc]
                  exact hown6
                · intro d hd
                  rcases List.mem_append.1 hd with h | h
                  · exact hsz.out d h
                  · obtain rfl : d = (x, false) := by simpa using h
                    exact HPS.out
              · have hcmp : (k : Int) ≤ (j' : Int) := by omega
                have d4 : decide (k ≤ j') = true := decide_eq_true (by omega)
                have d5 : decide ((k : Int) ≤ (j' : Int)) = true := decide_eq_true (by omega)
                have g1 : IntKind.i64.wrap ((n' : Int) - (k : Int)) = ((n' - k : Nat) : Int) := by rw [IntWalk.i64_in _ (by omega)]; omega
                have g2 : IntKind.i64.wrap ((j' : Int) - (k : Int)) = ((j' - k : Nat) : Int) := by rw [IntWalk.i64_in _ (by omega)]; omega
                have HNV : Hid (valueV s P c n0 j0 = (valueV s P q (n' - k) (j' - k)).map (fun v => (W ++ [(x, true)]).foldr joinD v)) := Lib.hid (by
                  rw [hval.out, HQ.out, HVS.out, if_neg hik, d4, Option.map_map]
                  congr 1
                  funext v
                  simp)
                go_wp2_with fail
                refine (HLF.out w2).mono ?_
                rintro e w3 ⟨rfl, rfl⟩
                go_wp2_with (at_builtin; refine wpList_append_own _ rfl _ _ 54 rfl w.heap.size 58 i0 (.agg #[.string ⟨#[]⟩, .bool false]) 2 24 Tryd.underlying54 hi hz0 hz1 hz2 rfl (by decide) _ W.length _ rfl (h22.alloc _) ⟨w2.heap.size, 0, none⟩ 1 1 [.string x, .bool true] rfl rfl (news_two _ _ _ _) (by simp [Value.oneCell']) (by unfold maxLen; omega) (by omega) (by simp; omega) ?_; intro v' w6 hown6 hgrow6 _; obtain ⟨g6, cap6, rfl⟩ := ownsRow_succ hown6; have hbb := (HB2.out.alloc hw2 (.cells #[.string x, .bool true] 58)).grown hgrow6 (by simp; omega) (fun q ej => (h22.lt q ej).1))
                refine ⟨⟨n' - k, j' - k, q, p', cc', W ++ [(x, true)], rfl, rfl, rfl, by have := HQ.out; omega, by omega, by omega, by omega, by have := HQ.out; simp; omega, Lib.hid ?_, ?_, HNV, Lib.hid ?_, hbb⟩, by simp [intOf]; omega⟩
                · rcases hp.out with h | h
                  · exact .inl h
                  · have := HQ.out; omega
                · rw [List.length_append, flatD_snoc]
                  exact hown6
                · intro d hd
                  rcases List.mem_append.1 hd with h | h
                  · exact hsz.out d h
                  · obtain rfl : d = (x, true) := by simpa using h
                    exact HPS.out
          · obtain rfl : n' = 1 := by omega
            obtain rfl : j' = 0 := by omega
            obtain ⟨wo, rfl⟩ : ∃ W : World, W = wr := ⟨_, rfl⟩
            have hex : ¬ (1 : Int) < ((1 : Nat) : Int) := by decide
            have HFIN : Hid (decide (VerifyOk root n0 j0 s P c) = (decide (c' = 0) && decide (W.foldr joinD (leafS s) = root))) := Lib.hid (by
              rw [HSP.out, hval.out]
              cases c' with
              | zero => simp [valueV]
              | succ q => simp [valueV])
            have HLEAF := Lib.hid (leaf_any s wo hs (HT.out.below hB))
            have HB := Lib.hid hB
            obtain ⟨pd, cd, rfl, hrd2⟩ := own_readsD hown
            have HRD := Lib.hid hrd2
            obtain ⟨m, hm⟩ : ∃ m, W.length = m := ⟨_, rfl⟩
            have hm1000 : m ≤ 1000 := by omega
            have HWM := Lib.hid hm
            rw [hm] at HRD ⊢
            have HSZ := Lib.hid (fun j (hj : j < m) => (show (W.getD j (⟨#[]⟩, false)).1.size = 32 from by
              have hjw : j < W.length := by omega
              rw [List.getD_eq_getElem?_getD, List.getElem?_eq_getElem hjw]
              exact hsz.out _ (List.getElem_mem hjw)))
            clear hrd hown hrd2 hB hm hval hp
            go_wp2_with fail
            refine HLEAF.out.mono ?_
            rintro e w5 ⟨rfl, hb5⟩
            have HB5 := Lib.hid (HB.out.trans (hb5.mono HB.out.size))
            have HRD5 := Lib.hid (HRD.out.below hb5)
            have HLS : Hid ((leafS s).size = 32) := Lib.hid rfl
            obtain ⟨acc, hacc⟩ : ∃ a, leafS s = a := ⟨_, rfl⟩
            rw [hacc] at HFIN HLS ⊢
            clear hb5 hacc HLEAF HB HRD
            go_wp2_with fail
            refine (backD_any _ _ _ _).mono ?_
            rintro e w' ⟨rfl, rfl⟩
            go_wp2_with fail
            obtain ⟨wq, hwq⟩ : ∃ wq, (w5.alloc (.cells #[.string acc] 9)).alloc (.cells #[.slice pd m cd] 54) = wq := ⟨_, rfl⟩
            have hz : wq.heap.size = w5.heap.size + 2 := by rw [← hwq]; simp
            have bx0 := (Boxed.new w5 9 (.string acc)).alloc (.cells #[.slice pd m cd] 54)
            have bx1 := Boxed.new (w5.alloc (.cells #[.string acc] 9)) 54 (.slice pd m cd)
            have hal : Below w5.heap.size w5 wq := by rw [← hwq]; exact ((Below.refl _ _).alloc (Nat.le_refl _) _).alloc (by simp) _
            rw [World.size_alloc] at bx1
            rw [hwq] at bx0 bx1 ⊢
            obtain ⟨S, hS⟩ : ∃ S, w5.heap.size = S := ⟨_, rfl⟩
            have HWS : Hid (w.heap.size ≤ S) := Lib.hid (by rw [← hS]; exact HB5.out.size)
            have HTW : Hid (0 < w.heap.size) := Lib.hid (cell_lt' (HT.out 0 (by omega)))
            have HBQ := Lib.hid (HB5.out.trans (hal.mono HB5.out.size))
            have HRQ : Hid (∀ W2 : World, (∀ b, b < wq.heap.size → b ≠ S → W2.heap[b]? = wq.heap[b]?) → ReadsD W2 pd m (fun j => W.getD j (⟨#[]⟩, false))) := Lib.hid (fun W2 h i hi => by
              obtain ⟨b, o, hp, hc⟩ := HRD5.out i hi
              refine ⟨b, o, hp, fun j hj => ?_⟩
              have h1 := hc j hj
              have hlt := cell_lt' h1.1
              have hb1 : W2.heap[b]? = w5.heap[b]? := (h b (by omega) (by omega)).trans (hal.block b hlt)
              exact ⟨(cell_of_heap hb1 _).trans h1.1, (cell_of_heap hb1 _).trans h1.2⟩)
            rw [hS] at hz bx0 bx1 ⊢
            have HB0 := Lib.hid bx0
            have HB1 := Lib.hid bx1
            have HZ := Lib.hid hz
            have HFO : Hid (foldD W m acc = W.foldr joinD acc) := Lib.hid (by
              rw [foldD_eq W m acc (by rw [HWM.out]; exact Nat.le_refl _), List.take_of_length_le (by rw [HWM.out]; exact Nat.le_refl _)])
            obtain ⟨fin, hfin⟩ : ∃ f, W.foldr joinD acc = f := ⟨_, rfl⟩
            rw [hfin] at HFIN HFO
            clear hwq bx0 bx1 hal hz hS hfin HRD5
            refine (wpIn_wide (n := 9)).1 ?_
            refine rangeFunc_open rfl (by omega) (gf := 63) (lb := #[.pointer (some ⟨S + 1, 0, none⟩)]) rfl trivial (enters_of Tryd.func63 (by kernel_rfl) rfl) (S + 2) (by rw [HZ.out]) ?_
            intro W1 rr _ hr hL ⟨ob, ob', hW1⟩
            have hW1b : Below (S + 2) wq W1 := by
              rw [hW1]
              exact ((Below.refl _ _).alloc (by have := HZ.out; omega) _).alloc (by have := HZ.out; simp; omega) _
            have hJ0 : VerAcc W fin w wq S (S + 2) (S + 3) rr m W1 :=
              ⟨acc, HLS.out, HFO.out, (hW1b.block S (by omega)).trans HB0.out, HBQ.out.trans (hW1b.mono (by have := HWS.out; omega)), by rw [hW1]; simp; omega, fun b hb _ => hW1b.block b (by have := HZ.out; omega), hL⟩
            have HCB : Hid (∀ j W2, VerAcc W fin w wq S (S + 2) (S + 3) rr j W2 → W2.cell? ⟨S + 1, 0, none⟩ = some (.slice pd m cd) ∧ ReadsD W2 pd m (fun j => W.getD j (⟨#[]⟩, false))) := Lib.hid (fun j W2 h => by
              have hzz := HZ.out
              exact ⟨(cell_of_heap (h.rest (S + 1) (by omega) (by omega)) 0).trans HB1.out.cell, HRQ.out W2 h.rest⟩)
            clear hW1 hW1b
            refine (backD1_in 8 (S + 3) (S + 1) m cd pd (fun j => W.getD j (⟨#[]⟩, false)) (by omega) (by omega) (VerAcc W fin w wq S (S + 2) (S + 3) rr) ?hY HCB.out W1 hJ0).mono ?_
            case hY =>
              intro j Wj hj hJ
              obtain ⟨xj, hxj⟩ : ∃ x, (W.getD j (⟨#[]⟩, false)).1 = x := ⟨_, rfl⟩
              obtain ⟨bj, hbj⟩ : ∃ x, (W.getD j (⟨#[]⟩, false)).2 = x := ⟨_, rfl⟩
              rw [hxj, hbj]
              refine (yield_open (On := VerOn W fin w wq S j) (Out := fun _ _ => False) hJ.loop trivial hr rfl ?_).mono ?_
              · intro Rp hRp
                have HRP := Lib.hid hRp
                clear hRp
                have HJ := Lib.hid hJ
                obtain ⟨ac, has, hfo, hbx, hbl, hsz2, hrs, hlp⟩ := hJ
                have hala : Below Wj.heap.size Wj (Wj.alloc (.cells #[.string xj, .bool bj] 58)) := (Below.refl _ _).alloc (Nat.le_refl _) _
                have hlpa : LoopAt (Wj.alloc (.cells #[.string xj, .bool bj] 58)) (S + 2) (S + 3) rr .ready none := hlp.keep (hala.block _ (Array.getElem?_eq_some_iff.1 hlp.lrec).1) (hala.block _ (Array.getElem?_eq_some_iff.1 hlp.ds).1)
                have hbxa0 : Boxed (Wj.alloc (.cells #[.string xj, .bool bj] 58)) S 9 (.string ac) := hbx.alloc _
                have xa0 : (Wj.alloc (.cells #[.string xj, .bool bj] 58)).cell? ⟨Wj.heap.size, 0, none⟩ = some (.string xj) := by simp
                have xa1 : (Wj.alloc (.cells #[.string xj, .bool bj] 58)).cell? ⟨Wj.heap.size, 1, none⟩ = some (.bool bj) := by simp
                have hl3lt := (Array.getElem?_eq_some_iff.1 hlp.lrec).1
                clear hJ0
                gi_wp2
                obtain ⟨Wa, hWa⟩ : ∃ Wa, Wj.alloc (.cells #[.string xj, .bool bj] 58) = Wa := ⟨_, rfl⟩
                obtain ⟨X, hX⟩ : ∃ X, Wj.heap.size = X := ⟨_, rfl⟩
                rw [hWa] at hala hlpa hbxa0 xa0 xa1 ⊢
                rw [hX] at xa0 xa1 hl3lt ⊢
                have hblA : Below w.heap.size w Wa := hbl.trans (hala.mono hbl.size)
                have hszA : wq.heap.size ≤ Wa.heap.size := Nat.le_trans hsz2 hala.size
                have hrsA : ∀ b, b < wq.heap.size → b ≠ S → Wa.heap[b]? = wq.heap[b]? := fun b hb hne => (hala.block b (by omega)).trans (hrs b hb hne)
                refine ⟨_, hlpa.begin (P := Tryd.prog), ?_⟩
                have hl2 := hlpa.put (st' := .busy) (pe' := none)
                have hbxa : Boxed (Wa.putObj (S + 3) (.loop { rr with state := .busy, pending := none })) S 9 (.string ac) := (World.putObj_heap_other (by omega)).trans hbxa0
                have hrs2 : ∀ b, b < S + 2 → b ≠ S → (Wa.putObj (S + 3) (.loop { rr with state := .busy, pending := none })).heap[b]? = wq.heap[b]? := fun b hb hne => (World.putObj_heap_other (by omega)).trans (hrsA b (by have := HZ.out; omega) hne)
                have hbl2 : Below w.heap.size w (Wa.putObj (S + 3) (.loop { rr with state := .busy, pending := none })) := Below_put hblA (by have := HWS.out; omega) hblA.size
                have hsz3 := putObj_size Wa (S + 3) (.loop { rr with state := .busy, pending := none })
                have xb0 : (Wa.putObj (S + 3) (.loop { rr with state := .busy, pending := none })).cell? ⟨X, 0, none⟩ = some (.string xj) := (cell_of_heap (World.putObj_heap_other (by omega)) 0).trans xa0
                have xb1 : (Wa.putObj (S + 3) (.loop { rr with state := .busy, pending := none })).cell? ⟨X, 1, none⟩ = some (.bool bj) := (cell_of_heap (World.putObj_heap_other (by omega)) 1).trans xa1
                obtain ⟨W2, hW2⟩ : ∃ W2, Wa.putObj (S + 3) (.loop { rr with state := .busy, pending := none }) = W2 := ⟨_, rfl⟩
                rw [hW2] at hl2 hbxa hrs2 hbl2 hsz3 xb0 xb1 ⊢
                have e0 := hbxa.cell
                have hrj : xj.size = 32 := by rw [← hxj]; exact HSZ.out j (by omega)
                have HND := Lib.hid (join_any xj bj ac W2 (by omega) (by omega) (HT.out.below hbl2))
                have HNF : Hid (foldD W j (if bj = true then nodeS xj ac else nodeS ac xj) = fin) := Lib.hid (by
                  rw [← hfo, ← hxj, ← hbj]
                  rfl)
                have HNS : Hid ((if bj = true then nodeS xj ac else nodeS ac xj).size = 32) := Lib.hid (by split <;> rfl)
                obtain ⟨na, hna⟩ : ∃ x, (if bj = true then nodeS xj ac else nodeS ac xj) = x := ⟨_, rfl⟩
                rw [hna] at HND HNF HNS
                have HBXA := Lib.hid hbxa
                have HL2 := Lib.hid hl2
                have HRS2 := Lib.hid hrs2
                have HBL2 := Lib.hid hbl2
                have HSZ2 := Lib.hid hsz3
                have HSZ3 := Lib.hid hszA
                clear hW2 hl2 hrs2 hbl2 hsz3 hrj hxj hbj hna hbx hbl hsz2 hrs hlp hfo has hbxa hWa hX hala hlpa hbxa0 xa0 xa1 hblA hszA hrsA hl3lt
                gi_wp2_with fail
                refine ⟨trivial, ?_⟩
                refine (callsIn_wide.2 HND.out).mono ?_
                rintro e W3 ⟨rfl, hb3⟩
                have hb23 : Below W2.heap.size W2 W3 := hb3
                have hbx3 : Boxed W3 S 9 (.string ac) := (hb3.block S (Array.getElem?_eq_some_iff.1 HBXA.out).1).trans HBXA.out
                have hl3 := HL2.out.keep (hb23.block _ (Array.getElem?_eq_some_iff.1 HL2.out.lrec).1) (hb23.block _ (Array.getElem?_eq_some_iff.1 HL2.out.ds).1)
                have e1 := hbx3.cell
                have f1 := hbx3.frozen
                have HBX3 := Lib.hid (hbx3.set (.string na))
                have HL3 := Lib.hid (LoopAt_set hl3 (B := S) (by omega) (by omega) (.string na))
                have HB3' := Lib.hid hb23
                clear hbx3 hl3 hb3 hb23 HND e0
                gi_wp2_with fail
                rw [HRP.out]
                refine ⟨HL3.out, ?_⟩
                have hzz := HZ.out
                have hws := HWS.out
                have hs2 := HSZ2.out
                have hs3 := HSZ3.out
                have hs4 := HB3'.out.size
                have hbs := Below_set' (HBL2.out.trans (HB3'.out.mono HBL2.out.size)) (b := S) (i := 0) hws (.string na)
                exact ⟨na, HNS.out, HNF.out, (World.putObj_heap_other (by omega)).trans HBX3.out, Below_put hbs (by omega) hbs.size, by rw [putObj_size]; have := (grownBy_setCell' W3 S (.string na)).size; omega, fun b hb hne => (World.putObj_heap_other (by omega)).trans ((Below.heap_setCell _ _ _ b hne).trans ((HB3'.out.block b (by omega)).trans (HRS2.out b (by omega) hne)))⟩
              · rintro e W' (⟨rfl, hL', hon⟩ | ⟨_, _, _, h⟩)
                · obtain ⟨ac, h1, h2, h3, h4, h5, h6⟩ := hon
                  exact ⟨rfl, ac, h1, h2, h3, h4, h5, h6, hL'⟩
                · exact h.elim
            rintro e W3 ⟨⟨v, rfl⟩, hJ⟩
            refine rangePost_done hJ.loop fun hL2 => ?_
            obtain ⟨ac, has, hfo, hbx, hbl, hsz2, _, _⟩ := hJ
            have hac : ac = fin := hfo
            have hbl4 : Below w.heap.size w (W3.putObj (S + 3) (.loop { rr with state := .exhausted, pending := none })) := Below_put hbl (by have := HWS.out; omega) hbl.size
            have hbx4 : Boxed (W3.putObj (S + 3) (.loop { rr with state := .exhausted, pending := none })) S 9 (.string ac) := (World.putObj_heap_other (by omega)).trans hbx
            have hL3 : LoopAt (W3.putObj (S + 3) (.loop { rr with state := .exhausted, pending := none })) (S + 2) (S + 3) rr .exhausted none := hL2
            show Exit.inBlock 2 _ .normal _ (W3.putObj (S + 3) (.loop { rr with state := .exhausted, pending := none }))
            obtain ⟨W4, hW4⟩ : ∃ W4, W3.putObj (S + 3) (.loop { rr with state := .exhausted, pending := none }) = W4 := ⟨_, rfl⟩
            rw [hW4] at hbx4 hbl4 hL3 ⊢
            have e4 := hbx4.cell
            rw [hac] at e4
            have HL3 := Lib.hid hL3
            have HBL4 := Lib.hid hbl4
            clear hW4 hbx4 hbl4 hL3 hL2 hbx hbl hsz2 hfo hac hJ0 has
            by_cases hc0 : c' = 0
            · subst hc0
              rw [decide_eq_true rfl, Bool.true_and] at HFIN
              go_wp2
              refine ⟨by simp, .inl ⟨_, _, rfl, run_takeDeferred HL3.out.ds, ?_⟩⟩
              refine ⟨.bool (fin.toList == root.toList), by simp [results, Tryd.results21, go_sem], ?_⟩
              exact ⟨by rw [HFIN.out, beq_dec], Below_put HBL4.out (by have := HWS.out; omega) HBL4.out.size⟩
            · rw [decide_eq_false hc0, Bool.false_and] at HFIN
              have hc1 : ¬ (c' : Int) = 0 := by omega
              go_wp2
              refine ⟨by simp, .inl ⟨_, _, rfl, run_takeDeferred HL3.out.ds, ?_⟩⟩
              refine ⟨.bool false, by simp [results, Tryd.results21, go_sem], ?_⟩
              exact ⟨by rw [HFIN.out], Below_put HBL4.out (by have := HWS.out; omega) HBL4.out.size⟩
      · rw [decide_eq_false h2] at HALL
        have HX : Hid (decide (VerifyOk root n i s P c) = false) := Lib.hid (decide_eq_false (fun h => h2 h.2.2.1))
        clear h2
        go_wp2_with fail
        refine (HALL.out w HR.out).mono ?_
        rintro e w' ⟨rfl, rfl⟩
        go_wp2_with fail
        refine ⟨.bool false, by simp [results, Tryd.results21, go_sem], ?_⟩
        exact ⟨by rw [HX.out], Below.refl _ _⟩
theorem verify_any (root s : ByteArray) (n i : Int) (p : Option Addr) (c cc : Nat) (P : Nat → ByteArray) (w : World) (hnb : n ≤ 9223372036854775807) (hib : -9223372036854775808 ≤ i) (hs : s.size ≤ 4000) (hc : c ≤ 1000) (hcc : c ≤ cc) (hr : ReadsS w p c P) (hT : RoundOk w) :
    Calls Tryd.prog 21 #[.string root, .int .i64 n, .int .i64 i, .string s, .slice p c cc] w fun e w' => e = .returned (.bool (decide (VerifyOk root n i s P c))) ∧ Below w.heap.size w w' := callsIn_wide.1 (verify_in root s n i p c cc P w hnb hib hs hc hcc hr hT)
end Go.Proofs.YtolhjkbfinlfcaaDoor
