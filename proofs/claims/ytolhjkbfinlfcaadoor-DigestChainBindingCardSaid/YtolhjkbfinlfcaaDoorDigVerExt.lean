/- Package digest: VerifyExtension. Conditions: a proof of at most 1000 strings that can be read; the table holds its words. -/
import Derived.Test.YtolhjkbfinlfcaaDoorDigVerify
namespace Go.Proofs.YtolhjkbfinlfcaaDoor
open Go Go.RowKit Go.Shelf
attribute [local go_sem] Oper.semAt_some
def VexOn (R : List (ByteArray × Bool)) (fin : ByteArray × ByteArray) (w wq : World) (S j : Nat) (W : World) : Prop :=
  ∃ ac : ByteArray × ByteArray, ac.1.size = 32 ∧ ac.2.size = 32 ∧ foldE R j ac = fin ∧ Boxed W S 9 (.string ac.1) ∧ Boxed W (S + 1) 9 (.string ac.2) ∧ Below w.heap.size w W ∧ wq.heap.size ≤ W.heap.size ∧ ∀ b, b < wq.heap.size → b ≠ S → b ≠ S + 1 → W.heap[b]? = wq.heap[b]?
def VexAcc (R : List (ByteArray × Bool)) (fin : ByteArray × ByteArray) (w wq : World) (S D l : Nat) (r : Loop) (j : Nat) (W : World) : Prop :=
  ∃ ac : ByteArray × ByteArray, ac.1.size = 32 ∧ ac.2.size = 32 ∧ foldE R j ac = fin ∧ Boxed W S 9 (.string ac.1) ∧ Boxed W (S + 1) 9 (.string ac.2) ∧ Below w.heap.size w W ∧ wq.heap.size ≤ W.heap.size ∧ (∀ b, b < wq.heap.size → b ≠ S → b ≠ S + 1 → W.heap[b]? = wq.heap[b]?) ∧ LoopAt W D l r .ready none
theorem VexAcc.loop {R : List (ByteArray × Bool)} {fin : ByteArray × ByteArray} {w wq : World} {S D l : Nat} {r : Loop} {j : Nat} {W : World} (h : VexAcc R fin w wq S D l r j W) : LoopAt W D l r .ready none := by
  obtain ⟨_, _, _, _, _, _, _, _, _, h⟩ := h
  exact h
theorem VexAcc.rest {R : List (ByteArray × Bool)} {fin : ByteArray × ByteArray} {w wq : World} {S D l : Nat} {r : Loop} {j : Nat} {W : World} (h : VexAcc R fin w wq S D l r j W) : ∀ b, b < wq.heap.size → b ≠ S → b ≠ S + 1 → W.heap[b]? = wq.heap[b]? := by
  obtain ⟨_, _, _, _, _, _, _, _, h, _⟩ := h
  exact h
set_option maxRecDepth 100000 in
set_option maxHeartbeats 4000000 in
theorem verext_in (old root : ByteArray) (m n : Int) (p : Option Addr) (c cc : Nat) (P : Nat → ByteArray) (w : World) (hnb : n ≤ 9223372036854775807) (hc : c ≤ 1000) (hcc : c ≤ cc) (hr : ReadsS w p c P) (hT : RoundOk w) :
    CallsIn Fence.wide 9 Tryd.prog 23 #[.string old, .int .i64 m, .string root, .int .i64 n, .slice p c cc] w fun e w' => e = .returned (.bool (decide (VerExtOk old m root n P c))) ∧ Below w.heap.size w w' := by
  have HT := Lib.hid hT
  have HR := Lib.hid hr
  have HALL := Lib.hid (fun W hr => all_any p c cc P W (by omega) hr)
  have HI1 := Lib.hid (isDigest_any old)
  have HI2 := Lib.hid (isDigest_any root)
  obtain ⟨i0, hi, hz0, hz1, hz2⟩ := infoSide
  clear hT hr
  refine callsIn_of_wp_marks Tryd.func23 rfl trivial ?_ rfl
  simp only [Tryd.ntmps23, List.size_toArray, List.length_cons, List.length_nil, Nat.reduceAdd, Nat.reduceSub, Array.replicate_succ, Array.replicate_zero, List.push_toArray, List.append_toArray, List.nil_append, List.cons_append]
  refine wpIn_wide.2 ?_
  by_cases h0 : m < 0
  · have HX : Hid (decide (VerExtOk old m root n P c) = false) := Lib.hid (decide_eq_false (fun h => by have := h.1; omega))
    go_wp2_with fail
    refine ⟨.bool false, by simp [results, Tryd.results23, go_sem], ?_⟩
    exact ⟨by rw [HX.out], Below.refl _ _⟩
  · by_cases h1 : n < m
    · have HX : Hid (decide (VerExtOk old m root n P c) = false) := Lib.hid (decide_eq_false (fun h => by have := h.2.1; omega))
      go_wp2_with fail
      refine ⟨.bool false, by simp [results, Tryd.results23, go_sem], ?_⟩
      exact ⟨by rw [HX.out], Below.refl _ _⟩
    · by_cases h2 : Digs c P
      · rw [decide_eq_true h2] at HALL
        have HD := Lib.hid h2
        by_cases h3 : old.size = 32
        · rw [decide_eq_true h3] at HI1
          by_cases h4 : root.size = 32
          · rw [decide_eq_true h4] at HI2
            obtain ⟨n0, rfl⟩ : ∃ n0 : Nat, n = (n0 : Nat) := ⟨n.toNat, by omega⟩
            obtain ⟨j0, rfl⟩ : ∃ j0 : Nat, m = (j0 : Nat) := ⟨m.toNat, by omega⟩
            have d1 : decide ((j0 : Int) < 0) = false := decide_eq_false (by omega)
            have d2 : decide (n0 < j0) = false := decide_eq_false (by omega)
            have d3 : decide ((n0 : Int) < (j0 : Int)) = false := decide_eq_false (by omega)
            have HOS := Lib.hid h3
            have hjn : j0 ≤ n0 := by omega
            have HSP : Hid (VerExtOk old j0 root n0 P c ↔ if (j0 : Int) = 0 then c = 0 ∧ old = dS ⟨#[]⟩ else if (j0 : Int) = (n0 : Int) then c = 0 ∧ old = root else bothV old P c j0 n0 true = some (old, root)) := Lib.hid (by
              unfold VerExtOk
              rw [Int.toNat_natCast, Int.toNat_natCast]
              exact ⟨fun h => h.2.2.2.2.2, fun h => ⟨by omega, by omega, h2, h3, h4, h⟩⟩)
            clear h2 h0 h1 h3 h4
            go_wp2_with fail
            refine (HALL.out w HR.out).mono ?_
            rintro e w' ⟨rfl, rfl⟩
            go_wp2_with fail
            refine (HI1.out w).mono ?_
            rintro e w' ⟨rfl, rfl⟩
            go_wp2_with fail
            refine (HI2.out w).mono ?_
            rintro e w' ⟨rfl, rfl⟩
            by_cases hj0 : j0 = 0
            · subst hj0
              have HS := Lib.hid (dsum_s ⟨#[]⟩ w (by decide) HT.out)
              rw [if_pos (show ((0 : Nat) : Int) = 0 from rfl)] at HSP
              by_cases hc0 : c = 0
              · subst hc0
                have HX : Hid (decide (VerExtOk old ((0 : Nat) : Int) root n0 P 0) = decide (old = dS ⟨#[]⟩)) := Lib.hid (decide_eq_decide.2 (HSP.out.trans ⟨fun h => h.2, fun h => ⟨rfl, h⟩⟩))
                go_wp2_with fail
                refine HS.out.mono ?_
                rintro e w5 ⟨rfl, hb5⟩
                go_wp2_with fail
                refine ⟨.bool (old.toList == (dS ⟨#[]⟩).toList), by simp [results, Tryd.results23, go_sem], ?_⟩
                exact ⟨by rw [HX.out, beq_dec], hb5⟩
              · have HX : Hid (decide (VerExtOk old ((0 : Nat) : Int) root n0 P c) = false) := Lib.hid (decide_eq_false (fun h => hc0 (HSP.out.1 h).1))
                have hc1 : ¬ (c : Int) = 0 := by omega
                go_wp2_with fail
                refine ⟨.bool false, by simp [results, Tryd.results23, go_sem], ?_⟩
                exact ⟨by rw [HX.out], Below.refl _ _⟩
            · rw [if_neg (by omega)] at HSP
              have d4 : ((j0 : Int) == 0) = false := by simp; omega
              have d5 : decide ((j0 : Int) = 0) = false := decide_eq_false (by omega)
              have d6 : ¬ (j0 : Int) = 0 := by omega
              by_cases hjn0 : j0 = n0
              · subst hjn0
                rw [if_pos rfl] at HSP
                by_cases hc0 : c = 0
                · subst hc0
                  have HX : Hid (decide (VerExtOk old (j0 : Nat) root (j0 : Nat) P 0) = decide (old = root)) := Lib.hid (decide_eq_decide.2 (HSP.out.trans ⟨fun h => h.2, fun h => ⟨rfl, h⟩⟩))
                  go_wp2_with fail
                  refine ⟨.bool (old.toList == root.toList), by simp [results, Tryd.results23, go_sem], ?_⟩
                  exact ⟨by rw [HX.out, beq_dec], Below.refl _ _⟩
                · have HX : Hid (decide (VerExtOk old (j0 : Nat) root (j0 : Nat) P c) = false) := Lib.hid (decide_eq_false (fun h => hc0 (HSP.out.1 h).1))
                  have hc1 : ¬ (c : Int) = 0 := by omega
                  go_wp2_with fail
                  refine ⟨.bool false, by simp [results, Tryd.results23, go_sem], ?_⟩
                  exact ⟨by rw [HX.out], Below.refl _ _⟩
              · rw [if_neg (by omega)] at HSP
                have d7 : ¬ (j0 : Int) = (n0 : Int) := by omega
                have d8 : ((j0 : Int) == (n0 : Int)) = false := by simp; omega
                have hj1 : 1 ≤ j0 := by omega
                go_wp2_with fail
                go_loopw [1, 3, 4, 11, 12] (fun v1 v3 v4 v11 v12 wr => ∃ (n' m' c' : Nat) (p' : Option Addr) (cc' : Nat) (W : List (ByteArray × Bool)) (wh : Bool), v1 = .int .i64 (m' : Nat) ∧ v3 = .int .i64 (n' : Nat) ∧ v4 = .slice p' c' cc' ∧ v12 = .bool wh ∧ c' ≤ cc' ∧ 1 ≤ m' ∧ m' ≤ n' ∧ n' ≤ n0 ∧ W.length + c' = c ∧
                  Hid (p' = p ∨ c' = 0) ∧ wr.ownsRow w.heap.size 58 2 v11 W.length (flatD W) ∧ Hid (bothV old P c j0 n0 true = (bothV old P c' m' n' wh).map (fun v => W.foldr joinE v)) ∧ Hid (∀ d, d ∈ W → d.1.size = 32) ∧ Below w.heap.size w wr) (fun _ v3 _ _ _ _ => (intOf v3).toNat)
                case atStart => exact ⟨n0, j0, c, p, cc, [], true, rfl, rfl, rfl, rfl, hcc, by omega, by omega, by omega, by simp, Lib.hid (.inl rfl), World.ownsRow_nil _ _ _ _, Lib.hid (by cases bothV old P c j0 n0 true <;> rfl), Lib.hid (fun d h => by simp at h), Below.refl _ _⟩
                case round =>
                  obtain ⟨n', m', c', p', cc', W, wh, rfl, rfl, rfl, rfl, hcc', hm1, hmn, hn0, hWc, hp, hown, hval, hsz, hB⟩ := hrel
                  have hrd : ReadsS wr p' c' P := by
                    rcases hp.out with h | h
                    · rw [h]; exact (HR.out.below hB).less (by omega)
                    · rw [h]; exact fun q hq => by omega
                  by_cases hlt : m' < n'
                  · have v0 : (m' : Int) < (n' : Int) := by omega
                    have HTK := Lib.hid (take_any p' c' cc' P wr (by omega) hcc' hrd)
                    have HB := Lib.hid hB
                    have HOWN := Lib.hid hown
                    have hlf := left_facts (n := n') (by omega)
                    have HLF := Lib.hid (fun W => left_any n' W (by omega) (by omega))
                    obtain ⟨k, hk⟩ : ∃ k, leftN n' = k := ⟨_, rfl⟩
                    rw [hk] at hlf HLF
                    have HK := Lib.hid hk
                    clear hrd hB hown hk
                    go_wp2_with fail
                    refine HTK.out.mono ?_
                    rintro e w2 ⟨h, hb2⟩
                    rcases h with ⟨hc0, rfl⟩ | ⟨q, hq, rfl⟩
                    · have HX : Hid (decide (VerExtOk old j0 root n0 P c) = false) := Lib.hid (decide_eq_false (fun h => by
                        have h5 := HSP.out.1 h
                        rw [hval.out, hc0, bothV, if_neg (by omega)] at h5
                        cases h5))
                      have HB2 := Lib.hid (HB.out.trans (hb2.mono HB.out.size))
                      clear hc0 hb2
                      go_wp2_with fail
                      refine ⟨.bool false, by simp [results, Tryd.results23, go_sem], ?_⟩
                      exact ⟨by rw [HX.out], HB2.out⟩
                    · have HB2 := Lib.hid (HB.out.trans (hb2.mono HB.out.size))
                      have h22 := own_below HOWN.out hb2
                      have hw2 := HB2.out.size
                      have HQ := Lib.hid hq
                      have hWl : W.length ≤ 1000 := by omega
                      have HPS : Hid ((P q).size = 32) := Lib.hid (HD.out q (by omega))
                      have HVS := Lib.hid (both_step old P q wh hlt)
                      obtain ⟨x, hx⟩ : ∃ x, P q = x := ⟨_, rfl⟩
                      rw [hx, HK.out] at HVS
                      rw [hx] at HPS ⊢
                      clear hb2 hq hx HTK HOWN HB
                      by_cases hik : m' ≤ k
                      · have hcmp : ¬ (k : Int) < (m' : Int) := by omega
                        have d9 : decide (k < m') = false := decide_eq_false (by omega)
                        have d10 : decide ((k : Int) < (m' : Int)) = false := decide_eq_false (by omega)
                        have HNV : Hid (bothV old P c j0 n0 true = (bothV old P q m' k wh).map (fun v => (W ++ [(x, false)]).foldr joinE v)) := Lib.hid (by
                          rw [hval.out, HQ.out, HVS.out, if_pos hik, d9, Option.map_map]
                          congr 1
                          funext v
                          simp)
                        go_wp2_with fail
                        refine (HLF.out w2).mono ?_
                        rintro e w3 ⟨rfl, rfl⟩
                        go_wp2_with (at_builtin; refine wpList_append_own _ rfl _ _ 54 rfl w.heap.size 58 i0 (.agg #[.string ⟨#[]⟩, .bool false]) 2 24 Tryd.underlying54 hi hz0 hz1 hz2 rfl (by decide) _ W.length _ rfl (h22.alloc _) ⟨w2.heap.size, 0, none⟩ 1 1 [.string x, .bool false] rfl rfl (news_two _ _ _ _) (by simp [Value.oneCell']) (by unfold maxLen; omega) (by omega) (by simp; omega) ?_; intro v' w6 hown6 hgrow6 _; obtain ⟨g6, cap6, rfl⟩ := ownsRow_succ hown6; have hbb := (HB2.out.alloc hw2 (.cells #[.string x, .bool false] 58)).grown hgrow6 (by simp; omega) (fun q ej => (h22.lt q ej).1))
                        refine ⟨⟨k, m', q, p', cc', W ++ [(x, false)], wh, rfl, rfl, rfl, rfl, by have := HQ.out; omega, by omega, by omega, by omega, by have := HQ.out; simp; omega, Lib.hid ?_, ?_, HNV, Lib.hid ?_, hbb⟩, by simp [intOf]; omega⟩
                        · rcases hp.out with h | h
                          · exact .inl h
                          · have := HQ.out; omega
                        · rw [List.length_append, flatD_snoc]
                          exact hown6
                        · intro d hd
                          rcases List.mem_append.1 hd with h | h
                          · exact hsz.out d h
                          · obtain rfl : d = (x, false) := by simpa using h
                            exact HPS.out
                      · have hcmp : (k : Int) < (m' : Int) := by omega
                        have d9 : decide (k < m') = true := decide_eq_true (by omega)
                        have d10 : decide ((k : Int) < (m' : Int)) = true := decide_eq_true (by omega)
                        have g1 : IntKind.i64.wrap ((n' : Int) - (k : Int)) = ((n' - k : Nat) : Int) := by rw [IntWalk.i64_in _ (by omega)]; omega
                        have g2 : IntKind.i64.wrap ((m' : Int) - (k : Int)) = ((m' - k : Nat) : Int) := by rw [IntWalk.i64_in _ (by omega)]; omega
                        have HNV : Hid (bothV old P c j0 n0 true = (bothV old P q (m' - k) (n' - k) false).map (fun v => (W ++ [(x, true)]).foldr joinE v)) := Lib.hid (by
                          rw [hval.out, HQ.out, HVS.out, if_neg hik, d9, Option.map_map]
                          congr 1
                          funext v
                          simp)
                        go_wp2_with fail
                        refine (HLF.out w2).mono ?_
                        rintro e w3 ⟨rfl, rfl⟩
                        go_wp2_with (at_builtin; refine wpList_append_own _ rfl _ _ 54 rfl w.heap.size 58 i0 (.agg #[.string ⟨#[]⟩, .bool false]) 2 24 Tryd.underlying54 hi hz0 hz1 hz2 rfl (by decide) _ W.length _ rfl (h22.alloc _) ⟨w2.heap.size, 0, none⟩ 1 1 [.string x, .bool true] rfl rfl (news_two _ _ _ _) (by simp [Value.oneCell']) (by unfold maxLen; omega) (by omega) (by simp; omega) ?_; intro v' w6 hown6 hgrow6 _; obtain ⟨g6, cap6, rfl⟩ := ownsRow_succ hown6; have hbb := (HB2.out.alloc hw2 (.cells #[.string x, .bool true] 58)).grown hgrow6 (by simp; omega) (fun q ej => (h22.lt q ej).1))
                        refine ⟨⟨n' - k, m' - k, q, p', cc', W ++ [(x, true)], false, rfl, rfl, rfl, rfl, by have := HQ.out; omega, by omega, by omega, by omega, by have := HQ.out; simp; omega, Lib.hid ?_, ?_, HNV, Lib.hid ?_, hbb⟩, by simp [intOf]; omega⟩
                        · rcases hp.out with h | h
                          · exact .inl h
                          · have := HQ.out; omega
                        · rw [List.length_append, flatD_snoc]
                          exact hown6
                        · intro d hd
                          rcases List.mem_append.1 hd with h | h
                          · exact hsz.out d h
                          · obtain rfl : d = (x, true) := by simpa using h
                            exact HPS.out
                  · obtain rfl : m' = n' := by omega
                    obtain ⟨wo, rfl⟩ : ∃ W : World, W = wr := ⟨_, rfl⟩
                    have v0 : ¬ (m' : Int) < ((m' : Nat) : Int) := by omega
                    obtain ⟨pd, cd, rfl, hrd2⟩ := own_readsD hown
                    have HRD := Lib.hid hrd2
                    have HB := Lib.hid hB
                    obtain ⟨m, hm⟩ : ∃ m, W.length = m := ⟨_, rfl⟩
                    have hm1000 : m ≤ 1000 := by omega
                    have HWM := Lib.hid hm
                    rw [hm] at HRD ⊢
                    have HSZ := Lib.hid (fun j (hj : j < m) => (show (W.getD j (⟨#[]⟩, false)).1.size = 32 from by
                      have hjw : j < W.length := by omega
                      rw [List.getD_eq_getElem?_getD, List.getElem?_eq_getElem hjw]
                      exact hsz.out _ (List.getElem_mem hjw)))
                    clear hown hrd2 hB hm hp
                    have hws := HB.out.size
                    cases wh with
                    | true =>
                      have HFIN : Hid (decide (VerExtOk old j0 root n0 P c) = (decide (c' = 0) && decide (W.foldr joinE (old, old) = (old, root)))) := Lib.hid (by
                        rw [← Bool.decide_and, decide_eq_decide, HSP.out, hval.out]
                        cases c' with
                        | zero => simp [bothV]
                        | succ q => simp [bothV])
                      clear hrd
                      go_wp2_with fail
                      have hb5 : Below wo.heap.size wo ((wo.alloc (.cells #[.string old] 9)).alloc (.cells #[.string old] 9)) := ((Below.refl _ _).alloc (Nat.le_refl _) _).alloc (by simp) _
                      have bx0 : Boxed ((wo.alloc (.cells #[.string old] 9)).alloc (.cells #[.string old] 9)) wo.heap.size 9 (.string old) := (Boxed.new wo 9 (.string old)).alloc _
                      have bx1 : Boxed ((wo.alloc (.cells #[.string old] 9)).alloc (.cells #[.string old] 9)) (wo.heap.size + 1) 9 (.string old) := by
                        have h := Boxed.new (wo.alloc (.cells #[.string old] 9)) 9 (.string old)
                        rwa [World.size_alloc] at h
                      have hz5 : ((wo.alloc (.cells #[.string old] 9)).alloc (.cells #[.string old] 9)).heap.size = wo.heap.size + 2 := by simp
                      have HY := HOS
                      obtain ⟨w5, hW5⟩ : ∃ w5, (wo.alloc (.cells #[.string old] 9)).alloc (.cells #[.string old] 9) = w5 := ⟨_, rfl⟩
                      rw [hW5] at hb5 bx0 bx1 hz5 ⊢
                      obtain ⟨y, hy⟩ : ∃ y, old = y := ⟨_, rfl⟩
                      rw [show W.foldr joinE (old, old) = W.foldr joinE (y, y) from by rw [hy]] at HFIN
                      rw [hy] at HY bx0 bx1
                      clear hy hW5
                      have HB5 := Lib.hid (HB.out.trans (hb5.mono HB.out.size))
                      obtain ⟨S, hS⟩ : ∃ S, wo.heap.size = S := ⟨_, rfl⟩
                      have HWO : Hid (∀ b, b < S → w5.heap[b]? = wo.heap[b]?) := Lib.hid (fun b hb => hb5.block b (by omega))
                      have HSO := Lib.hid hS
                      rw [hS] at bx0 bx1 hz5 hws ⊢
                      have HTW : Hid (0 < w.heap.size) := Lib.hid (cell_lt' (HT.out 0 (by omega)))
                      have HWS := Lib.hid hws
                      have BX0 := Lib.hid bx0
                      have BX1 := Lib.hid bx1
                      have HZ5 := Lib.hid hz5
                      clear hb5 hS bx0 bx1 hz5 HB hws hval
                      refine (backD_any _ _ _ _).mono ?_
                      rintro e w' ⟨rfl, rfl⟩
                      go_wp2_with fail
                      obtain ⟨wq, hwq⟩ : ∃ wq, w5.alloc (.cells #[.slice pd m cd] 54) = wq := ⟨_, rfl⟩
                      have hz : wq.heap.size = S + 3 := by rw [← hwq]; simp [HZ5.out]
                      have bx0 : Boxed wq S 9 (.string y) := by rw [← hwq]; exact BX0.out.alloc _
                      have bx1 : Boxed wq (S + 1) 9 (.string y) := by rw [← hwq]; exact BX1.out.alloc _
                      have bx2 : Boxed wq (S + 2) 54 (.slice pd m cd) := by
                        have h := Boxed.new w5 54 (.slice pd m cd)
                        rwa [HZ5.out, hwq] at h
                      have hal : Below w5.heap.size w5 wq := by rw [← hwq]; exact (Below.refl _ _).alloc (Nat.le_refl _) _
                      rw [HZ5.out]
                      rw [hwq]
                      have HBQ := Lib.hid (HB5.out.trans (hal.mono HB5.out.size))
                      have HRQ : Hid (∀ W2 : World, (∀ b, b < wq.heap.size → b ≠ S → b ≠ S + 1 → W2.heap[b]? = wq.heap[b]?) → ReadsD W2 pd m (fun j => W.getD j (⟨#[]⟩, false))) := Lib.hid (fun W2 h i hi => by
                        obtain ⟨b, o, hp, hc⟩ := HRD.out i hi
                        refine ⟨b, o, hp, fun j hj => ?_⟩
                        have h1 := hc j hj
                        have hlt := cell_lt' h1.1
                        have hso := HSO.out
                        have hz5 := HZ5.out
                        have hb1 : W2.heap[b]? = wo.heap[b]? := (h b (by omega) (by omega) (by omega)).trans ((hal.block b (by omega)).trans (HWO.out b (by omega)))
                        exact ⟨(cell_of_heap hb1 _).trans h1.1, (cell_of_heap hb1 _).trans h1.2⟩)
                      have HB0 := Lib.hid bx0
                      have HB1 := Lib.hid bx1
                      have HB2 := Lib.hid bx2
                      have HZ := Lib.hid hz
                      have HFO : Hid (foldE W m (y, y) = W.foldr joinE (y, y)) := Lib.hid (by
                        rw [foldE_eq W m (y, y) (by rw [HWM.out]; exact Nat.le_refl _), List.take_of_length_le (by rw [HWM.out]; exact Nat.le_refl _)])
                      obtain ⟨fin, hfin⟩ : ∃ f, W.foldr joinE (y, y) = f := ⟨_, rfl⟩
                      rw [hfin] at HFIN HFO
                      clear hwq bx0 bx1 bx2 hal hz hfin HRD BX0 BX1 HZ5 HWO HSO
                      refine (wpIn_wide (n := 9)).1 ?_
                      refine rangeFunc_open rfl (by omega) (gf := 63) (lb := #[.pointer (some ⟨S + 2, 0, none⟩)]) rfl trivial (enters_of Tryd.func63 (by kernel_rfl) rfl) (S + 3) (by rw [HZ.out]) ?_
                      intro W1 rr _ hr hL ⟨ob, ob', hW1⟩
                      have hW1b : Below (S + 3) wq W1 := by
                        rw [hW1]
                        exact ((Below.refl _ _).alloc (by have := HZ.out; omega) _).alloc (by have := HZ.out; simp; omega) _
                      have hJ0 : VexAcc W fin w wq S (S + 3) (S + 4) rr m W1 :=
                        ⟨(y, y), HY.out, HY.out, HFO.out, (hW1b.block S (by omega)).trans HB0.out, (hW1b.block (S + 1) (by omega)).trans HB1.out, HBQ.out.trans (hW1b.mono (by have := HWS.out; omega)), by rw [hW1]; simp; omega, fun b hb _ _ => hW1b.block b (by have := HZ.out; omega), hL⟩
                      have HCB : Hid (∀ j W2, VexAcc W fin w wq S (S + 3) (S + 4) rr j W2 → W2.cell? ⟨S + 2, 0, none⟩ = some (.slice pd m cd) ∧ ReadsD W2 pd m (fun j => W.getD j (⟨#[]⟩, false))) := Lib.hid (fun j W2 h => by
                        have hzz := HZ.out
                        exact ⟨(cell_of_heap (h.rest (S + 2) (by omega) (by omega) (by omega)) 0).trans HB2.out.cell, HRQ.out W2 h.rest⟩)
                      clear hW1 hW1b
                      refine (backD1_in 8 (S + 4) (S + 2) m cd pd (fun j => W.getD j (⟨#[]⟩, false)) (by omega) (by omega) (VexAcc W fin w wq S (S + 3) (S + 4) rr) ?hY HCB.out W1 hJ0).mono ?_
                      case hY =>
                        intro j Wj hj hJ
                        obtain ⟨xj, hxj⟩ : ∃ x, (W.getD j (⟨#[]⟩, false)).1 = x := ⟨_, rfl⟩
                        obtain ⟨bj, hbj⟩ : ∃ x, (W.getD j (⟨#[]⟩, false)).2 = x := ⟨_, rfl⟩
                        rw [hxj, hbj]
                        refine (yield_open (On := VexOn W fin w wq S j) (Out := fun _ _ => False) hJ.loop trivial hr rfl ?_).mono ?_
                        · intro Rp hRp
                          have HRP := Lib.hid hRp
                          clear hRp
                          have HJ := Lib.hid hJ
                          obtain ⟨ac, has, has2, hfo, hbx, hby, hbl, hsz2, hrs, hlp⟩ := hJ
                          have hala : Below Wj.heap.size Wj (Wj.alloc (.cells #[.string xj, .bool bj] 58)) := (Below.refl _ _).alloc (Nat.le_refl _) _
                          have hlpa : LoopAt (Wj.alloc (.cells #[.string xj, .bool bj] 58)) (S + 3) (S + 4) rr .ready none := hlp.keep (hala.block _ (Array.getElem?_eq_some_iff.1 hlp.lrec).1) (hala.block _ (Array.getElem?_eq_some_iff.1 hlp.ds).1)
                          have hbxa0 : Boxed (Wj.alloc (.cells #[.string xj, .bool bj] 58)) S 9 (.string ac.1) := hbx.alloc _
                          have hbya0 : Boxed (Wj.alloc (.cells #[.string xj, .bool bj] 58)) (S + 1) 9 (.string ac.2) := hby.alloc _
                          have xa0 : (Wj.alloc (.cells #[.string xj, .bool bj] 58)).cell? ⟨Wj.heap.size, 0, none⟩ = some (.string xj) := by simp
                          have xa1 : (Wj.alloc (.cells #[.string xj, .bool bj] 58)).cell? ⟨Wj.heap.size, 1, none⟩ = some (.bool bj) := by simp
                          have xlt : Wj.heap.size < (Wj.alloc (.cells #[.string xj, .bool bj] 58)).heap.size := by simp
                          have hl3lt := (Array.getElem?_eq_some_iff.1 hlp.lrec).1
                          clear hJ0
                          gi_wp2
                          obtain ⟨Wa, hWa⟩ : ∃ Wa, Wj.alloc (.cells #[.string xj, .bool bj] 58) = Wa := ⟨_, rfl⟩
                          obtain ⟨X, hX⟩ : ∃ X, Wj.heap.size = X := ⟨_, rfl⟩
                          rw [hWa] at hala hlpa hbxa0 hbya0 xa0 xa1 xlt ⊢
                          rw [hX] at xa0 xa1 xlt hl3lt ⊢
                          have hblA : Below w.heap.size w Wa := hbl.trans (hala.mono hbl.size)
                          have hszA : wq.heap.size ≤ Wa.heap.size := Nat.le_trans hsz2 hala.size
                          have hrsA : ∀ b, b < wq.heap.size → b ≠ S → b ≠ S + 1 → Wa.heap[b]? = wq.heap[b]? := fun b hb hne hn2 => (hala.block b (by omega)).trans (hrs b hb hne hn2)
                          refine ⟨_, hlpa.begin (P := Tryd.prog), ?_⟩
                          have hl2 := hlpa.put (st' := .busy) (pe' := none)
                          have hbxa : Boxed (Wa.putObj (S + 4) (.loop { rr with state := .busy, pending := none })) S 9 (.string ac.1) := (World.putObj_heap_other (by omega)).trans hbxa0
                          have hbya : Boxed (Wa.putObj (S + 4) (.loop { rr with state := .busy, pending := none })) (S + 1) 9 (.string ac.2) := (World.putObj_heap_other (by omega)).trans hbya0
                          have hrs2 : ∀ b, b < S + 3 → b ≠ S → b ≠ S + 1 → (Wa.putObj (S + 4) (.loop { rr with state := .busy, pending := none })).heap[b]? = wq.heap[b]? := fun b hb hne hn2 => (World.putObj_heap_other (by omega)).trans (hrsA b (by have := HZ.out; omega) hne hn2)
                          have hbl2 : Below w.heap.size w (Wa.putObj (S + 4) (.loop { rr with state := .busy, pending := none })) := Below_put hblA (by have := HWS.out; omega) hblA.size
                          have hsz3 := putObj_size Wa (S + 4) (.loop { rr with state := .busy, pending := none })
                          have xb0 : (Wa.putObj (S + 4) (.loop { rr with state := .busy, pending := none })).cell? ⟨X, 0, none⟩ = some (.string xj) := (cell_of_heap (World.putObj_heap_other (by omega)) 0).trans xa0
                          have xb1 : (Wa.putObj (S + 4) (.loop { rr with state := .busy, pending := none })).cell? ⟨X, 1, none⟩ = some (.bool bj) := (cell_of_heap (World.putObj_heap_other (by omega)) 1).trans xa1
                          have hxn1 : X ≠ S := by omega
                          have hxn2 : X ≠ S + 1 := by omega
                          obtain ⟨W2, hW2⟩ : ∃ W2, Wa.putObj (S + 4) (.loop { rr with state := .busy, pending := none }) = W2 := ⟨_, rfl⟩
                          rw [hW2] at hl2 hbxa hbya hrs2 hbl2 hsz3 xb0 xb1 ⊢
                          have hrj : xj.size = 32 := by rw [← hxj]; exact HSZ.out j (by omega)
                          have HNF : Hid (foldE W j (if bj = true then (if bj = true then nodeS xj ac.1 else nodeS ac.1 xj) else ac.1, if bj = true then nodeS xj ac.2 else nodeS ac.2 xj) = fin) := Lib.hid (by
                            rw [← hfo, ← hxj, ← hbj]
                            rfl)
                          obtain ⟨a1, ha1⟩ : ∃ x, ac.1 = x := ⟨_, rfl⟩
                          obtain ⟨a2, ha2⟩ : ∃ x, ac.2 = x := ⟨_, rfl⟩
                          rw [ha1] at has hbxa HNF
                          rw [ha2] at has2 hbya HNF
                          have HRS2 := Lib.hid hrs2
                          have HBL2 := Lib.hid hbl2
                          have HSZ2 := Lib.hid hsz3
                          have HSZ3 := Lib.hid hszA
                          have HL2 := Lib.hid hl2
                          have HX2 := Lib.hid xlt
                          clear hW2 hl2 hrs2 hbl2 hsz3 hxj hbj hbx hby hbl hsz2 hrs hlp hfo hWa hX hala hlpa hbxa0 hbya0 xa0 xa1 hblA hszA hrsA hl3lt ha1 ha2 xlt
                          cases bj with
                          | false =>
                            have e1 := hbya.cell
                            have HND := Lib.hid (join_any xj false a2 W2 (by omega) (by omega) (HT.out.below HBL2.out))
                            rw [if_neg (by decide), if_neg (by decide)] at HNF
                            rw [if_neg (by decide)] at HND
                            have HBXA := Lib.hid hbxa
                            have HBYA := Lib.hid hbya
                            clear hbxa hbya hrj
                            gi_wp2_with fail
                            refine ⟨trivial, ?_⟩
                            refine (callsIn_wide.2 HND.out).mono ?_
                            rintro e W3 ⟨rfl, hb3⟩
                            have hb23 : Below W2.heap.size W2 W3 := hb3
                            have hbx3 : Boxed W3 S 9 (.string a1) := (hb3.block S (Array.getElem?_eq_some_iff.1 HBXA.out).1).trans HBXA.out
                            have hby3 : Boxed W3 (S + 1) 9 (.string a2) := (hb3.block (S + 1) (Array.getElem?_eq_some_iff.1 HBYA.out).1).trans HBYA.out
                            have hl3 := HL2.out.keep (hb23.block _ (Array.getElem?_eq_some_iff.1 HL2.out.lrec).1) (hb23.block _ (Array.getElem?_eq_some_iff.1 HL2.out.ds).1)
                            have e2 := hby3.cell
                            have f1 := hby3.frozen
                            have HBY3 := Lib.hid (hby3.set (.string (nodeS a2 xj)))
                            have HBX3 : Hid (Boxed (W3.setCell ⟨S + 1, 0, none⟩ (.string (nodeS a2 xj))) S 9 (.string a1)) := Lib.hid ((Below.heap_setCell _ _ _ S (show S ≠ S + 1 by omega)).trans hbx3)
                            have HL3 := Lib.hid (LoopAt_set hl3 (B := S + 1) (by omega) (by omega) (.string (nodeS a2 xj)))
                            have HB3' := Lib.hid hb23
                            clear hbx3 hby3 hl3 hb3 hb23 HND e1
                            gi_wp2_with fail
                            rw [HRP.out]
                            refine ⟨HL3.out, ?_⟩
                            have hzz := HZ.out
                            have hws := HWS.out
                            have hs2 := HSZ2.out
                            have hs3 := HSZ3.out
                            have hs4 := HB3'.out.size
                            have hbs := Below_set' (HBL2.out.trans (HB3'.out.mono HBL2.out.size)) (b := S + 1) (i := 0) (by omega) (.string (nodeS a2 xj))
                            exact ⟨(a1, nodeS a2 xj), has, rfl, HNF.out, (World.putObj_heap_other (by omega)).trans HBX3.out, (World.putObj_heap_other (by omega)).trans HBY3.out, Below_put hbs (by omega) hbs.size, by rw [putObj_size]; have := (grownBy_setCell' W3 (S + 1) (.string (nodeS a2 xj))).size; omega, fun b hb hne hn2 => (World.putObj_heap_other (by omega)).trans ((Below.heap_setCell _ _ _ b hn2).trans ((HB3'.out.block b (by omega)).trans (HRS2.out b (by omega) hne hn2)))⟩
                          | true =>
                            have e0 := hbxa.cell
                            have e1 := hbya.cell
                            have HND := Lib.hid (join_any xj true a1 W2 (by omega) (by omega) (HT.out.below HBL2.out))
                            have HND2 := Lib.hid (fun W (h : Below w.heap.size w W) => join_any xj true a2 W (by omega) (by omega) (HT.out.below h))
                            rw [if_pos rfl, if_pos rfl, if_pos rfl] at HNF
                            rw [if_pos rfl] at HND
                            simp only [if_pos] at HND2
                            have HBXA := Lib.hid hbxa
                            have HBYA := Lib.hid hbya
                            clear hbxa hbya hrj
                            gi_wp2_with fail
                            refine ⟨trivial, ?_⟩
                            refine (callsIn_wide.2 HND.out).mono ?_
                            rintro e W3 ⟨rfl, hb3⟩
                            have hb23 : Below W2.heap.size W2 W3 := hb3
                            have hbx3 : Boxed W3 S 9 (.string a1) := (hb3.block S (Array.getElem?_eq_some_iff.1 HBXA.out).1).trans HBXA.out
                            have hby3 : Boxed W3 (S + 1) 9 (.string a2) := (hb3.block (S + 1) (Array.getElem?_eq_some_iff.1 HBYA.out).1).trans HBYA.out
                            have hl3 := HL2.out.keep (hb23.block _ (Array.getElem?_eq_some_iff.1 HL2.out.lrec).1) (hb23.block _ (Array.getElem?_eq_some_iff.1 HL2.out.ds).1)
                            have xc0 : W3.cell? ⟨X, 0, none⟩ = some (.string xj) := (cell_of_heap (hb3.block X (cell_lt' xb0)) 0).trans xb0
                            have xc1 : W3.cell? ⟨X, 1, none⟩ = some (.bool true) := (cell_of_heap (hb3.block X (cell_lt' xb0)) 1).trans xb1
                            have e2 := hbx3.cell
                            have f1 := hbx3.frozen
                            have e3 := hby3.cell
                            have HBX3 := Lib.hid (hbx3.set (.string (nodeS xj a1)))
                            have HBY3 : Hid (Boxed (W3.setCell ⟨S, 0, none⟩ (.string (nodeS xj a1))) (S + 1) 9 (.string a2)) := Lib.hid ((Below.heap_setCell _ _ _ (S + 1) (show S + 1 ≠ S by omega)).trans hby3)
                            have HL3 := Lib.hid (LoopAt_set hl3 (B := S) (by omega) (by omega) (.string (nodeS xj a1)))
                            have HB3' := Lib.hid hb23
                            have HBL3 : Hid (Below w.heap.size w (W3.setCell ⟨S, 0, none⟩ (.string (nodeS xj a1)))) := Lib.hid (Below_set' (HBL2.out.trans (HB3'.out.mono HBL2.out.size)) (b := S) (i := 0) HWS.out (.string (nodeS xj a1)))
                            have HSZ4 := Lib.hid (grownBy_setCell' W3 S (.string (nodeS xj a1))).size
                            have HRS3 : Hid (∀ b, b < wq.heap.size → b ≠ S → b ≠ S + 1 → (W3.setCell ⟨S, 0, none⟩ (.string (nodeS xj a1))).heap[b]? = wq.heap[b]?) := Lib.hid (fun b hb hne hn2 => (Below.heap_setCell _ _ _ b hne).trans ((HB3'.out.block b (by have := HSZ2.out; have := HSZ3.out; omega)).trans (HRS2.out b (by have := HZ.out; omega) hne hn2)))
                            clear hbx3 hby3 hl3 hb3 hb23 HND e0 e1
                            gi_wp2_with fail
                            refine ⟨trivial, ?_⟩
                            obtain ⟨W4, hW4⟩ : ∃ W4, W3.setCell ⟨S, 0, none⟩ (.string (nodeS xj a1)) = W4 := ⟨_, rfl⟩
                            rw [hW4] at HBX3 HBY3 HL3 HBL3 HSZ4 HRS3 ⊢
                            clear hW4
                            refine (callsIn_wide.2 (HND2.out W4 HBL3.out)).mono ?_
                            rintro e W5 ⟨rfl, hb5⟩
                            have hb45 : Below W4.heap.size W4 W5 := hb5
                            have hbx5 : Boxed W5 S 9 (.string (nodeS xj a1)) := (hb5.block S (Array.getElem?_eq_some_iff.1 HBX3.out).1).trans HBX3.out
                            have hby5 : Boxed W5 (S + 1) 9 (.string a2) := (hb5.block (S + 1) (Array.getElem?_eq_some_iff.1 HBY3.out).1).trans HBY3.out
                            have hl5 := HL3.out.keep (hb45.block _ (Array.getElem?_eq_some_iff.1 HL3.out.lrec).1) (hb45.block _ (Array.getElem?_eq_some_iff.1 HL3.out.ds).1)
                            have e4 := hby5.cell
                            have f2 := hby5.frozen
                            have HBY5 := Lib.hid (hby5.set (.string (nodeS xj a2)))
                            have HBX5 : Hid (Boxed (W5.setCell ⟨S + 1, 0, none⟩ (.string (nodeS xj a2))) S 9 (.string (nodeS xj a1))) := Lib.hid ((Below.heap_setCell _ _ _ S (show S ≠ S + 1 by omega)).trans hbx5)
                            have HL5 := Lib.hid (LoopAt_set hl5 (B := S + 1) (by omega) (by omega) (.string (nodeS xj a2)))
                            have HB5' := Lib.hid hb45
                            clear hbx5 hby5 hl5 hb5 hb45 HND2 e2 e3 f1
                            gi_wp2_with fail
                            rw [HRP.out]
                            refine ⟨HL5.out, ?_⟩
                            have hzz := HZ.out
                            have hws := HWS.out
                            have hs2 := HSZ2.out
                            have hs3 := HSZ3.out
                            have hs4 := HB3'.out.size
                            have hs5 := HSZ4.out
                            have hs6 := HB5'.out.size
                            have hbs := Below_set' (HBL3.out.trans (HB5'.out.mono HBL3.out.size)) (b := S + 1) (i := 0) (by omega) (.string (nodeS xj a2))
                            exact ⟨(nodeS xj a1, nodeS xj a2), rfl, rfl, HNF.out, (World.putObj_heap_other (by omega)).trans HBX5.out, (World.putObj_heap_other (by omega)).trans HBY5.out, Below_put hbs (by omega) hbs.size, by rw [putObj_size]; have := (grownBy_setCell' W5 (S + 1) (.string (nodeS xj a2))).size; omega, fun b hb hne hn2 => (World.putObj_heap_other (by omega)).trans ((Below.heap_setCell _ _ _ b hn2).trans ((HB5'.out.block b (by omega)).trans (HRS3.out b hb hne hn2)))⟩
                        · rintro e W' (⟨rfl, hL', hon⟩ | ⟨_, _, _, h⟩)
                          · obtain ⟨ac, h1, h2, h3, h4, h5, h6, h7, h8⟩ := hon
                            exact ⟨rfl, ac, h1, h2, h3, h4, h5, h6, h7, h8, hL'⟩
                          · exact h.elim
                      rintro e W3 ⟨⟨v, rfl⟩, hJ⟩
                      refine rangePost_done hJ.loop fun hL2 => ?_
                      obtain ⟨ac, has, has2, hfo, hbx, hby, hbl, hsz2, _, _⟩ := hJ
                      obtain rfl : ac = fin := hfo
                      have hbl4 : Below w.heap.size w (W3.putObj (S + 4) (.loop { rr with state := .exhausted, pending := none })) := Below_put hbl (by have := HWS.out; omega) hbl.size
                      have hbx4 : Boxed (W3.putObj (S + 4) (.loop { rr with state := .exhausted, pending := none })) S 9 (.string ac.1) := (World.putObj_heap_other (by omega)).trans hbx
                      have hby4 : Boxed (W3.putObj (S + 4) (.loop { rr with state := .exhausted, pending := none })) (S + 1) 9 (.string ac.2) := (World.putObj_heap_other (by omega)).trans hby
                      have hL3 : LoopAt (W3.putObj (S + 4) (.loop { rr with state := .exhausted, pending := none })) (S + 3) (S + 4) rr .exhausted none := hL2
                      show Exit.inBlock 3 _ .normal _ (W3.putObj (S + 4) (.loop { rr with state := .exhausted, pending := none }))
                      obtain ⟨W4, hW4⟩ : ∃ W4, W3.putObj (S + 4) (.loop { rr with state := .exhausted, pending := none }) = W4 := ⟨_, rfl⟩
                      rw [hW4] at hbx4 hby4 hbl4 hL3 ⊢
                      have e4 := hbx4.cell
                      have e5 := hby4.cell
                      obtain ⟨f1, f2⟩ := ac
                      have HL3 := Lib.hid hL3
                      have HBL4 := Lib.hid hbl4
                      clear hW4 hbx4 hby4 hbl4 hL3 hL2 hbx hby hbl hsz2 hJ0 has has2
                      by_cases hc0 : c' = 0
                      · subst hc0
                        rw [decide_eq_true rfl, Bool.true_and] at HFIN
                        by_cases hf : f1 = old
                        · have q1 : (f1.toList == old.toList) = true := by rw [hf]; simp
                          have HX : Hid (decide (VerExtOk old j0 root n0 P c) = (f2.toList == root.toList)) := Lib.hid (by rw [HFIN.out, beq_dec, decide_eq_decide, hf]; simp)
                          go_wp2
                          refine ⟨by simp, .inl ⟨_, _, rfl, run_takeDeferred HL3.out.ds, ?_⟩⟩
                          refine ⟨.bool (f2.toList == root.toList), by simp [results, Tryd.results23, go_sem], ?_⟩
                          exact ⟨by rw [HX.out], Below_put HBL4.out (by have := HWS.out; omega) HBL4.out.size⟩
                        · have q1 : (f1.toList == old.toList) = false := by rw [beq_dec]; exact decide_eq_false hf
                          have HX : Hid (decide (VerExtOk old j0 root n0 P c) = false) := Lib.hid (by rw [HFIN.out]; exact decide_eq_false (fun h => hf (Prod.mk.inj h).1))
                          go_wp2
                          refine ⟨by simp, .inl ⟨_, _, rfl, run_takeDeferred HL3.out.ds, ?_⟩⟩
                          refine ⟨.bool false, by simp [results, Tryd.results23, go_sem], ?_⟩
                          exact ⟨by rw [HX.out], Below_put HBL4.out (by have := HWS.out; omega) HBL4.out.size⟩
                      · rw [decide_eq_false hc0, Bool.false_and] at HFIN
                        have hc1 : ¬ (c' : Int) = 0 := by omega
                        go_wp2
                        refine ⟨by simp, .inl ⟨_, _, rfl, run_takeDeferred HL3.out.ds, ?_⟩⟩
                        refine ⟨.bool false, by simp [results, Tryd.results23, go_sem], ?_⟩
                        exact ⟨by rw [HFIN.out], Below_put HBL4.out (by have := HWS.out; omega) HBL4.out.size⟩
                    | false =>
                      by_cases hc1 : c' = 1
                      · subst hc1
                        obtain ⟨b, o, hp, hcell⟩ := hrd 0 (by omega)
                        subst hp
                        have e0 := hcell 0 (by omega)
                        rw [Nat.add_zero] at e0
                        have hlt := cell_lt' e0
                        have HFIN : Hid (decide (VerExtOk old j0 root n0 P c) = decide (W.foldr joinE (P 0, P 0) = (old, root))) := Lib.hid (by
                          rw [decide_eq_decide, HSP.out, hval.out]
                          simp [bothV])
                        have HY : Hid ((P 0).size = 32) := Lib.hid (HD.out 0 (by omega))
                        obtain ⟨y, hy⟩ : ∃ y, P 0 = y := ⟨_, rfl⟩
                        rw [hy] at HFIN HY e0
                        clear hrd hcell hy
                        go_wp2_with fail
                        refine wp_region_noPanic ?_
                        go_region_law (fail)
                        all_goals refine NoPanic.normal ?_
                        all_goals (go_wp2_with fail)
                        all_goals
                          have hb5 : Below wo.heap.size wo ((wo.alloc (.cells #[.string y] 9)).alloc (.cells #[.string y] 9)).drew := (((Below.refl _ _).alloc (Nat.le_refl _) _).alloc (by simp) _).drew
                          have bx0 : Boxed ((wo.alloc (.cells #[.string y] 9)).alloc (.cells #[.string y] 9)).drew wo.heap.size 9 (.string y) := (Boxed.new wo 9 (.string y)).alloc _
                          have bx1 : Boxed ((wo.alloc (.cells #[.string y] 9)).alloc (.cells #[.string y] 9)).drew (wo.heap.size + 1) 9 (.string y) := by
                            have h := Boxed.new (wo.alloc (.cells #[.string y] 9)) 9 (.string y)
                            rwa [World.size_alloc] at h
                          have hz5 : ((wo.alloc (.cells #[.string y] 9)).alloc (.cells #[.string y] 9)).drew.heap.size = wo.heap.size + 2 := by show ((wo.alloc (.cells #[.string y] 9)).alloc (.cells #[.string y] 9)).heap.size = _; simp
                          obtain ⟨w5, hW5⟩ : ∃ w5, ((wo.alloc (.cells #[.string y] 9)).alloc (.cells #[.string y] 9)).drew = w5 := ⟨_, rfl⟩
                          rw [hW5] at hb5 bx0 bx1 hz5 ⊢
                          clear hW5 e0 hlt
                          have HB5 := Lib.hid (HB.out.trans (hb5.mono HB.out.size))
                          obtain ⟨S, hS⟩ : ∃ S, wo.heap.size = S := ⟨_, rfl⟩
                          have HWO : Hid (∀ b, b < S → w5.heap[b]? = wo.heap[b]?) := Lib.hid (fun b hb => hb5.block b (by omega))
                          have HSO := Lib.hid hS
                          rw [hS] at bx0 bx1 hz5 hws ⊢
                          have HTW : Hid (0 < w.heap.size) := Lib.hid (cell_lt' (HT.out 0 (by omega)))
                          have HWS := Lib.hid hws
                          have BX0 := Lib.hid bx0
                          have BX1 := Lib.hid bx1
                          have HZ5 := Lib.hid hz5
                          clear hb5 hS bx0 bx1 hz5 HB hws hval
                          refine (backD_any _ _ _ _).mono ?_
                          rintro e w' ⟨rfl, rfl⟩
                          go_wp2_with fail
                          obtain ⟨wq, hwq⟩ : ∃ wq, w5.alloc (.cells #[.slice pd m cd] 54) = wq := ⟨_, rfl⟩
                          have hz : wq.heap.size = S + 3 := by rw [← hwq]; simp [HZ5.out]
                          have bx0 : Boxed wq S 9 (.string y) := by rw [← hwq]; exact BX0.out.alloc _
                          have bx1 : Boxed wq (S + 1) 9 (.string y) := by rw [← hwq]; exact BX1.out.alloc _
                          have bx2 : Boxed wq (S + 2) 54 (.slice pd m cd) := by
                            have h := Boxed.new w5 54 (.slice pd m cd)
                            rwa [HZ5.out, hwq] at h
                          have hal : Below w5.heap.size w5 wq := by rw [← hwq]; exact (Below.refl _ _).alloc (Nat.le_refl _) _
                          rw [HZ5.out]
                          rw [hwq]
                          have HBQ := Lib.hid (HB5.out.trans (hal.mono HB5.out.size))
                          have HRQ : Hid (∀ W2 : World, (∀ b, b < wq.heap.size → b ≠ S → b ≠ S + 1 → W2.heap[b]? = wq.heap[b]?) → ReadsD W2 pd m (fun j => W.getD j (⟨#[]⟩, false))) := Lib.hid (fun W2 h i hi => by
                            obtain ⟨b, o, hp, hc⟩ := HRD.out i hi
                            refine ⟨b, o, hp, fun j hj => ?_⟩
                            have h1 := hc j hj
                            have hlt := cell_lt' h1.1
                            have hso := HSO.out
                            have hz5 := HZ5.out
                            have hb1 : W2.heap[b]? = wo.heap[b]? := (h b (by omega) (by omega) (by omega)).trans ((hal.block b (by omega)).trans (HWO.out b (by omega)))
                            exact ⟨(cell_of_heap hb1 _).trans h1.1, (cell_of_heap hb1 _).trans h1.2⟩)
                          have HB0 := Lib.hid bx0
                          have HB1 := Lib.hid bx1
                          have HB2 := Lib.hid bx2
                          have HZ := Lib.hid hz
                          have HFO : Hid (foldE W m (y, y) = W.foldr joinE (y, y)) := Lib.hid (by
                            rw [foldE_eq W m (y, y) (by rw [HWM.out]; exact Nat.le_refl _), List.take_of_length_le (by rw [HWM.out]; exact Nat.le_refl _)])
                          obtain ⟨fin, hfin⟩ : ∃ f, W.foldr joinE (y, y) = f := ⟨_, rfl⟩
                          rw [hfin] at HFIN HFO
                          clear hwq bx0 bx1 bx2 hal hz hfin HRD BX0 BX1 HZ5 HWO HSO
                          refine (wpIn_wide (n := 9)).1 ?_
                          refine rangeFunc_open rfl (by omega) (gf := 63) (lb := #[.pointer (some ⟨S + 2, 0, none⟩)]) rfl trivial (enters_of Tryd.func63 (by kernel_rfl) rfl) (S + 3) (by rw [HZ.out]) ?_
                          intro W1 rr _ hr hL ⟨ob, ob', hW1⟩
                          have hW1b : Below (S + 3) wq W1 := by
                            rw [hW1]
                            exact ((Below.refl _ _).alloc (by have := HZ.out; omega) _).alloc (by have := HZ.out; simp; omega) _
                          have hJ0 : VexAcc W fin w wq S (S + 3) (S + 4) rr m W1 :=
                            ⟨(y, y), HY.out, HY.out, HFO.out, (hW1b.block S (by omega)).trans HB0.out, (hW1b.block (S + 1) (by omega)).trans HB1.out, HBQ.out.trans (hW1b.mono (by have := HWS.out; omega)), by rw [hW1]; simp; omega, fun b hb _ _ => hW1b.block b (by have := HZ.out; omega), hL⟩
                          have HCB : Hid (∀ j W2, VexAcc W fin w wq S (S + 3) (S + 4) rr j W2 → W2.cell? ⟨S + 2, 0, none⟩ = some (.slice pd m cd) ∧ ReadsD W2 pd m (fun j => W.getD j (⟨#[]⟩, false))) := Lib.hid (fun j W2 h => by
                            have hzz := HZ.out
                            exact ⟨(cell_of_heap (h.rest (S + 2) (by omega) (by omega) (by omega)) 0).trans HB2.out.cell, HRQ.out W2 h.rest⟩)
                          clear hW1 hW1b
                          refine (backD1_in 8 (S + 4) (S + 2) m cd pd (fun j => W.getD j (⟨#[]⟩, false)) (by omega) (by omega) (VexAcc W fin w wq S (S + 3) (S + 4) rr) ?hY HCB.out W1 hJ0).mono ?_
                          case hY =>
                            intro j Wj hj hJ
                            obtain ⟨xj, hxj⟩ : ∃ x, (W.getD j (⟨#[]⟩, false)).1 = x := ⟨_, rfl⟩
                            obtain ⟨bj, hbj⟩ : ∃ x, (W.getD j (⟨#[]⟩, false)).2 = x := ⟨_, rfl⟩
                            rw [hxj, hbj]
                            refine (yield_open (On := VexOn W fin w wq S j) (Out := fun _ _ => False) hJ.loop trivial hr rfl ?_).mono ?_
                            · intro Rp hRp
                              have HRP := Lib.hid hRp
                              clear hRp
                              have HJ := Lib.hid hJ
                              obtain ⟨ac, has, has2, hfo, hbx, hby, hbl, hsz2, hrs, hlp⟩ := hJ
                              have hala : Below Wj.heap.size Wj (Wj.alloc (.cells #[.string xj, .bool bj] 58)) := (Below.refl _ _).alloc (Nat.le_refl _) _
                              have hlpa : LoopAt (Wj.alloc (.cells #[.string xj, .bool bj] 58)) (S + 3) (S + 4) rr .ready none := hlp.keep (hala.block _ (Array.getElem?_eq_some_iff.1 hlp.lrec).1) (hala.block _ (Array.getElem?_eq_some_iff.1 hlp.ds).1)
                              have hbxa0 : Boxed (Wj.alloc (.cells #[.string xj, .bool bj] 58)) S 9 (.string ac.1) := hbx.alloc _
                              have hbya0 : Boxed (Wj.alloc (.cells #[.string xj, .bool bj] 58)) (S + 1) 9 (.string ac.2) := hby.alloc _
                              have xa0 : (Wj.alloc (.cells #[.string xj, .bool bj] 58)).cell? ⟨Wj.heap.size, 0, none⟩ = some (.string xj) := by simp
                              have xa1 : (Wj.alloc (.cells #[.string xj, .bool bj] 58)).cell? ⟨Wj.heap.size, 1, none⟩ = some (.bool bj) := by simp
                              have xlt : Wj.heap.size < (Wj.alloc (.cells #[.string xj, .bool bj] 58)).heap.size := by simp
                              have hl3lt := (Array.getElem?_eq_some_iff.1 hlp.lrec).1
                              clear hJ0
                              gi_wp2
                              obtain ⟨Wa, hWa⟩ : ∃ Wa, Wj.alloc (.cells #[.string xj, .bool bj] 58) = Wa := ⟨_, rfl⟩
                              obtain ⟨X, hX⟩ : ∃ X, Wj.heap.size = X := ⟨_, rfl⟩
                              rw [hWa] at hala hlpa hbxa0 hbya0 xa0 xa1 xlt ⊢
                              rw [hX] at xa0 xa1 xlt hl3lt ⊢
                              have hblA : Below w.heap.size w Wa := hbl.trans (hala.mono hbl.size)
                              have hszA : wq.heap.size ≤ Wa.heap.size := Nat.le_trans hsz2 hala.size
                              have hrsA : ∀ b, b < wq.heap.size → b ≠ S → b ≠ S + 1 → Wa.heap[b]? = wq.heap[b]? := fun b hb hne hn2 => (hala.block b (by omega)).trans (hrs b hb hne hn2)
                              refine ⟨_, hlpa.begin (P := Tryd.prog), ?_⟩
                              have hl2 := hlpa.put (st' := .busy) (pe' := none)
                              have hbxa : Boxed (Wa.putObj (S + 4) (.loop { rr with state := .busy, pending := none })) S 9 (.string ac.1) := (World.putObj_heap_other (by omega)).trans hbxa0
                              have hbya : Boxed (Wa.putObj (S + 4) (.loop { rr with state := .busy, pending := none })) (S + 1) 9 (.string ac.2) := (World.putObj_heap_other (by omega)).trans hbya0
                              have hrs2 : ∀ b, b < S + 3 → b ≠ S → b ≠ S + 1 → (Wa.putObj (S + 4) (.loop { rr with state := .busy, pending := none })).heap[b]? = wq.heap[b]? := fun b hb hne hn2 => (World.putObj_heap_other (by omega)).trans (hrsA b (by have := HZ.out; omega) hne hn2)
                              have hbl2 : Below w.heap.size w (Wa.putObj (S + 4) (.loop { rr with state := .busy, pending := none })) := Below_put hblA (by have := HWS.out; omega) hblA.size
                              have hsz3 := putObj_size Wa (S + 4) (.loop { rr with state := .busy, pending := none })
                              have xb0 : (Wa.putObj (S + 4) (.loop { rr with state := .busy, pending := none })).cell? ⟨X, 0, none⟩ = some (.string xj) := (cell_of_heap (World.putObj_heap_other (by omega)) 0).trans xa0
                              have xb1 : (Wa.putObj (S + 4) (.loop { rr with state := .busy, pending := none })).cell? ⟨X, 1, none⟩ = some (.bool bj) := (cell_of_heap (World.putObj_heap_other (by omega)) 1).trans xa1
                              have hxn1 : X ≠ S := by omega
                              have hxn2 : X ≠ S + 1 := by omega
                              obtain ⟨W2, hW2⟩ : ∃ W2, Wa.putObj (S + 4) (.loop { rr with state := .busy, pending := none }) = W2 := ⟨_, rfl⟩
                              rw [hW2] at hl2 hbxa hbya hrs2 hbl2 hsz3 xb0 xb1 ⊢
                              have hrj : xj.size = 32 := by rw [← hxj]; exact HSZ.out j (by omega)
                              have HNF : Hid (foldE W j (if bj = true then (if bj = true then nodeS xj ac.1 else nodeS ac.1 xj) else ac.1, if bj = true then nodeS xj ac.2 else nodeS ac.2 xj) = fin) := Lib.hid (by
                                rw [← hfo, ← hxj, ← hbj]
                                rfl)
                              obtain ⟨a1, ha1⟩ : ∃ x, ac.1 = x := ⟨_, rfl⟩
                              obtain ⟨a2, ha2⟩ : ∃ x, ac.2 = x := ⟨_, rfl⟩
                              rw [ha1] at has hbxa HNF
                              rw [ha2] at has2 hbya HNF
                              have HRS2 := Lib.hid hrs2
                              have HBL2 := Lib.hid hbl2
                              have HSZ2 := Lib.hid hsz3
                              have HSZ3 := Lib.hid hszA
                              have HL2 := Lib.hid hl2
                              have HX2 := Lib.hid xlt
                              clear hW2 hl2 hrs2 hbl2 hsz3 hxj hbj hbx hby hbl hsz2 hrs hlp hfo hWa hX hala hlpa hbxa0 hbya0 xa0 xa1 hblA hszA hrsA hl3lt ha1 ha2 xlt
                              cases bj with
                              | false =>
                                have e1 := hbya.cell
                                have HND := Lib.hid (join_any xj false a2 W2 (by omega) (by omega) (HT.out.below HBL2.out))
                                rw [if_neg (by decide), if_neg (by decide)] at HNF
                                rw [if_neg (by decide)] at HND
                                have HBXA := Lib.hid hbxa
                                have HBYA := Lib.hid hbya
                                clear hbxa hbya hrj
                                gi_wp2_with fail
                                refine ⟨trivial, ?_⟩
                                refine (callsIn_wide.2 HND.out).mono ?_
                                rintro e W3 ⟨rfl, hb3⟩
                                have hb23 : Below W2.heap.size W2 W3 := hb3
                                have hbx3 : Boxed W3 S 9 (.string a1) := (hb3.block S (Array.getElem?_eq_some_iff.1 HBXA.out).1).trans HBXA.out
                                have hby3 : Boxed W3 (S + 1) 9 (.string a2) := (hb3.block (S + 1) (Array.getElem?_eq_some_iff.1 HBYA.out).1).trans HBYA.out
                                have hl3 := HL2.out.keep (hb23.block _ (Array.getElem?_eq_some_iff.1 HL2.out.lrec).1) (hb23.block _ (Array.getElem?_eq_some_iff.1 HL2.out.ds).1)
                                have e2 := hby3.cell
                                have f1 := hby3.frozen
                                have HBY3 := Lib.hid (hby3.set (.string (nodeS a2 xj)))
                                have HBX3 : Hid (Boxed (W3.setCell ⟨S + 1, 0, none⟩ (.string (nodeS a2 xj))) S 9 (.string a1)) := Lib.hid ((Below.heap_setCell _ _ _ S (show S ≠ S + 1 by omega)).trans hbx3)
                                have HL3 := Lib.hid (LoopAt_set hl3 (B := S + 1) (by omega) (by omega) (.string (nodeS a2 xj)))
                                have HB3' := Lib.hid hb23
                                clear hbx3 hby3 hl3 hb3 hb23 HND e1
                                gi_wp2_with fail
                                rw [HRP.out]
                                refine ⟨HL3.out, ?_⟩
                                have hzz := HZ.out
                                have hws := HWS.out
                                have hs2 := HSZ2.out
                                have hs3 := HSZ3.out
                                have hs4 := HB3'.out.size
                                have hbs := Below_set' (HBL2.out.trans (HB3'.out.mono HBL2.out.size)) (b := S + 1) (i := 0) (by omega) (.string (nodeS a2 xj))
                                exact ⟨(a1, nodeS a2 xj), has, rfl, HNF.out, (World.putObj_heap_other (by omega)).trans HBX3.out, (World.putObj_heap_other (by omega)).trans HBY3.out, Below_put hbs (by omega) hbs.size, by rw [putObj_size]; have := (grownBy_setCell' W3 (S + 1) (.string (nodeS a2 xj))).size; omega, fun b hb hne hn2 => (World.putObj_heap_other (by omega)).trans ((Below.heap_setCell _ _ _ b hn2).trans ((HB3'.out.block b (by omega)).trans (HRS2.out b (by omega) hne hn2)))⟩
                              | true =>
                                have e0 := hbxa.cell
                                have e1 := hbya.cell
                                have HND := Lib.hid (join_any xj true a1 W2 (by omega) (by omega) (HT.out.below HBL2.out))
                                have HND2 := Lib.hid (fun W (h : Below w.heap.size w W) => join_any xj true a2 W (by omega) (by omega) (HT.out.below h))
                                rw [if_pos rfl, if_pos rfl, if_pos rfl] at HNF
                                rw [if_pos rfl] at HND
                                simp only [if_pos] at HND2
                                have HBXA := Lib.hid hbxa
                                have HBYA := Lib.hid hbya
                                clear hbxa hbya hrj
                                gi_wp2_with fail
                                refine ⟨trivial, ?_⟩
                                refine (callsIn_wide.2 HND.out).mono ?_
                                rintro e W3 ⟨rfl, hb3⟩
                                have hb23 : Below W2.heap.size W2 W3 := hb3
                                have hbx3 : Boxed W3 S 9 (.string a1) := (hb3.block S (Array.getElem?_eq_some_iff.1 HBXA.out).1).trans HBXA.out
                                have hby3 : Boxed W3 (S + 1) 9 (.string a2) := (hb3.block (S + 1) (Array.getElem?_eq_some_iff.1 HBYA.out).1).trans HBYA.out
                                have hl3 := HL2.out.keep (hb23.block _ (Array.getElem?_eq_some_iff.1 HL2.out.lrec).1) (hb23.block _ (Array.getElem?_eq_some_iff.1 HL2.out.ds).1)
                                have xc0 : W3.cell? ⟨X, 0, none⟩ = some (.string xj) := (cell_of_heap (hb3.block X (cell_lt' xb0)) 0).trans xb0
                                have xc1 : W3.cell? ⟨X, 1, none⟩ = some (.bool true) := (cell_of_heap (hb3.block X (cell_lt' xb0)) 1).trans xb1
                                have e2 := hbx3.cell
                                have f1 := hbx3.frozen
                                have e3 := hby3.cell
                                have HBX3 := Lib.hid (hbx3.set (.string (nodeS xj a1)))
                                have HBY3 : Hid (Boxed (W3.setCell ⟨S, 0, none⟩ (.string (nodeS xj a1))) (S + 1) 9 (.string a2)) := Lib.hid ((Below.heap_setCell _ _ _ (S + 1) (show S + 1 ≠ S by omega)).trans hby3)
                                have HL3 := Lib.hid (LoopAt_set hl3 (B := S) (by omega) (by omega) (.string (nodeS xj a1)))
                                have HB3' := Lib.hid hb23
                                have HBL3 : Hid (Below w.heap.size w (W3.setCell ⟨S, 0, none⟩ (.string (nodeS xj a1)))) := Lib.hid (Below_set' (HBL2.out.trans (HB3'.out.mono HBL2.out.size)) (b := S) (i := 0) HWS.out (.string (nodeS xj a1)))
                                have HSZ4 := Lib.hid (grownBy_setCell' W3 S (.string (nodeS xj a1))).size
                                have HRS3 : Hid (∀ b, b < wq.heap.size → b ≠ S → b ≠ S + 1 → (W3.setCell ⟨S, 0, none⟩ (.string (nodeS xj a1))).heap[b]? = wq.heap[b]?) := Lib.hid (fun b hb hne hn2 => (Below.heap_setCell _ _ _ b hne).trans ((HB3'.out.block b (by have := HSZ2.out; have := HSZ3.out; omega)).trans (HRS2.out b (by have := HZ.out; omega) hne hn2)))
                                clear hbx3 hby3 hl3 hb3 hb23 HND e0 e1
                                gi_wp2_with fail
                                refine ⟨trivial, ?_⟩
                                obtain ⟨W4, hW4⟩ : ∃ W4, W3.setCell ⟨S, 0, none⟩ (.string (nodeS xj a1)) = W4 := ⟨_, rfl⟩
                                rw [hW4] at HBX3 HBY3 HL3 HBL3 HSZ4 HRS3 ⊢
                                clear hW4
                                refine (callsIn_wide.2 (HND2.out W4 HBL3.out)).mono ?_
                                rintro e W5 ⟨rfl, hb5⟩
                                have hb45 : Below W4.heap.size W4 W5 := hb5
                                have hbx5 : Boxed W5 S 9 (.string (nodeS xj a1)) := (hb5.block S (Array.getElem?_eq_some_iff.1 HBX3.out).1).trans HBX3.out
                                have hby5 : Boxed W5 (S + 1) 9 (.string a2) := (hb5.block (S + 1) (Array.getElem?_eq_some_iff.1 HBY3.out).1).trans HBY3.out
                                have hl5 := HL3.out.keep (hb45.block _ (Array.getElem?_eq_some_iff.1 HL3.out.lrec).1) (hb45.block _ (Array.getElem?_eq_some_iff.1 HL3.out.ds).1)
                                have e4 := hby5.cell
                                have f2 := hby5.frozen
                                have HBY5 := Lib.hid (hby5.set (.string (nodeS xj a2)))
                                have HBX5 : Hid (Boxed (W5.setCell ⟨S + 1, 0, none⟩ (.string (nodeS xj a2))) S 9 (.string (nodeS xj a1))) := Lib.hid ((Below.heap_setCell _ _ _ S (show S ≠ S + 1 by omega)).trans hbx5)
                                have HL5 := Lib.hid (LoopAt_set hl5 (B := S + 1) (by omega) (by omega) (.string (nodeS xj a2)))
                                have HB5' := Lib.hid hb45
                                clear hbx5 hby5 hl5 hb5 hb45 HND2 e2 e3 f1
                                gi_wp2_with fail
                                rw [HRP.out]
                                refine ⟨HL5.out, ?_⟩
                                have hzz := HZ.out
                                have hws := HWS.out
                                have hs2 := HSZ2.out
                                have hs3 := HSZ3.out
                                have hs4 := HB3'.out.size
                                have hs5 := HSZ4.out
                                have hs6 := HB5'.out.size
                                have hbs := Below_set' (HBL3.out.trans (HB5'.out.mono HBL3.out.size)) (b := S + 1) (i := 0) (by omega) (.string (nodeS xj a2))
                                exact ⟨(nodeS xj a1, nodeS xj a2), rfl, rfl, HNF.out, (World.putObj_heap_other (by omega)).trans HBX5.out, (World.putObj_heap_other (by omega)).trans HBY5.out, Below_put hbs (by omega) hbs.size, by rw [putObj_size]; have := (grownBy_setCell' W5 (S + 1) (.string (nodeS xj a2))).size; omega, fun b hb hne hn2 => (World.putObj_heap_other (by omega)).trans ((Below.heap_setCell _ _ _ b hn2).trans ((HB5'.out.block b (by omega)).trans (HRS3.out b hb hne hn2)))⟩
                            · rintro e W' (⟨rfl, hL', hon⟩ | ⟨_, _, _, h⟩)
                              · obtain ⟨ac, h1, h2, h3, h4, h5, h6, h7, h8⟩ := hon
                                exact ⟨rfl, ac, h1, h2, h3, h4, h5, h6, h7, h8, hL'⟩
                              · exact h.elim
                          rintro e W3 ⟨⟨v, rfl⟩, hJ⟩
                          refine rangePost_done hJ.loop fun hL2 => ?_
                          obtain ⟨ac, has, has2, hfo, hbx, hby, hbl, hsz2, _, _⟩ := hJ
                          obtain rfl : ac = fin := hfo
                          have hbl4 : Below w.heap.size w (W3.putObj (S + 4) (.loop { rr with state := .exhausted, pending := none })) := Below_put hbl (by have := HWS.out; omega) hbl.size
                          have hbx4 : Boxed (W3.putObj (S + 4) (.loop { rr with state := .exhausted, pending := none })) S 9 (.string ac.1) := (World.putObj_heap_other (by omega)).trans hbx
                          have hby4 : Boxed (W3.putObj (S + 4) (.loop { rr with state := .exhausted, pending := none })) (S + 1) 9 (.string ac.2) := (World.putObj_heap_other (by omega)).trans hby
                          have hL3 : LoopAt (W3.putObj (S + 4) (.loop { rr with state := .exhausted, pending := none })) (S + 3) (S + 4) rr .exhausted none := hL2
                          show Exit.inBlock 3 _ .normal _ (W3.putObj (S + 4) (.loop { rr with state := .exhausted, pending := none }))
                          obtain ⟨W4, hW4⟩ : ∃ W4, W3.putObj (S + 4) (.loop { rr with state := .exhausted, pending := none }) = W4 := ⟨_, rfl⟩
                          rw [hW4] at hbx4 hby4 hbl4 hL3 ⊢
                          have e4 := hbx4.cell
                          have e5 := hby4.cell
                          obtain ⟨f1, f2⟩ := ac
                          have HL3 := Lib.hid hL3
                          have HBL4 := Lib.hid hbl4
                          clear hW4 hbx4 hby4 hbl4 hL3 hL2 hbx hby hbl hsz2 hJ0 has has2
                          by_cases hf : f1 = old
                          · have q1 : (f1.toList == old.toList) = true := by rw [hf]; simp
                            have HX : Hid (decide (VerExtOk old j0 root n0 P c) = (f2.toList == root.toList)) := Lib.hid (by rw [HFIN.out, beq_dec, decide_eq_decide, hf]; simp)
                            go_wp2
                            refine ⟨by simp, .inl ⟨_, _, rfl, run_takeDeferred HL3.out.ds, ?_⟩⟩
                            refine ⟨.bool (f2.toList == root.toList), by simp [results, Tryd.results23, go_sem], ?_⟩
                            exact ⟨by rw [HX.out], Below_put HBL4.out (by have := HWS.out; omega) HBL4.out.size⟩
                          · have q1 : (f1.toList == old.toList) = false := by rw [beq_dec]; exact decide_eq_false hf
                            have HX : Hid (decide (VerExtOk old j0 root n0 P c) = false) := Lib.hid (by rw [HFIN.out]; exact decide_eq_false (fun h => hf (Prod.mk.inj h).1))
                            go_wp2
                            refine ⟨by simp, .inl ⟨_, _, rfl, run_takeDeferred HL3.out.ds, ?_⟩⟩
                            refine ⟨.bool false, by simp [results, Tryd.results23, go_sem], ?_⟩
                            exact ⟨by rw [HX.out], Below_put HBL4.out (by have := HWS.out; omega) HBL4.out.size⟩
                      · have hc2 : ¬ (c' : Int) = 1 := by omega
                        have HX : Hid (decide (VerExtOk old j0 root n0 P c) = false) := Lib.hid (decide_eq_false (fun h => by
                          have h5 := HSP.out.1 h
                          rw [hval.out] at h5
                          cases c' with
                          | zero => simp [bothV] at h5
                          | succ q => simp [bothV, show ¬ q = 0 by omega] at h5))
                        go_wp2_with fail
                        refine ⟨.bool false, by simp [results, Tryd.results23, go_sem], ?_⟩
                        exact ⟨by rw [HX.out], (HB.out.alloc hws _).alloc (by simp; omega) _⟩
          · rw [decide_eq_false h4] at HI2
            have HX : Hid (decide (VerExtOk old m root n P c) = false) := Lib.hid (decide_eq_false (fun h => h4 h.2.2.2.2.1))
            clear h2 h3 h4
            go_wp2_with fail
            refine (HALL.out w HR.out).mono ?_
            rintro e w' ⟨rfl, rfl⟩
            go_wp2_with fail
            refine (HI1.out w).mono ?_
            rintro e w' ⟨rfl, rfl⟩
            go_wp2_with fail
            refine (HI2.out w).mono ?_
            rintro e w' ⟨rfl, rfl⟩
            go_wp2_with fail
            refine ⟨.bool false, by simp [results, Tryd.results23, go_sem], ?_⟩
            exact ⟨by rw [HX.out], Below.refl _ _⟩
        · rw [decide_eq_false h3] at HI1
          have HX : Hid (decide (VerExtOk old m root n P c) = false) := Lib.hid (decide_eq_false (fun h => h3 h.2.2.2.1))
          clear h2 h3
          go_wp2_with fail
          refine (HALL.out w HR.out).mono ?_
          rintro e w' ⟨rfl, rfl⟩
          go_wp2_with fail
          refine (HI1.out w).mono ?_
          rintro e w' ⟨rfl, rfl⟩
          go_wp2_with fail
          refine ⟨.bool false, by simp [results, Tryd.results23, go_sem], ?_⟩
          exact ⟨by rw [HX.out], Below.refl _ _⟩
      · rw [decide_eq_false h2] at HALL
        have HX : Hid (decide (VerExtOk old m root n P c) = false) := Lib.hid (decide_eq_false (fun h => h2 h.2.2.1))
        clear h2
        go_wp2_with fail
        refine (HALL.out w HR.out).mono ?_
        rintro e w' ⟨rfl, rfl⟩
        go_wp2_with fail
        refine ⟨.bool false, by simp [results, Tryd.results23, go_sem], ?_⟩
        exact ⟨by rw [HX.out], Below.refl _ _⟩
theorem verext_any (old root : ByteArray) (m n : Int) (p : Option Addr) (c cc : Nat) (P : Nat → ByteArray) (w : World) (hnb : n ≤ 9223372036854775807) (hc : c ≤ 1000) (hcc : c ≤ cc) (hr : ReadsS w p c P) (hT : RoundOk w) :
    Calls Tryd.prog 23 #[.string old, .int .i64 m, .string root, .int .i64 n, .slice p c cc] w fun e w' => e = .returned (.bool (decide (VerExtOk old m root n P c))) ∧ Below w.heap.size w w' := callsIn_wide.1 (verext_in old root m n p c cc P w hnb hc hcc hr hT)
end Go.Proofs.YtolhjkbfinlfcaaDoor
