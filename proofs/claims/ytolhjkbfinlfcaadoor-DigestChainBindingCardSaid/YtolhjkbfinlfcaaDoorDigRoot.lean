/- Package digest: Root. Conditions: at most 1000 strings of at most 4000 bytes each, that can be read; the table holds its words. -/
import Derived.Test.YtolhjkbfinlfcaaDoorDigBack
import Derived.Deep.AppendLies
import Derived.Deep.RegionHeld3
namespace Go.Proofs.YtolhjkbfinlfcaaDoor
open Go Go.RowKit Go.Shelf
attribute [local go_sem] Oper.semAt_some
theorem infoStr : ∃ i : TypeInfo, Tryd.prog.info? 9 = some i ∧ i.zero = some (.string ⟨#[]⟩) ∧ i.size = 1 ∧ i.bytes = 16 := by
  have h : (Tryd.prog.info? 9).map (fun i => (i.zero, i.size, i.bytes)) = some (some (.string ⟨#[]⟩), 1, 16) := by kernel_rfl
  cases hi : Tryd.prog.info? 9 with
  | none => rw [hi] at h; cases h
  | some i =>
    rw [hi] at h
    simp at h
    exact ⟨i, rfl, h.1, h.2.1, h.2.2⟩
theorem infoInt : ∃ i : TypeInfo, Tryd.prog.info? 3 = some i ∧ i.zero = some (.int .i64 0) ∧ i.size = 1 ∧ i.bytes = 8 := by
  have h : (Tryd.prog.info? 3).map (fun i => (i.zero, i.size, i.bytes)) = some (some (.int .i64 0), 1, 8) := by kernel_rfl
  cases hi : Tryd.prog.info? 3 with
  | none => rw [hi] at h; cases h
  | some i =>
    rw [hi] at h
    simp at h
    exact ⟨i, rfl, h.1, h.2.1, h.2.2⟩
theorem own_below {W W' : World} {base n size : Nat} {e : TypeId} {v : Value} {xs : List Value} (h : W.ownsRow base e size v n xs) (hb : Below W.heap.size W W') : W'.ownsRow base e size v n xs := by
  refine ⟨h.1, ?_⟩
  rcases h.2 with h0 | ⟨g, cap, cur, rfl, h1, h2, h3⟩
  · exact .inl h0
  · exact .inr ⟨g, cap, cur, rfl, h1, (hb.block _ (Array.getElem?_eq_some_iff.1 h2).1).trans h2, h3⟩
theorem own_cut {W : World} {base n cap g k : Nat} {e : TypeId} {xs : List Value} (h : W.ownsRow base e 1 (.slice (some ⟨g, 0, none⟩) n cap) n xs) (hk : k ≤ n) : W.ownsRow base e 1 (.slice (some ⟨g, 0, none⟩) k cap) k (xs.take k) := by
  have hl := h.1
  refine ⟨by rw [List.length_take, hl]; omega, ?_⟩
  rcases h.2 with ⟨h0, _⟩ | ⟨g', cap', cur, h0, h1, h2, h3, h4, h5, h6⟩
  · cases h0
  · cases h0
    refine .inr ⟨g, cap, cur, rfl, h1, h2, by omega, h4, h5, ?_⟩
    rw [← h6, List.take_take]
    congr 1
    omega
theorem own_apart {W : World} {base base' n n' size size' : Nat} {e e' : TypeId} {v v' : Value} {xs xs' : List Value} (h : W.ownsRow base e size v n xs) (h' : W.ownsRow base' e' size' v' n' xs') (he : e ≠ e') : v.ownBlock = none ∨ v.ownBlock ≠ v'.ownBlock := by
  rcases h.2 with ⟨rfl, _⟩ | ⟨g, cap, cur, rfl, h1, h2, _⟩
  · exact .inl rfl
  · refine .inr fun hx => ?_
    rcases h'.2 with ⟨rfl, _⟩ | ⟨g', cap', cur', rfl, h1', h2', _⟩
    · simp [Value.ownBlock] at hx
    · simp [Value.ownBlock] at hx
      subst hx
      rw [h2] at h2'
      injection h2' with h3
      injection h3 with _ h4
      exact he h4
theorem own_cell {W : World} {base n cap g i : Nat} {e : TypeId} {xs : List Value} {u : Value} (h : W.ownsRow base e 1 (.slice (some ⟨g, 0, none⟩) n cap) n xs) (hu : xs[i]? = some u) : W.cell? ⟨g, i, none⟩ = some u := by
  have h2 := h.cells (g := g) rfl i u hu
  rwa [addr_add0] at h2
theorem own_nil {W : World} {base size : Nat} {e : TypeId} {v : Value} {xs : List Value} (h : W.ownsRow base e size v 0 xs) : ∃ p c, v = .slice p 0 c := by
  rcases h.2 with ⟨rfl, _⟩ | ⟨g, cap, cur, rfl, _⟩
  · exact ⟨_, _, rfl⟩
  · exact ⟨_, _, rfl⟩
theorem own_cap {W : World} {base n cap g : Nat} {e : TypeId} {xs : List Value} (h : W.ownsRow base e 1 (.slice (some ⟨g, 0, none⟩) n cap) n xs) : n ≤ cap ∧ cap ≤ maxLen := by
  rcases h.2 with ⟨h0, _⟩ | ⟨g', cap', cur, h0, _, _, h1, h2, _⟩
  · cases h0
  · cases h0; exact ⟨h1, h2⟩
/-- A call of a Go function, as one step of a region that draws. -/
theorem step_call {P : Program} {ops : Array Oper} {o : Oper} {a : Act} {w : World} {K : Act → World → Prop} {Q : Exit → Act → World → Prop} {E : Prop} (hg : o.guard = none) (f : FuncId) (args : Array Value) {v : Value} {R : World → Prop}
    (hrun : (execOp a.eval o).run P w = .ok (.enter f args) w) (hc : Calls P f args w fun e w' => e = .returned v ∧ R w') (h : ∀ w', R w' → K (a.put o.dst v) w') :
    if Region.wanted o (yielded ops a.tmps) = true then Oper.wp P o a w K Q else E := by
  have hw : Region.wanted o (yielded ops a.tmps) = true := by simp [Region.wanted, hg]
  rw [if_pos hw]
  unfold Oper.wp
  rw [hrun]
  simp only [Oper.upon]
  exact hc.mono fun e w' ⟨he, hr⟩ => by subst he; exact h w' hr
theorem stkRoots_size (F : Nat → ByteArray) : ∀ (o : Nat) (L : List Nat) (j : Nat), j < L.length → ((stkRoots F o L).getD j ⟨#[]⟩).size = 32
  | _, [], _, h => by simp at h
  | o, e :: r, 0, _ => by
    show (rootF F o (2 ^ e)).size = 32
    exact root_size _ _ _
  | o, e :: r, j + 1, h => stkRoots_size F (o + 2 ^ e) r j (by simpa using h)
def strV (s : ByteArray) : Value := .string s
def sizV (e : Nat) : Value := .int .i64 ((2 ^ e : Nat) : Int)
theorem sizV_zero : Value.int .i64 1 = sizV 0 := rfl
/-- Between two rounds. -/
def RootOn (R : List ByteArray) (fin : ByteArray) (w wq : World) (S j : Nat) (W : World) : Prop :=
  ∃ ac : ByteArray, ac.size = 32 ∧ foldB R j ac = fin ∧ Boxed W S 9 (.string ac) ∧ Below w.heap.size w W ∧ wq.heap.size ≤ W.heap.size ∧ ∀ b, b < wq.heap.size → b ≠ S → W.heap[b]? = wq.heap[b]?
def RootAcc (R : List ByteArray) (fin : ByteArray) (w wq : World) (S D l : Nat) (r : Loop) (j : Nat) (W : World) : Prop :=
  ∃ ac : ByteArray, ac.size = 32 ∧ foldB R j ac = fin ∧ Boxed W S 9 (.string ac) ∧ Below w.heap.size w W ∧ wq.heap.size ≤ W.heap.size ∧ (∀ b, b < wq.heap.size → b ≠ S → W.heap[b]? = wq.heap[b]?) ∧ LoopAt W D l r .ready none
theorem RootAcc.loop {R : List ByteArray} {fin : ByteArray} {w wq : World} {S D l : Nat} {r : Loop} {j : Nat} {W : World} (h : RootAcc R fin w wq S D l r j W) : LoopAt W D l r .ready none := by
  obtain ⟨_, _, _, _, _, _, _, h⟩ := h
  exact h
theorem RootAcc.rest {R : List ByteArray} {fin : ByteArray} {w wq : World} {S D l : Nat} {r : Loop} {j : Nat} {W : World} (h : RootAcc R fin w wq S D l r j W) : ∀ b, b < wq.heap.size → b ≠ S → W.heap[b]? = wq.heap[b]? := by
  obtain ⟨_, _, _, _, _, _, h, _⟩ := h
  exact h
theorem LoopAt_set {W : World} {D l B : Nat} {r : Loop} {st : LoopState} {pe : Option Code} (h : LoopAt W D l r st pe) (h1 : B ≠ l) (h2 : B ≠ D) (u : Value) : LoopAt (W.setCell ⟨B, 0, none⟩ u) D l r st pe :=
  h.keep ((grownBy_setCell' W B u).block l (Array.getElem?_eq_some_iff.1 h.lrec).1 (by simpa using fun e => h1 e.symm)) ((grownBy_setCell' W B u).block D (Array.getElem?_eq_some_iff.1 h.ds).1 (by simpa using fun e => h2 e.symm))
set_option maxRecDepth 100000 in
set_option maxHeartbeats 4000000 in
theorem root_in (p : Option Addr) (n c : Nat) (F : Nat → ByteArray) (w : World) (hn : n ≤ 1000) (hF : ∀ i, i < n → (F i).size ≤ 4000) (hr : ReadsS w p n F) (hT : RoundOk w) :
    CallsIn Fence.wide 9 Tryd.prog 19 #[.slice p n c] w fun e w' => e = .returned (.string (rootF F 0 n)) ∧ Below w.heap.size w w' := by
  have HT := Lib.hid hT
  have HR := Lib.hid hr
  have HF := Lib.hid hF
  obtain ⟨i0, hi, hz0, hz1, hz2⟩ := infoStr
  obtain ⟨i1, hj, hy0, hy1, hy2⟩ := infoInt
  clear hT hr hF
  refine callsIn_of_wp_marks Tryd.func19 rfl trivial ?_ rfl
  simp only [Tryd.ntmps19, List.size_toArray, List.length_cons, List.length_nil, Nat.reduceAdd, Nat.reduceSub, Array.replicate_succ, Array.replicate_zero, List.push_toArray, List.append_toArray, List.nil_append, List.cons_append]
  refine wpIn_wide.2 ?_
  go_wp2_with fail
  go_loopw [3, 4, 13] (fun v3 v4 v13 wr => ∃ (k : Nat) (L : List Nat), k ≤ n ∧ v13 = .int .i64 (k : Nat) ∧ Hid (Falls L ∧ stkLen L = k) ∧ L.length ≤ k ∧
    wr.ownsRow w.heap.size 9 1 v3 L.length ((stkRoots F 0 L).map strV) ∧ wr.ownsRow w.heap.size 3 1 v4 L.length (L.map sizV) ∧ Below w.heap.size w wr) (fun _ _ v13 _ => n - (intOf v13).toNat)
  case atStart => exact ⟨0, [], by omega, rfl, Lib.hid ⟨List.Pairwise.nil, rfl⟩, by simp, World.ownsRow_nil _ _ _ _, World.ownsRow_nil _ _ _ _, Below.refl _ _⟩
  case round =>
    obtain ⟨k, L, hk, rfl, hL, hLk, hown3, hown4, hB⟩ := hrel
    by_cases hlt : k < n
    · obtain ⟨b, o, rfl, hc⟩ := HR.out.below hB k hlt
      have c1 := hc k hlt
      have v0 : (0 : Int) ≤ (k : Int) := by omega
      have v1 : (k : Int) < (n : Int) := by omega
      have HLF := Lib.hid (fun W (h : Below wr.heap.size wr W) => leaf_any (F k) W (HF.out k hlt) ((HT.out.below hB).below h))
      have HRT : Hid (rootF F k (2 ^ 0) = leafS (F k)) := Lib.hid rfl
      obtain ⟨x, hx⟩ : ∃ x, F k = x := ⟨_, rfl⟩
      rw [hx] at c1 HLF HRT
      have HB := Lib.hid hB
      have HO3 := Lib.hid hown3
      have HO4 := Lib.hid hown4
      obtain ⟨m, hm⟩ : ∃ m, L.length = m := ⟨_, rfl⟩
      have HM := Lib.hid hm
      rw [hm] at hLk HO3 HO4
      have hm1000 : m ≤ 1000 := by omega
      clear hc hx hB hown3 hown4 hm
      go_wp2_with fail
      refine (HLF.out wr (Below.refl _ _)).mono ?_
      rintro e w2 ⟨rfl, hb2⟩
      have HB2 := Lib.hid (HB.out.trans (hb2.mono HB.out.size))
      have h32 := own_below HO3.out hb2
      have HO42 := Lib.hid (own_below HO4.out hb2)
      have hw2 := HB2.out.size
      clear hb2
      go_wp2_with (first
        | (at_builtin; refine wpList_append_own (o := ⟨some 21, _, _, _, _, _⟩) _ rfl _ _ 22 rfl w.heap.size 9 i0 (.string ⟨#[]⟩) 1 16 Tryd.underlying22 hi hz0 hz1 hz2 rfl (by decide) _ m _ rfl (h32.alloc _) ⟨w2.heap.size, 0, none⟩ 1 1 [.string (leafS x)] rfl rfl (cell_one_new _ _ _) (by simp [Value.oneCell']) (by unfold maxLen; omega) (by omega) (by simp; omega) ?_; intro v' w3 hown3 hgrow3 _; obtain ⟨g3, cap3, rfl⟩ := ownsRow_succ hown3; have h43 := (HO42.out.alloc (.cells #[.string (leafS x)] 9)).kept hgrow3 (own_apart HO42.out h32 (by decide)); have hB3 := (HB2.out.alloc hw2 (.cells #[.string (leafS x)] 9)).grown hgrow3 (by simp; omega) (fun j ej => (h32.lt j ej).1); have hw3 := hB3.size)
        | (at_builtin; refine wpList_append_own (o := ⟨some 24, _, _, _, _, _⟩) _ rfl _ _ 49 rfl w.heap.size 3 i1 (.int .i64 0) 1 8 Tryd.underlying49 hj hy0 hy1 hy2 rfl (by decide) _ m _ rfl (h43.alloc _) ⟨w3.heap.size, 0, none⟩ 1 1 [.int .i64 1] rfl rfl (cell_one_new _ _ _) (by simp [Value.oneCell']) (by unfold maxLen; omega) (by omega) (by simp; omega) ?_; intro v' w4 hown4 hgrow4 _; obtain ⟨g4, cap4, rfl⟩ := ownsRow_succ hown4; have h34 := (hown3.alloc (.cells #[.int .i64 1] 3)).kept hgrow4 (own_apart hown3 h43 (by decide)); have hB4 := (hB3.alloc hw3 (.cells #[.int .i64 1] 3)).grown hgrow4 (by simp; omega) (fun j ej => (h43.lt j ej).1)))
      have hO3 : w4.ownsRow w.heap.size 9 1 (.slice (some ⟨g3, 0, none⟩) (m + 1) cap3) (m + 1) ((stkRoots F 0 (L ++ [0])).map strV) := by
        rw [stkRoots_append, List.map_append, show stkRoots F (0 + stkLen L) [0] = [leafS x] by rw [← HRT.out, Nat.zero_add, hL.out.2]; rfl]
        exact h34
      have hO4 : w4.ownsRow w.heap.size 3 1 (.slice (some ⟨g4, 0, none⟩) (m + 1) cap4) (m + 1) ((L ++ [0]).map sizV) := by
        rw [List.map_append]
        exact hown4
      have HO3' := Lib.hid hO3
      have HO4' := Lib.hid hO4
      have HB4 := Lib.hid hB4
      clear h32 hown3 hgrow3 h43 hB3 hw3 hown4 hgrow4 h34 hB4 hO3 hO4 HO3 HO4 HO42 HB2 hw2
      obtain ⟨wo, rfl⟩ : ∃ W : World, W = wr := ⟨_, rfl⟩
      go_loopw [3, 4, 7] (fun v3 v4 v7 W => ∃ (L0 : List Nat) (e q : Nat), v7 = .int .i64 (q : Nat) ∧ L0.length + 1 = q ∧ q ≤ k + 1 ∧ Hid (Falls L0 ∧ (∀ a ∈ L0, e ≤ a) ∧ stkLen (L0 ++ [e]) = k + 1) ∧
        W.ownsRow w.heap.size 9 1 v3 q ((stkRoots F 0 (L0 ++ [e])).map strV) ∧ W.ownsRow w.heap.size 3 1 v4 q ((L0 ++ [e]).map sizV) ∧ Below w.heap.size w W) (fun _ _ v7 _ => (intOf v7).toNat)
      case atStart =>
        refine ⟨L, 0, m + 1, rfl, by rw [HM.out], by omega, Lib.hid ⟨hL.out.1, fun a _ => Nat.zero_le _, ?_⟩, HO3'.out, HO4'.out, HB4.out⟩
        rw [stkLen_append, hL.out.2]
        rfl
      case round =>
        obtain ⟨L0, e, q, rfl, hq, hqk, hinv, hown3, hown4, hB⟩ := hrel
        clear HO3' HO4' HB4 HLF
        rcases List.eq_nil_or_concat L0 with rfl | ⟨L1, d, rfl⟩
        · obtain rfl : q = 1 := by simpa using hq.symm
          have HO3 := Lib.hid hown3
          have HO4 := Lib.hid hown4
          have HB := Lib.hid hB
          have hn1 : ¬ (1 : Int) < ((1 : Nat) : Int) := by decide
          clear hown3 hown4 hB
          go_wp2_with fail
          go_quiet (fail)
          go_wp2_with fail
          refine ⟨⟨k + 1, [e], by omega, by go_num, Lib.hid ⟨List.pairwise_singleton _ _, hinv.out.2.2⟩, by simp, HO3.out, HO4.out, Below_dn HB.out _⟩, by simp [intOf]; omega⟩
        · have hlen : L1.length + 2 = q := by simp at hq; omega
          obtain ⟨q2, hq2⟩ : ∃ q2, L1.length = q2 := ⟨_, rfl⟩
          have hqq : q2 + 2 = q := by omega
          obtain ⟨g3, cap3, rfl⟩ := ownsRow_succ (k := q2 + 1) (by rw [hqq]; exact hown3)
          obtain ⟨g4, cap4, rfl⟩ := ownsRow_succ (k := q2 + 1) (by rw [hqq]; exact hown4)
          rw [hqq] at hown3 hown4 ⊢
          have hsz : (L1.concat d ++ [e]).map sizV = L1.map sizV ++ [sizV d, sizV e] := by simp
          have hst : (stkRoots F 0 (L1.concat d ++ [e])).map strV = (stkRoots F 0 L1).map strV ++ [strV (rootF F (stkLen L1) (2 ^ d)), strV (rootF F (stkLen L1 + 2 ^ d) (2 ^ e))] := by
            rw [List.concat_eq_append, stkRoots_append, stkRoots_append]
            simp [stkRoots, stkLen_append, stkLen]
          rw [hst] at hown3
          rw [hsz] at hown4
          have y1 : wr.cell? ⟨g4, q2, none⟩ = some (sizV d) := own_cell hown4 (by rw [List.getElem?_append_right (by simp; omega)]; simp [hq2])
          have y2 : wr.cell? ⟨g4, q2 + 1, none⟩ = some (sizV e) := own_cell hown4 (by rw [List.getElem?_append_right (by simp; omega)]; simp [hq2])
          have x1 : wr.cell? ⟨g3, q2, none⟩ = some (strV (rootF F (stkLen L1) (2 ^ d))) := own_cell hown3 (by rw [List.getElem?_append_right (by simp [stkRoots_length]; omega)]; simp [stkRoots_length, hq2])
          have x2 : wr.cell? ⟨g3, q2 + 1, none⟩ = some (strV (rootF F (stkLen L1 + 2 ^ d) (2 ^ e))) := own_cell hown3 (by rw [List.getElem?_append_right (by simp [stkRoots_length]; omega)]; simp [stkRoots_length, hq2])
          obtain ⟨hcap3, _⟩ := own_cap hown3
          obtain ⟨hcap4, _⟩ := own_cap hown4
          have g1 : IntKind.i64.wrap ((q : Int) - 2) = (q2 : Int) := by rw [IntWalk.i64_in _ (by omega)]; omega
          obtain ⟨q1, hq1⟩ : ∃ q1, q2 + 1 = q1 := ⟨_, rfl⟩
          have g2 : IntKind.i64.wrap ((q : Int) - 1) = (q1 : Int) := by rw [IntWalk.i64_in _ (by omega)]; omega
          rw [hq1] at y2 x2
          have b0 : (0 : Int) ≤ (q2 : Int) := by omega
          have b1 : (q2 : Int) < (q : Int) := by omega
          have b2 : (0 : Int) ≤ (q1 : Int) := by omega
          have b3 : (q1 : Int) < (q : Int) := by omega
          have b4 : (q2 : Int) ≤ (cap3 : Int) := by omega
          have b5 : (q2 : Int) ≤ (cap4 : Int) := by omega
          have b6 : (1 : Int) < (q : Int) := by omega
          obtain ⟨D, hD⟩ : ∃ D : Nat, 2 ^ d = D := ⟨_, rfl⟩
          obtain ⟨E, hE⟩ : ∃ E : Nat, 2 ^ e = E := ⟨_, rfl⟩
          unfold sizV at y1 y2
          unfold strV at x1 x2
          rw [hD] at y1
          rw [hE] at y2
          have HO3 := Lib.hid hown3
          have HO4 := Lib.hid hown4
          have HB := Lib.hid hB
          have hwr := hB.size
          have HL1 := Lib.hid hq2
          have HQ1 := Lib.hid hq1
          have HDD := Lib.hid hD
          have HEE := Lib.hid hE
          have hfall : Falls L1 ∧ (∀ a ∈ L1, d < a) ∧ e ≤ d ∧ stkLen L1 + D + E = k + 1 := by
            have h1 := hinv.out.1
            rw [List.concat_eq_append] at h1
            have h2 := List.pairwise_append.1 h1
            refine ⟨h2.1, fun a ha => h2.2.2 a ha d (by simp), hinv.out.2.1 d (by simp), ?_⟩
            have h3 := hinv.out.2.2
            rw [List.concat_eq_append, stkLen_append, stkLen_append] at h3
            simp only [stkLen] at h3
            omega
          have HFA := Lib.hid hfall
          have hE1000 : E ≤ 1001 := by omega
          clear hown3 hown4 hB hsz hst hq2 hq1 hD hE hfall hlen hq
          by_cases hde : D = E
          · subst hde
            have hed : d = e := by
              have h1 := HDD.out
              have h2 := HEE.out
              rcases Nat.lt_trichotomy d e with h | h | h
              · have := HFA.out.2.2.1; omega
              · exact h
              · have := Nat.pow_lt_pow_right (show 1 < 2 by decide) h; omega
            have HED := Lib.hid hed
            obtain ⟨A, hA⟩ : ∃ A, rootF F (stkLen L1) (2 ^ d) = A := ⟨_, rfl⟩
            obtain ⟨B, hBB⟩ : ∃ B, rootF F (stkLen L1 + 2 ^ d) (2 ^ e) = B := ⟨_, rfl⟩
            have hAs : A.size = 32 := by rw [← hA]; exact root_size _ _ _
            have hBs : B.size = 32 := by rw [← hBB]; exact root_size _ _ _
            rw [hA] at x1
            rw [hBB] at x2
            have HNEW : Hid ((stkRoots F 0 (L1 ++ [d + 1])).map strV = (stkRoots F 0 L1).map strV ++ [.string (nodeS A B)]) := Lib.hid (by
              rw [stk_merge, List.map_append, Nat.zero_add, hA, show 2 ^ d = 2 ^ e by rw [hed]]
              rw [show 2 ^ d = 2 ^ e by rw [hed]] at hBB
              rw [hBB]
              rfl)
            have HNE2 : Hid ((L1 ++ [d + 1]).map sizV = L1.map sizV ++ [.int .i64 ((2 * D : Nat) : Int)]) := Lib.hid (by
              rw [List.map_append]
              congr 1
              show [Value.int .i64 ((2 ^ (d + 1) : Nat) : Int)] = _
              rw [Nat.pow_succ, HDD.out, Nat.mul_comm])
            have g3' : IntKind.i64.wrap (2 * (D : Int)) = ((2 * D : Nat) : Int) := by rw [IntWalk.i64_in _ (by omega)]; omega
            have HS32 := Lib.hid (And.intro hAs hBs)
            clear hA hBB hAs hBs hed
            go_wp2_with fail
            go_quiet (fail)
            have x1 : (wr.drewN nq).cell? ⟨g3, q2, none⟩ = _ := x1
            have x2 : (wr.drewN nq).cell? ⟨g3, q1, none⟩ = _ := x2
            have HO3d := Lib.hid (show (wr.drewN nq).ownsRow w.heap.size 9 1 (.slice (some ⟨g3, 0, none⟩) q cap3) q _ from HO3.out)
            have HO4d := Lib.hid (show (wr.drewN nq).ownsRow w.heap.size 3 1 (.slice (some ⟨g4, 0, none⟩) q cap4) q _ from HO4.out)
            have HBd := Lib.hid (Below_dn HB.out nq)
            obtain ⟨w5, hw5⟩ : ∃ W : World, wr.drewN nq = W := ⟨_, rfl⟩
            rw [hw5] at x1 x2 HO3d HO4d HBd ⊢
            have hw5s := HBd.out.size
            have HN := Lib.hid (fun W (h : Below w5.heap.size w5 W) => node_any A B W (by have := HS32.out; omega) (by have := HS32.out; omega) (HT.out.below (HBd.out.trans (h.mono HBd.out.size))))
            clear hw5 y1 y2 HO3 HO4 HB hwr
            go_upto_region 10 with fail
            go_cut [3] from 44 to 60 (fun s3 W => ∃ g cap, s3 = .slice (some ⟨g, 0, none⟩) q1 cap ∧ W.ownsRow w.heap.size 9 1 s3 q1 ((stkRoots F 0 L1).map strV ++ [.string (nodeS A B)]) ∧ W.ownsRow w.heap.size 3 1 (.slice (some ⟨g4, 0, none⟩) q cap4) q (L1.map sizV ++ [sizV d, sizV e]) ∧ Below w.heap.size w W)
            case first =>
              refine wp_region_noPanic ?_
              go_region_law (first
                | (refine step_call (by rfl) 32 #[.string A, .string B] (by go_simp) (HN.out _ (Below.refl _ _).drew) ?_; intro w6 hb6; have hbr : Below w5.heap.size w5 w6 := ((Below.refl _ _).drew).trans hb6; have hB6 := HBd.out.trans (hbr.mono HBd.out.size); have h36 := own_cut (own_below HO3d.out hbr) (k := q2) (by omega); have h46 := own_below HO4d.out hbr; have hw6 := hB6.size)
                | (refine step_append_lies _ (by rfl) (.tmp 47) (.tmp 59) 22 (by rfl) w.heap.size 9 i0 (.string ⟨#[]⟩) 1 16 Tryd.underlying22 hi hz0 hz1 hz2 rfl (by decide) (.slice (some ⟨g3, 0, none⟩) q2 cap3) q2 _ (by rfl) (h36.alloc _) ⟨w6.heap.size, 0, none⟩ 1 1 [.string (nodeS A B)] (by rfl) rfl (cell_one_new w6 _ _) (h1 := by simp [Value.oneCell']) (hm := by decide) (h63 := by unfold maxLen; omega) (hbytes := by omega) (hbase := Nat.le_trans hw6 (by show w6.heap.size ≤ (w6.alloc _).heap.size; simp)) (H := w6.heap.size + 1) (hH := by show (w6.alloc _).heap.size = _; simp) ?_; intro g cp1 w7 hown1 hgrow1 hat1 hlt1; have hb7 := (hB6.alloc hw6 _).grown hgrow1 (by simp; omega) (fun j ej => (h36.lt j ej).1); have h47 := (h46.alloc _).kept hgrow1 (own_apart h46 h36 (by decide))))
              all_goals refine NoPanic.normal ?_
              all_goals (go_wp2_with fail; go_meet)
              all_goals
                have htk : (List.map strV (stkRoots F 0 L1) ++ [strV (rootF F (stkLen L1) (2 ^ d)), strV (rootF F (stkLen L1 + 2 ^ d) (2 ^ e))]).take q2 = List.map strV (stkRoots F 0 L1) := List.take_left' (by simp [stkRoots_length, HL1.out])
                rw [htk] at hown1
                rw [← HQ1.out]
                exact ⟨_, _, rfl, hown1, h47, hb7⟩
            case rest =>
              obtain ⟨g5, cap5, rfl, h3, h4, hb8⟩ := hcut
              obtain ⟨w8, rfl⟩ : ∃ W : World, W = wc := ⟨_, rfl⟩
              have y2 : w8.cell? ⟨g4, q1, none⟩ = some (.int .i64 (D : Int)) := by
                have := own_cell h4 (i := q1) (u := sizV e) (by have hx := HQ1.out; rw [List.getElem?_append_right (by simp [HL1.out]; omega)]; simp [HL1.out, ← HQ1.out])
                rw [this, sizV, ← HED.out, HDD.out]
              have h4c := own_cut h4 (k := q2) (by omega)
              have HO3e := Lib.hid h3
              have HBe := Lib.hid hb8
              have hw8 := hb8.size
              clear h3 h4 hb8 HO3d HO4d HBd HN x1 x2 hw5s
              go_wp2_with fail
              go_upto_region 11 with fail
              refine wp_region_noPanic ?_
              go_region_law (refine step_append_lies _ (by rfl) (.tmp 64) (.tmp 71) 49 (by rfl) w.heap.size 3 i1 (.int .i64 0) 1 8 Tryd.underlying49 hj hy0 hy1 hy2 rfl (by decide) (.slice (some ⟨g4, 0, none⟩) q2 cap4) q2 _ (by rfl) ((h4c.alloc _).drew) ⟨w8.heap.size, 0, none⟩ 1 1 [.int .i64 ((2 * D : Nat) : Int)] (by rfl) rfl (cell_one_new w8 _ _) (h1 := by simp [Value.oneCell']) (hm := by decide) (h63 := by unfold maxLen; omega) (hbytes := by omega) (hbase := Nat.le_trans hw8 (by show w8.heap.size ≤ (w8.alloc _).heap.size; simp)) (H := w8.heap.size + 1) (hH := by show (w8.alloc _).heap.size = _; simp) ?_; intro g9 cp9 w9 hown9 hgrow9 hat9 hlt9; have hb9 := ((HBe.out.alloc hw8 _).drew).grown hgrow9 (by simp; omega) (fun j ej => (h4c.lt j ej).1); have h39 := ((HO3e.out.alloc _).drew).kept hgrow9 (own_apart HO3e.out h4c (by decide)))
              all_goals refine NoPanic.normal ?_
              all_goals (go_wp2_with fail)
              all_goals
                have htk2 : (L1.map sizV ++ [sizV d, sizV e]).take q2 = L1.map sizV := List.take_left' (by simp [HL1.out])
                rw [htk2, HQ1.out] at hown9
                rw [HQ1.out]
                refine ⟨⟨L1, d + 1, q1, rfl, by have := HL1.out; have := HQ1.out; omega, by omega, Lib.hid ⟨HFA.out.1, fun a ha => HFA.out.2.1 a ha, ?_⟩, ?_, ?_, hb9⟩, by simp [intOf]; omega⟩
                · rw [stkLen_append]
                  show stkLen L1 + (2 ^ (d + 1) + 0) = k + 1
                  rw [Nat.pow_succ, HDD.out]
                  have := HFA.out.2.2.2
                  omega
                · rw [HNEW.out]; exact h39
                · rw [HNE2.out]; exact hown9
          · have HNE := Lib.hid hde
            have HPW : Hid (Falls (L1.concat d ++ [e])) := Lib.hid (by
              refine List.pairwise_append.2 ⟨hinv.out.1, List.pairwise_singleton _ _, fun a ha c hc => ?_⟩
              obtain rfl : c = e := by simpa using hc
              have h1 := hinv.out.2.1 a ha
              rw [List.concat_eq_append, List.mem_append] at ha
              rcases ha with ha | ha
              · have := HFA.out.2.1 a ha; have := HFA.out.2.2.1; omega
              · obtain rfl : a = d := by simpa using ha
                refine Nat.lt_of_le_of_ne h1 (fun hx => HNE.out ?_)
                rw [← HDD.out, ← HEE.out, hx])
            have HST : Hid ((stkRoots F 0 (L1.concat d ++ [e])).map strV = (stkRoots F 0 L1).map strV ++ [strV (rootF F (stkLen L1) (2 ^ d)), strV (rootF F (stkLen L1 + 2 ^ d) (2 ^ e))]) := Lib.hid (by
              rw [List.concat_eq_append, stkRoots_append, stkRoots_append]
              simp [stkRoots, stkLen_append, stkLen])
            have HSZ : Hid ((L1.concat d ++ [e]).map sizV = L1.map sizV ++ [sizV d, sizV e]) := Lib.hid (by simp)
            have HLN : Hid ((L1.concat d ++ [e]).length = q) := Lib.hid (by have := HL1.out; simp; omega)
            have hde2 : ¬ (D : Int) = (E : Int) := by omega
            clear hde
            go_wp2_with fail
            go_quiet (fail)
            go_wp2_with fail
            refine ⟨⟨k + 1, L1.concat d ++ [e], by omega, by go_num, Lib.hid ⟨HPW.out, hinv.out.2.2⟩, by rw [HLN.out]; exact hqk, ?_, ?_, Below_dn HB.out _⟩, by simp [intOf]; omega⟩
            · rw [HLN.out, HST.out]; exact HO3.out
            · rw [HLN.out, HSZ.out]; exact HO4.out
    · obtain rfl : k = n := by omega
      obtain ⟨wo, rfl⟩ : ∃ W : World, W = wr := ⟨_, rfl⟩
      have hex : ¬ (k : Int) < (k : Int) := by omega
      have HB := Lib.hid hB
      have HROOT : Hid (foldR (stkRoots F 0 L) = rootF F 0 k) := Lib.hid (by rw [fold_root F 0 L hL.out.1, hL.out.2])
      cases L with
      | nil =>
        obtain ⟨gp, cp, rfl⟩ := own_nil hown3
        have hk0 : k = 0 := by have := hL.out.2; simpa [stkLen] using this.symm
        subst hk0
        have HS := Lib.hid (dsum_s ⟨#[]⟩ wo (by decide) (HT.out.below HB.out))
        clear hown3 hown4 hB
        go_wp2_with fail
        refine HS.out.mono ?_
        rintro e w5 ⟨rfl, hb5⟩
        have HB5 := Lib.hid (HB.out.trans (hb5.mono HB.out.size))
        clear hb5
        go_wp2_with fail
        refine ⟨.string (dS ⟨#[]⟩), by simp [results, Tryd.results19, go_sem], ?_⟩
        exact ⟨by rw [root_zero], HB5.out⟩
      | cons e0 L' =>
        obtain ⟨m, hm⟩ : ∃ m, L'.length = m := ⟨_, rfl⟩
        have hl1 : (e0 :: L').length = m + 1 := by simp [hm]
        rw [hl1] at hown3 hLk
        obtain ⟨g3, cap3, rfl⟩ := ownsRow_succ hown3
        obtain ⟨hcap, _⟩ := own_cap hown3
        obtain ⟨R, hR⟩ : ∃ R, stkRoots F 0 (e0 :: L') = R := ⟨_, rfl⟩
        have hRl : R.length = m + 1 := by rw [← hR, stkRoots_length, hl1]
        have hRs : ∀ j, j < m + 1 → (R.getD j ⟨#[]⟩).size = 32 := fun j hj => by
          rw [← hR]
          exact stkRoots_size F 0 (e0 :: L') j (by rw [hl1]; exact hj)
        rw [hR] at hown3 HROOT
        have hcells : ∀ W, Below wo.heap.size wo W → ∀ j, j < m + 1 → W.cell? ⟨g3, j, none⟩ = some (.string (R.getD j ⟨#[]⟩)) := fun W h j hj => by
          have h2 := own_cell hown3 (i := j) (u := .string (R.getD j ⟨#[]⟩)) (by rw [List.getElem?_map, List.getD_eq_getElem?_getD, List.getElem?_eq_getElem (by omega)]; rfl)
          exact (h.cell (p := ⟨g3, j, none⟩) (cell_lt' h2)).trans h2
        have HC := Lib.hid hcells
        have HRL := Lib.hid hRl
        have HRS := Lib.hid hRs
        have c1 := hcells wo (Below.refl _ _) m (by omega)
        have g1 : IntKind.i64.wrap (((m + 1 : Nat) : Int) - 1) = (m : Int) := by rw [IntWalk.i64_in _ (by omega)]; omega
        obtain ⟨q, hq⟩ : ∃ q, m + 1 = q := ⟨_, rfl⟩
        rw [hq] at g1 hcap ⊢
        have b0 : (0 : Int) ≤ (m : Int) := by omega
        have b1 : (m : Int) < (q : Int) := by omega
        have b2 : (m : Int) ≤ (cap3 : Int) := by omega
        have b3 : ¬ (q : Int) = 0 := by omega
        obtain ⟨acc, hacc⟩ : ∃ s, R.getD m ⟨#[]⟩ = s := ⟨_, rfl⟩
        rw [hacc] at c1
        have HACC := Lib.hid hacc
        clear hcells hown3 hown4 hB hm hl1 hR hRl hRs hacc hL
        go_wp2_with fail
        refine (backS_any _ _ _ _).mono ?_
        rintro e w' ⟨rfl, rfl⟩
        go_wp2_with fail
        obtain ⟨wq, hwq⟩ : ∃ wq, (wo.alloc (.cells #[.string acc] 9)).alloc (.cells #[.slice (some ⟨g3, 0, none⟩) m cap3] 22) = wq := ⟨_, rfl⟩
        have hz : wq.heap.size = wo.heap.size + 2 := by rw [← hwq]; simp
        have bx0 := (Boxed.new wo 9 (.string acc)).alloc (.cells #[.slice (some ⟨g3, 0, none⟩) m cap3] 22)
        have bx1 := Boxed.new (wo.alloc (.cells #[.string acc] 9)) 22 (.slice (some ⟨g3, 0, none⟩) m cap3)
        have hal : Below wo.heap.size wo wq := by rw [← hwq]; exact ((Below.refl _ _).alloc (Nat.le_refl _) _).alloc (by simp) _
        rw [World.size_alloc] at bx1
        rw [hwq] at bx0 bx1 ⊢
        obtain ⟨S, hS⟩ : ∃ S, wo.heap.size = S := ⟨_, rfl⟩
        have HWS : Hid (w.heap.size ≤ S) := Lib.hid (by rw [← hS]; exact HB.out.size)
        have HG3 : Hid (g3 < S) := Lib.hid (by rw [← hS]; exact cell_lt' c1)
        have HTW : Hid (0 < w.heap.size) := Lib.hid (cell_lt' (HT.out 0 (by omega)))
        have HBQ := Lib.hid (HB.out.trans (hal.mono HB.out.size))
        have HCQ : Hid (∀ j, j < m + 1 → wq.cell? ⟨g3, j, none⟩ = some (.string (R.getD j ⟨#[]⟩))) := Lib.hid (fun j hj => HC.out wq hal j hj)
        rw [hS] at hz bx0 bx1 ⊢
        have HB0 := Lib.hid bx0
        have HB1 := Lib.hid bx1
        have HZ := Lib.hid hz
        have HQ := Lib.hid hq
        have HAS : Hid (acc.size = 32) := Lib.hid (by rw [← HACC.out]; exact HRS.out m (by omega))
        have HFO : Hid (foldB R m acc = rootF F 0 k) := Lib.hid (by
          rw [foldB_eq R m acc (by rw [HRL.out]; omega), ← HROOT.out, ← HACC.out]
          congr 1
          have hm1 : m < R.length := by rw [HRL.out]; omega
          rw [List.getD_eq_getElem?_getD, List.getElem?_eq_getElem hm1]
          show R.take m ++ [R[m]] = R
          rw [← List.take_succ_eq_append_getElem hm1, List.take_of_length_le (by rw [HRL.out]; omega)])
        clear hwq bx0 bx1 hal hz c1 hq hS
        refine (wpIn_wide (n := 9)).1 ?_
        refine rangeFunc_open rfl (by omega) (gf := 60) (lb := #[.pointer (some ⟨S + 1, 0, none⟩)]) rfl trivial (enters_of Tryd.func60 (by kernel_rfl) rfl) (S + 2) (by rw [HZ.out]) ?_
        intro W1 rr _ hr hL ⟨ob, ob', hW1⟩
        have hW1b : Below (S + 2) wq W1 := by
          rw [hW1]
          exact ((Below.refl _ _).alloc (by have := HZ.out; omega) _).alloc (by have := HZ.out; simp; omega) _
        have hJ0 : RootAcc R (rootF F 0 k) w wq S (S + 2) (S + 3) rr m W1 :=
          ⟨acc, HAS.out, HFO.out, (hW1b.block S (by omega)).trans HB0.out, HBQ.out.trans (hW1b.mono (by have := HWS.out; omega)), by rw [hW1]; simp; omega, fun b hb _ => hW1b.block b (by have := HZ.out; omega), hL⟩
        have HCB : Hid (∀ j W, RootAcc R (rootF F 0 k) w wq S (S + 2) (S + 3) rr j W → W.cell? ⟨S + 1, 0, none⟩ = some (.slice (some ⟨g3, 0, none⟩) m cap3) ∧ ReadsS W (some ⟨g3, 0, none⟩) m (fun j => R.getD j ⟨#[]⟩)) := Lib.hid (fun j W h => by
          have hzz := HZ.out
          have hg := HG3.out
          refine ⟨(cell_of_heap (h.rest (S + 1) (by omega) (by omega)) 0).trans HB1.out.cell, fun i hi => ⟨g3, 0, rfl, fun q hq => ?_⟩⟩
          rw [Nat.zero_add]
          exact (cell_of_heap (h.rest g3 (by omega) (by omega)) q).trans (HCQ.out q (by omega)))
        clear hW1 hW1b
        refine (backS1_in 8 (S + 3) (S + 1) m cap3 (some ⟨g3, 0, none⟩) (fun j => R.getD j ⟨#[]⟩) (by omega) (by omega) (RootAcc R (rootF F 0 k) w wq S (S + 2) (S + 3) rr) ?hY HCB.out W1 hJ0).mono ?_
        case hY =>
          intro j W hj hJ
          obtain ⟨xj, hxj⟩ : ∃ x, R.getD j ⟨#[]⟩ = x := ⟨_, rfl⟩
          rw [hxj]
          refine (yield_open (On := RootOn R (rootF F 0 k) w wq S j) (Out := fun _ _ => False) hJ.loop trivial hr rfl ?_).mono ?_
          · intro Rp hRp
            have HRP := Lib.hid hRp
            clear hRp
            have HJ := Lib.hid hJ
            have HBG := Lib.hid (hJ.loop.begin (P := Tryd.prog))
            obtain ⟨ac, has, hfo, hbx, hbl, hsz, hrs, hlp⟩ := hJ
            clear hJ0
            gi_wp2
            refine ⟨_, HBG.out, ?_⟩
            have hl2 := hlp.put (st' := .busy) (pe' := none)
            have hbx2 : Boxed (W.putObj (S + 3) (.loop { rr with state := .busy, pending := none })) S 9 (.string ac) := (World.putObj_heap_other (by omega)).trans hbx
            have hrs2 : ∀ b, b < S + 2 → b ≠ S → (W.putObj (S + 3) (.loop { rr with state := .busy, pending := none })).heap[b]? = wq.heap[b]? := fun b hb hne => (World.putObj_heap_other (by omega)).trans (hrs b (by have := HZ.out; omega) hne)
            have hbl2 : Below w.heap.size w (W.putObj (S + 3) (.loop { rr with state := .busy, pending := none })) := Below_put hbl (by have := HWS.out; omega) hbl.size
            have hsz2 := putObj_size W (S + 3) (.loop { rr with state := .busy, pending := none })
            obtain ⟨W2, hW2⟩ : ∃ W2, W.putObj (S + 3) (.loop { rr with state := .busy, pending := none }) = W2 := ⟨_, rfl⟩
            rw [hW2] at hl2 hbx2 hrs2 hbl2 hsz2 ⊢
            have hT2 : RoundOk W2 := HT.out.below hbl2
            have hrj := HRS.out j (by omega)
            have HND := Lib.hid (node_any (R.getD j ⟨#[]⟩) ac W2 (by omega) (by omega) hT2)
            have HNF : Hid (foldB R j (nodeS (R.getD j ⟨#[]⟩) ac) = rootF F 0 k) := Lib.hid hfo
            have HNS : Hid ((nodeS (R.getD j ⟨#[]⟩) ac).size = 32) := Lib.hid (dS_size _)
            rw [hxj] at HND HNF HNS
            obtain ⟨na, hna⟩ : ∃ x, nodeS xj ac = x := ⟨_, rfl⟩
            rw [hna] at HND HNF HNS
            have e0 := hbx2.cell
            have HBX2 := Lib.hid hbx2
            have HL2 := Lib.hid hl2
            have HRS2 := Lib.hid hrs2
            have HBL2 := Lib.hid hbl2
            have HSZ2 := Lib.hid hsz2
            have HSZ := Lib.hid hsz
            clear hW2 hl2 hbx2 hrs2 hbl2 hsz2 hT2 hrj hxj hna hbx hbl hsz hrs hlp hfo has
            gi_wp2_with fail
            refine ⟨trivial, ?_⟩
            refine (callsIn_wide.2 HND.out).mono ?_
            rintro e W3 ⟨rfl, hb3⟩
            have hbx3 : Boxed W3 S 9 (.string ac) := (hb3.block S (Array.getElem?_eq_some_iff.1 HBX2.out).1).trans HBX2.out
            have hl3 := HL2.out.keep (hb3.block _ (Array.getElem?_eq_some_iff.1 HL2.out.lrec).1) (hb3.block _ (Array.getElem?_eq_some_iff.1 HL2.out.ds).1)
            have e1 := hbx3.cell
            have f1 := hbx3.frozen
            have HBX3 := Lib.hid (hbx3.set (.string na))
            have HL3 := Lib.hid (LoopAt_set hl3 (B := S) (by omega) (by omega) (.string na))
            have HB3' := Lib.hid hb3
            clear hbx3 hl3 hb3 HND
            gi_wp2_with fail
            rw [HRP.out]
            refine ⟨HL3.out, ?_⟩
            have hzz := HZ.out
            have hws := HWS.out
            have hs2 := HSZ2.out
            have hs3 := HSZ.out
            have hs4 := HB3'.out.size
            have hbs := Below_set' (HBL2.out.trans (HB3'.out.mono HBL2.out.size)) (b := S) (i := 0) hws (.string na)
            exact ⟨na, HNS.out, HNF.out, (World.putObj_heap_other (by omega)).trans HBX3.out, Below_put hbs (by omega) hbs.size, by rw [putObj_size]; have := (grownBy_setCell' W3 S (.string na)).size; omega, fun b hb hne => (World.putObj_heap_other (by omega)).trans ((Below.heap_setCell _ _ _ b hne).trans ((HB3'.out.block b (by omega)).trans (HRS2.out b (by omega) hne)))⟩
          · rintro e W' (⟨rfl, hL', hon⟩ | ⟨_, _, _, h⟩)
            · obtain ⟨ac, h1, h2, h3, h4, h5, h6⟩ := hon
              exact ⟨rfl, ac, h1, h2, h3, h4, h5, h6, hL'⟩
            · exact h.elim
        rintro e W3 ⟨⟨v, rfl⟩, hJ⟩
        refine rangePost_done hJ.loop fun hL2 => ?_
        obtain ⟨ac, has, hfo, hbx, hbl, hsz, _, _⟩ := hJ
        have hac : ac = rootF F 0 k := hfo
        have hbl4 : Below w.heap.size w (W3.putObj (S + 3) (.loop { rr with state := .exhausted, pending := none })) := Below_put hbl (by have := HWS.out; omega) hbl.size
        have hbx4 : Boxed (W3.putObj (S + 3) (.loop { rr with state := .exhausted, pending := none })) S 9 (.string ac) := (World.putObj_heap_other (by omega)).trans hbx
        have hL3 : LoopAt (W3.putObj (S + 3) (.loop { rr with state := .exhausted, pending := none })) (S + 2) (S + 3) rr .exhausted none := hL2
        show Exit.inBlock 4 _ .normal _ (W3.putObj (S + 3) (.loop { rr with state := .exhausted, pending := none }))
        obtain ⟨W4, hW4⟩ : ∃ W4, W3.putObj (S + 3) (.loop { rr with state := .exhausted, pending := none }) = W4 := ⟨_, rfl⟩
        rw [hW4] at hbx4 hbl4 hL3 ⊢
        have e4 := hbx4.cell
        have HL3 := Lib.hid hL3
        have HBL4 := Lib.hid hbl4
        have HAC := Lib.hid hac
        clear hW4 hbx4 hbl4 hL3 hL2 hbx hbl hsz hfo hac hJ0
        go_wp2
        refine ⟨by simp, .inl ⟨_, _, rfl, run_takeDeferred HL3.out.ds, ?_⟩⟩
        refine ⟨.string ac, by simp [results, Tryd.results19, go_sem], ?_⟩
        exact ⟨by rw [HAC.out], Below_put HBL4.out (by have := HWS.out; omega) HBL4.out.size⟩
theorem root_any (p : Option Addr) (n c : Nat) (F : Nat → ByteArray) (w : World) (hn : n ≤ 1000) (hF : ∀ i, i < n → (F i).size ≤ 4000) (hr : ReadsS w p n F) (hT : RoundOk w) :
    Calls Tryd.prog 19 #[.slice p n c] w fun e w' => e = .returned (.string (rootF F 0 n)) ∧ Below w.heap.size w w' := callsIn_wide.1 (root_in p n c F w hn hF hr hT)
end Go.Proofs.YtolhjkbfinlfcaaDoor
