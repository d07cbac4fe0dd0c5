/- The reference of chapter 27: Post. Conditions: a slice of at most 1000 postings that can be read; numbers of 64 bits. -/
import Derived.Test.YtcfplkbbgjiocaaDoorRefClose
namespace Go.Proofs.YtcfplkbbgjiocaaDoor
open Go Go.RowKit Go.Shelf
theorem run_append_zero (w : World) (ty : TypeId) (E c : Nat) (q : Option Addr) :
    (Builtin.append_ #[22, 22] ty #[.slice (some ⟨E, 0, none⟩) 0 0, .slice q 0 c]).run Tryd.prog w = .ok (.slice (some ⟨E, 0, none⟩) 0 0) w := by
  cases q
  all_goals simp [go_sem]
theorem step_app1 {ops : Array Oper} {o : Oper} {a : Act} {K : Act → World → Prop} {Q : Exit → Act → World → Prop} {Z : Prop} (w : World) (hgd : o.guard = none) (s x : Operand)
    (ho : o.op = .call { callee := .builtin .append, args := #[s, x], argTypes := #[22, 22] }) {base E n c : Nat} {q : Option Addr} {g : Nat → Pst}
    (hs : a.eval s = .slice (some ⟨E, 0, none⟩) 0 0) (hown : w.ownsRow base 27 7 (.slice (some ⟨E, 0, none⟩) 0 0) 0 []) (hx : a.eval x = .slice q n c) (hr : ReadsP w q n g) (hn : n ≤ 1000) (hbase : base ≤ w.heap.size)
    (h : ∀ g2 cap w', w'.ownsRow base 27 7 (.slice (some ⟨g2, 0, none⟩) n cap) n (flatP g n) → w.grownBy w' (some E) → K (a.put o.dst (.slice (some ⟨g2, 0, none⟩) n cap)) w') :
    if Region.wanted o (yielded ops a.tmps) = true then Oper.wp Tryd.prog o a w K Q else Z := by
  by_cases h0 : n = 0
  · subst h0
    have hw : Region.wanted o (yielded ops a.tmps) = true := by simp [Region.wanted, hgd]
    rw [if_pos hw]
    unfold Oper.wp execOp
    simp only [ho, resolve, invoke, builtin, Sem.run_bind, Sem.run_pure, Result.andThen_ok, List.map_toArray, List.map_cons, List.map_nil, hs, hx, run_append_zero]
    exact h E 0 w hown (World.grownBy.refl _ _)
  · obtain ⟨i0, hi0, hj0, hj1, hj2⟩ := infoP
    obtain ⟨bq, oq, rfl, _⟩ := hr 0 (by omega)
    refine step_append_lies _ hgd s x 22 ho base 27 i0 (.agg #[.int .i64 0, .int .i64 0, .int .i64 0, .int .i64 0, .int .i64 0, .int .i64 0, .int .i64 0]) 7 56 Tryd.underlying22 hi0 hj0 hj1 hj2 rfl (by decide) (.slice (some ⟨E, 0, none⟩) 0 0) 0 [] hs hown ⟨bq, oq, none⟩ n c (flatP g n) hx (flatP_length g n) (news_of_reads hr) (flatP_one g n) (by omega) (by unfold maxLen; omega) (by omega) hbase _ rfl ?_
    intro g2 cp2 w6 hown1 hgrow1 _ _
    have e : 0 + n = n := Nat.zero_add n
    rw [e, List.nil_append] at hown1
    rw [e]
    exact h g2 cp2 w6 hown1 hgrow1
theorem step_app2 {ops : Array Oper} {o : Oper} {a : Act} {K : Act → World → Prop} {Q : Exit → Act → World → Prop} {Z : Prop} (w : World) (hgd : o.guard = none) (s x : Operand)
    (ho : o.op = .call { callee := .builtin .append, args := #[s, x], argTypes := #[22, 22] }) {base G n c B c1 : Nat} {g : Nat → Pst} {p : Pst} {fr : Nat × Nat}
    (hs : a.eval s = .slice (some ⟨G, 0, none⟩) n c) (hown : w.ownsRow base 27 7 (.slice (some ⟨G, 0, none⟩) n c) n (flatP g n)) (hx : a.eval x = .slice (some ⟨B, 0, none⟩) 1 c1) (hp : w.heap[B]? = some (.cells p.cells 27 fr)) (hn : n ≤ 1000) (hbase : base ≤ w.heap.size)
    (h : ∀ g2 cap w', w'.ownsRow base 27 7 (.slice (some ⟨g2, 0, none⟩) (n + 1) cap) (n + 1) (flatP (snocP g n p) (n + 1)) → w.grownBy w' (some G) → K (a.put o.dst (.slice (some ⟨g2, 0, none⟩) (n + 1) cap)) w') :
    if Region.wanted o (yielded ops a.tmps) = true then Oper.wp Tryd.prog o a w K Q else Z := by
  obtain ⟨i0, hi0, hj0, hj1, hj2⟩ := infoP
  refine step_append_lies _ hgd s x 22 ho base 27 i0 (.agg #[.int .i64 0, .int .i64 0, .int .i64 0, .int .i64 0, .int .i64 0, .int .i64 0, .int .i64 0]) 7 56 Tryd.underlying22 hi0 hj0 hj1 hj2 rfl (by decide) (.slice (some ⟨G, 0, none⟩) n c) n (flatP g n) hs hown ⟨B, 0, none⟩ 1 c1 p.cells.toList hx rfl (World.news_of_block hp) (cells_one p) (by omega) (by unfold maxLen; omega) (by omega) hbase _ rfl ?_
  intro g2 cp2 w6 hown1 hgrow1 _ _
  rw [← snocP_flat] at hown1
  exact h g2 cp2 w6 hown1 hgrow1
set_option maxRecDepth 100000 in
set_option maxHeartbeats 8000000 in
theorem ref_Post_any (teams closed : Int) (q : Option Addr) (n c : Nat) (g : Nat → Pst) (p : Pst) (w : World) (hn : n ≤ 1000) (hr : ReadsP w q n g) :
    Calls Tryd.prog 30 #[.agg #[.int .i64 teams, .slice q n c, .int .i64 closed], .agg p.cells] w (IsPostC w teams closed n g p) := by
  have hb1 := BkBox.new w teams closed (.slice q n c)
  have hal1 : Below w.heap.size w (w.alloc (.cells #[.int .i64 teams, .slice q n c, .int .i64 closed] 24)) := (Below.refl _ _).alloc (Nat.le_refl _) _
  obtain ⟨w1, hw1⟩ : ∃ w1, w.alloc (.cells #[.int .i64 teams, .slice q n c, .int .i64 closed] 24) = w1 := ⟨_, rfl⟩
  have hz1 : w1.heap.size = w.heap.size + 1 := by rw [← hw1, World.size_alloc]
  rw [hw1] at hb1 hal1
  have hal2 : Below w1.heap.size w1 (w1.alloc (.cells p.cells 27)) := (Below.refl _ _).alloc (Nat.le_refl _) _
  have hp2 := PCells.new w1 p 27
  obtain ⟨w2, hw2⟩ : ∃ w2, w1.alloc (.cells p.cells 27) = w2 := ⟨_, rfl⟩
  have hz2 : w2.heap.size = w.heap.size + 2 := by rw [← hw2, World.size_alloc, hz1]
  rw [hw2] at hal2 hp2
  rw [hz1] at hp2
  have hal3 : Below w2.heap.size w2 (w2.alloc (.cells #[.int .i64 0, .slice none 0 0, .int .i64 0] 24)) := (Below.refl _ _).alloc (Nat.le_refl _) _
  have hr3 := BkBox.new w2 0 0 (.slice none 0 0)
  obtain ⟨w3, hw3⟩ : ∃ w3, w2.alloc (.cells #[.int .i64 0, .slice none 0 0, .int .i64 0] 24) = w3 := ⟨_, rfl⟩
  have hz3 : w3.heap.size = w.heap.size + 3 := by rw [← hw3, World.size_alloc, hz2]
  rw [hw3] at hal3 hr3
  rw [hz2] at hr3
  have hb3 := (hb1.below hal2).below hal3
  have hp3 := hp2.below hal3
  have hB3 : Below w.heap.size w w3 := (hal1.trans (hal2.mono hal1.size)).trans (hal3.mono (Nat.le_trans hal1.size hal2.size))
  have hW3 : ((w.alloc (.cells #[.int .i64 teams, .slice q n c, .int .i64 closed] 24)).alloc (.cells p.cells 27)).alloc (.cells #[.int .i64 0, .slice none 0 0, .int .i64 0] 24) = w3 := by rw [hw1, hw2, hw3]
  have hal4 : Below w3.heap.size w3 (w3.alloc (.cells #[.int .i64 teams, .slice q n c, .int .i64 closed] 24)) := (Below.refl _ _).alloc (Nat.le_refl _) _
  have ho4 := BkBox.new w3 teams closed (.slice q n c)
  obtain ⟨w4, hw4⟩ : ∃ w4, w3.alloc (.cells #[.int .i64 teams, .slice q n c, .int .i64 closed] 24) = w4 := ⟨_, rfl⟩
  have hz4 : w4.heap.size = w.heap.size + 4 := by rw [← hw4, World.size_alloc, hz3]
  rw [hw4] at hal4 ho4
  rw [hz3] at ho4
  have hb4 := hb3.below hal4
  have hp4 := hp3.below hal4
  have hr4 := hr3.below hal4
  have hB4 := hB3.trans (hal4.mono hB3.size)
  have hrd4 := hr.below hB4
  have HW := Lib.hid (show _ = w4 from (congrArg (fun W => World.alloc W (.cells #[.int .i64 teams, .slice q n c, .int .i64 closed] 24)) hW3).trans hw4)
  have HB4 := Lib.hid hB4
  have HZ4 := Lib.hid hz4
  have HO4 := Lib.hid ho4
  have HR4 := Lib.hid hr4
  have HBK4 := Lib.hid hb4
  have HP4 := Lib.hid hp4
  have HRD4 := Lib.hid hrd4
  have HRD0 := Lib.hid hr
  obtain ⟨b0, b1, b2⟩ := hb4.cells
  obtain ⟨q0, q1, q2, q3, q4, q5, q6⟩ := hp4
  obtain ⟨o0, o1, o2⟩ := ho4.cells
  have k1 := ho4.free 1
  have HV0 := Lib.hid (fun W (h : ReadsP W q n g) => ref_valid_any teams closed q n c g W (by unfold maxLen; omega) h)
  clear hr hb1 hal1 hw1 hz1 hal2 hp2 hw2 hz2 hal3 hr3 hw3 hz3 hb3 hp3 hB3 hW3 hal4 ho4 hw4 hz4 hb4 hr4 hB4 hrd4
  go_enter Tryd.func30, Tryd.ntmps30
  go_upto_region 2 with fail
  obtain ⟨S, hS⟩ : ∃ S, w.heap.size = S := ⟨_, rfl⟩
  have HS := Lib.hid hS
  rw [hS] at HR4 HBK4 HP4 HZ4 HO4 b0 b1 b2 o0 o1 o2 k1 q0 q1 q2 q3 q4 q5 q6
  rw [HW.out, hS]
  clear hS HW
  have hks : ∀ W, Below w4.heap.size w4 W → (W.cell? ⟨S, 1, none⟩ = some (.slice q n c) ∧ W.cell? ⟨S + 1, 0, none⟩ = some (.int .i64 p.kind) ∧ W.cell? ⟨S + 1, 1, none⟩ = some (.int .i64 p.day) ∧ W.cell? ⟨S + 1, 2, none⟩ = some (.int .i64 p.deb) ∧ W.cell? ⟨S + 1, 3, none⟩ = some (.int .i64 p.cre) ∧ W.cell? ⟨S + 1, 4, none⟩ = some (.int .i64 p.amt) ∧ W.cell? ⟨S + 1, 5, none⟩ = some (.int .i64 p.sub) ∧ W.cell? ⟨S + 1, 6, none⟩ = some (.int .i64 p.of)) := fun W hb => by
    obtain ⟨z0, z1, z2, z3, z4, z5, z6⟩ := HP4.out.below hb
    exact ⟨(HBK4.out.below hb).cells.2.1, z0, z1, z2, z3, z4, z5, z6⟩
  have HKS := Lib.hid hks
  have hkt : ∀ W v, Below w4.heap.size w4 W → ((W.setCell ⟨S + 3, 1, none⟩ v).cell? ⟨S, 1, none⟩ = some (.slice q n c) ∧ (W.setCell ⟨S + 3, 1, none⟩ v).cell? ⟨S + 1, 0, none⟩ = some (.int .i64 p.kind) ∧ (W.setCell ⟨S + 3, 1, none⟩ v).cell? ⟨S + 1, 1, none⟩ = some (.int .i64 p.day) ∧ (W.setCell ⟨S + 3, 1, none⟩ v).cell? ⟨S + 1, 2, none⟩ = some (.int .i64 p.deb) ∧ (W.setCell ⟨S + 3, 1, none⟩ v).cell? ⟨S + 1, 3, none⟩ = some (.int .i64 p.cre) ∧ (W.setCell ⟨S + 3, 1, none⟩ v).cell? ⟨S + 1, 4, none⟩ = some (.int .i64 p.amt) ∧ (W.setCell ⟨S + 3, 1, none⟩ v).cell? ⟨S + 1, 5, none⟩ = some (.int .i64 p.sub) ∧ (W.setCell ⟨S + 3, 1, none⟩ v).cell? ⟨S + 1, 6, none⟩ = some (.int .i64 p.of)) := fun W v hb => by
    obtain ⟨z0, z1, z2, z3, z4, z5, z6⟩ := (HP4.out.below hb).far (B := S + 3) (by omega) 1 v
    exact ⟨((HBK4.out.below hb).other (by omega) v).cells.2.1, z0, z1, z2, z3, z4, z5, z6⟩
  have HKT := Lib.hid hkt
  clear hks hkt
  go_cut [] (fun wx => ∃ (g3 c3 : Nat), BkBox wx (S + 3) teams (.slice (some ⟨g3, 0, none⟩) (n + 1) c3) closed ∧ ReadsP wx (some ⟨g3, 0, none⟩) (n + 1) (snocP g n p) ∧ S + 3 < g3 ∧ n + 1 ≤ c3 ∧ Below (S + 3) w4 wx)
  case first =>
    refine wp_region_held_drew (S := (fun W => W.cell? ⟨S, 1, none⟩ = some (.slice q n c) ∧ W.cell? ⟨S + 1, 0, none⟩ = some (.int .i64 p.kind) ∧ W.cell? ⟨S + 1, 1, none⟩ = some (.int .i64 p.day) ∧ W.cell? ⟨S + 1, 2, none⟩ = some (.int .i64 p.deb) ∧ W.cell? ⟨S + 1, 3, none⟩ = some (.int .i64 p.cre) ∧ W.cell? ⟨S + 1, 4, none⟩ = some (.int .i64 p.amt) ∧ W.cell? ⟨S + 1, 5, none⟩ = some (.int .i64 p.sub) ∧ W.cell? ⟨S + 1, 6, none⟩ = some (.int .i64 p.of))) (by kernel_rfl) ?_ (fun hHeld => ?_)
    · exact ⟨b1, q0, q1, q2, q3, q4, q5, q6⟩
    refine wpAnyH_take (i := 1) (v := ?_) rfl (by kernel_rfl) (by kernel_rfl) (by kernel_rfl) (fun _ _ _ h => h) (Or.inl ⟨by rfl, ?_⟩) (by assumption) ?_
    rotate_left
    · intro w hSw
      try dsimp only at hSw
      go_simp
      all_goals with_reducible rfl
    try simp only [Act.put, List.getElem_toArray, List.getElem_cons_succ, List.getElem_cons_zero, List.setIfInBounds_toArray, List.set_cons_zero, List.set_cons_succ]
    refine wpAnyH_take (i := 2) (v := ?_) rfl (by kernel_rfl) (by kernel_rfl) (by kernel_rfl) (fun _ _ _ h => h) (Or.inl ⟨by rfl, ?_⟩) (by assumption) ?_
    rotate_left
    · intro w hSw
      try dsimp only at hSw
      go_simp
      all_goals with_reducible rfl
    try simp only [Act.put, List.getElem_toArray, List.getElem_cons_succ, List.getElem_cons_zero, List.setIfInBounds_toArray, List.set_cons_zero, List.set_cons_succ]
    refine wpAnyH_take (i := 4) (v := ?_) rfl (by kernel_rfl) (by kernel_rfl) (by kernel_rfl) (fun _ _ _ h => h) (Or.inl ⟨by rfl, ?_⟩) (by assumption) ?_
    rotate_left
    · intro w hSw
      try dsimp only at hSw
      go_simp
      all_goals with_reducible rfl
    try simp only [Act.put, List.getElem_toArray, List.getElem_cons_succ, List.getElem_cons_zero, List.setIfInBounds_toArray, List.set_cons_zero, List.set_cons_succ]
    refine wpAnyH_ready (rs := [0, 5]) (by kernel_rfl) (by simp) ?_
    refine (AllReadyH.cons rfl (fun K hK => ?_) (AllReadyH.cons rfl (fun K hK => ?_) AllReadyH.nil))
    · skip
      go_simp
      have hown1 : (w4.alloc (.cells #[] 27)).drew.ownsRow w4.heap.size 27 7 (.slice (some ⟨w4.heap.size, 0, none⟩) 0 0) 0 [] := emptyP_own w4
      have hbl1 : Below w4.heap.size w4 (w4.alloc (.cells #[] 27)).drew := ((Below.refl _ _).alloc (Nat.le_refl _) _).drew
      have hba1 : w4.heap.size ≤ (w4.alloc (.cells #[] 27)).drew.heap.size := hbl1.size
      have hlb1 : w4.heap.size ≤ w4.heap.size := Nat.le_refl _
      refine hK.out _ _ ?_ (fun hHeld2 => ?_)
      · exact HKS.out _ hbl1
      clear hK K hHeld
      have hHeld := hHeld2
      clear hHeld2
      try simp only [Act.put, List.getElem_toArray, List.getElem_cons_succ, List.getElem_cons_zero, List.setIfInBounds_toArray, List.set_cons_zero, List.set_cons_succ]
      refine wpAnyH_ready (rs := [3, 5]) (by kernel_rfl) (by simp) ?_
      refine (AllReadyH.cons rfl (fun K hK => ?_) (AllReadyH.cons rfl (fun K hK => ?_) AllReadyH.nil))
      · skip
        refine step_app1 (q := q) (n := n) (c := c) (g := g) _ rfl (.tmp 9) (.tmp 11) rfl (by rfl) hown1 (by rfl) (HRD4.out.below hbl1) hn hba1 ?_
        intro g2 c2 w6 hown6 hgrow6
        have hbl6 := hbl1.grown hgrow6 hbl1.size (fun k e => by cases e; exact hlb1)
        have hbase6 := Nat.le_trans hba1 hgrow6.size
        have hlow6 := Nat.le_trans hlb1 (hown6.lt g2 rfl).1
        refine hK.out _ _ ?_ (fun hHeld2 => ?_)
        · exact HKS.out _ hbl6
        clear hK K hHeld
        have hHeld := hHeld2
        clear hHeld2
        try simp only [Act.put, List.getElem_toArray, List.getElem_cons_succ, List.getElem_cons_zero, List.setIfInBounds_toArray, List.set_cons_zero, List.set_cons_succ]
        refine wpAnyH_ready (rs := [5]) (by kernel_rfl) (by simp) ?_
        refine (AllReadyH.cons rfl (fun K hK => ?_) AllReadyH.nil)
        · skip
          go_simp
          have hpc6 := World.alloc_heap_new w6 (.cells p.cells 27)
          have hown8 := hown6.alloc (.cells p.cells 27)
          have hbl8 := hbl6.alloc hbl6.size (.cells p.cells 27)
          have hbase8 := Nat.le_trans hbase6 (show w6.heap.size ≤ (w6.alloc (.cells p.cells 27)).heap.size by rw [World.size_alloc]; exact Nat.le_succ _)
          clear hown6 hbl6 hbase6
          have hown6 := hown8
          have hbl6 := hbl8
          have hbase6 := hbase8
          clear hown8 hbl8 hbase8
          refine hK.out _ _ ?_ (fun hHeld2 => ?_)
          · exact HKS.out _ hbl6
          clear hK K hHeld
          have hHeld := hHeld2
          clear hHeld2
          try simp only [Act.put, List.getElem_toArray, List.getElem_cons_succ, List.getElem_cons_zero, List.setIfInBounds_toArray, List.set_cons_zero, List.set_cons_succ]
          refine wpAnyH_ready (rs := [6]) (by kernel_rfl) (by simp) ?_
          refine (AllReadyH.cons rfl (fun K hK => ?_) AllReadyH.nil)
          refine step_app2 (n := n) (c1 := 1) (p := p) (g := g) _ rfl (.tmp 12) (.tmp 14) rfl (by rfl) hown6 (by rfl) hpc6 (by omega) hbase6 ?_
          intro g3 c3 w7 hown7 hgrow7
          have hb7 := hbl6.grown hgrow7 hbl6.size (fun k e => by cases e; exact hlow6)
          refine hK.out _ _ ?_ (fun hHeld2 => ?_)
          · exact HKS.out _ hb7
          clear hK K hHeld
          have hHeld := hHeld2
          clear hHeld2
          try simp only [Act.put, List.getElem_toArray, List.getElem_cons_succ, List.getElem_cons_zero, List.setIfInBounds_toArray, List.set_cons_zero, List.set_cons_succ]
          refine wpAnyH_take (i := 7) (v := ?_) rfl (by kernel_rfl) (by kernel_rfl) (by kernel_rfl) (fun _ _ _ h => h) (Or.inl ⟨by rfl, ?_⟩) (by assumption) ?_
          rotate_left
          · intro w hSw
            try dsimp only at hSw
            go_simp
            all_goals with_reducible rfl
          try simp only [Act.put, List.getElem_toArray, List.getElem_cons_succ, List.getElem_cons_zero, List.setIfInBounds_toArray, List.set_cons_zero, List.set_cons_succ]
          refine wpAnyH_ready (rs := [8]) (by kernel_rfl) (by simp) ?_
          refine (AllReadyH.cons rfl (fun K hK => ?_) AllReadyH.nil)
          have hx7 := HO4.out.below hb7
          have ho1 := hx7.cells.2.1
          have ho2 := hx7.free 1
          obtain ⟨pp, cc, he, hrd, hpb⟩ := own_readsP hown7
          cases he
          have hlow8 : S + 3 < g3 := by have h1 := (hown7.lt g3 rfl).1; have h2 := HZ4.out; have h3 := hlb1; omega
          have rd8 := readsP_far hrd (b := S + 3) (fun a h => by cases h; exact hlow8) 1 (.slice (some ⟨g3, 0, none⟩) (n + 1) c3)
          have bl8 := Below_set (hb7.mono (show S + 3 ≤ w4.heap.size by have := HZ4.out; omega)) (b := S + 3) (i := 1) (Nat.le_refl _) (.slice (some ⟨g3, 0, none⟩) (n + 1) c3)
          clear hrd hpb
          go_simp
          refine hK.out _ _ ?_ (fun hHeld2 => ?_)
          · exact HKT.out _ _ hb7
          clear hK K hHeld
          have hHeld := hHeld2
          clear hHeld2
          try simp only [Act.put, List.getElem_toArray, List.getElem_cons_succ, List.getElem_cons_zero, List.setIfInBounds_toArray, List.set_cons_zero, List.set_cons_succ]
          refine wpAnyH_done (by kernel_rfl) ?_ _
          go_wp2_with fail
          go_meet
          exact ⟨g3, c3, hx7.setV _, rd8, hlow8, own_capP hown7, bl8⟩
      · skip
        go_simp
        have hpc1 : ((w4.alloc (.cells #[] 27)).alloc (.cells p.cells 27)).drew.heap[w4.heap.size + 1]? = some (.cells p.cells 27 (0, 0)) := by have h := World.alloc_heap_new (w4.alloc (.cells #[] 27)) (.cells p.cells 27); rw [World.size_alloc] at h; exact h
        have hown2 : ((w4.alloc (.cells #[] 27)).alloc (.cells p.cells 27)).drew.ownsRow w4.heap.size 27 7 (.slice (some ⟨w4.heap.size, 0, none⟩) 0 0) 0 [] := (emptyP_own w4).alloc (.cells p.cells 27)
        have hbl2 : Below w4.heap.size w4 ((w4.alloc (.cells #[] 27)).alloc (.cells p.cells 27)).drew := ((((Below.refl _ _).alloc (Nat.le_refl _) _) : Below w4.heap.size w4 (w4.alloc (.cells #[] 27))).alloc (by rw [World.size_alloc]; exact Nat.le_succ _) _).drew
        clear hown1 hbl1 hba1
        have hown1 := hown2
        have hbl1 := hbl2
        have hba1 := hbl2.size
        clear hown2 hbl2
        refine hK.out _ _ ?_ (fun hHeld2 => ?_)
        · exact HKS.out _ hbl1
        clear hK K hHeld
        have hHeld := hHeld2
        clear hHeld2
        try simp only [Act.put, List.getElem_toArray, List.getElem_cons_succ, List.getElem_cons_zero, List.setIfInBounds_toArray, List.set_cons_zero, List.set_cons_succ]
        refine wpAnyH_ready (rs := [3]) (by kernel_rfl) (by simp) ?_
        refine (AllReadyH.cons rfl (fun K hK => ?_) AllReadyH.nil)
        · skip
          refine step_app1 (q := q) (n := n) (c := c) (g := g) _ rfl (.tmp 9) (.tmp 11) rfl (by rfl) hown1 (by rfl) (HRD4.out.below hbl1) hn hba1 ?_
          intro g2 c2 w6 hown6 hgrow6
          have hbl6 := hbl1.grown hgrow6 hbl1.size (fun k e => by cases e; exact hlb1)
          have hbase6 := Nat.le_trans hba1 hgrow6.size
          have hlow6 := Nat.le_trans hlb1 (hown6.lt g2 rfl).1
          have hpc6 := (hgrow6.block (w4.heap.size + 1) (Array.getElem?_eq_some_iff.1 hpc1).1 (by simp)).trans hpc1
          refine hK.out _ _ ?_ (fun hHeld2 => ?_)
          · exact HKS.out _ hbl6
          clear hK K hHeld
          have hHeld := hHeld2
          clear hHeld2
          try simp only [Act.put, List.getElem_toArray, List.getElem_cons_succ, List.getElem_cons_zero, List.setIfInBounds_toArray, List.set_cons_zero, List.set_cons_succ]
          refine wpAnyH_ready (rs := [6]) (by kernel_rfl) (by simp) ?_
          refine (AllReadyH.cons rfl (fun K hK => ?_) AllReadyH.nil)
          refine step_app2 (n := n) (c1 := 1) (p := p) (g := g) _ rfl (.tmp 12) (.tmp 14) rfl (by rfl) hown6 (by rfl) hpc6 (by omega) hbase6 ?_
          intro g3 c3 w7 hown7 hgrow7
          have hb7 := hbl6.grown hgrow7 hbl6.size (fun k e => by cases e; exact hlow6)
          refine hK.out _ _ ?_ (fun hHeld2 => ?_)
          · exact HKS.out _ hb7
          clear hK K hHeld
          have hHeld := hHeld2
          clear hHeld2
          try simp only [Act.put, List.getElem_toArray, List.getElem_cons_succ, List.getElem_cons_zero, List.setIfInBounds_toArray, List.set_cons_zero, List.set_cons_succ]
          refine wpAnyH_take (i := 7) (v := ?_) rfl (by kernel_rfl) (by kernel_rfl) (by kernel_rfl) (fun _ _ _ h => h) (Or.inl ⟨by rfl, ?_⟩) (by assumption) ?_
          rotate_left
          · intro w hSw
            try dsimp only at hSw
            go_simp
            all_goals with_reducible rfl
          try simp only [Act.put, List.getElem_toArray, List.getElem_cons_succ, List.getElem_cons_zero, List.setIfInBounds_toArray, List.set_cons_zero, List.set_cons_succ]
          refine wpAnyH_ready (rs := [8]) (by kernel_rfl) (by simp) ?_
          refine (AllReadyH.cons rfl (fun K hK => ?_) AllReadyH.nil)
          have hx7 := HO4.out.below hb7
          have ho1 := hx7.cells.2.1
          have ho2 := hx7.free 1
          obtain ⟨pp, cc, he, hrd, hpb⟩ := own_readsP hown7
          cases he
          have hlow8 : S + 3 < g3 := by have h1 := (hown7.lt g3 rfl).1; have h2 := HZ4.out; have h3 := hlb1; omega
          have rd8 := readsP_far hrd (b := S + 3) (fun a h => by cases h; exact hlow8) 1 (.slice (some ⟨g3, 0, none⟩) (n + 1) c3)
          have bl8 := Below_set (hb7.mono (show S + 3 ≤ w4.heap.size by have := HZ4.out; omega)) (b := S + 3) (i := 1) (Nat.le_refl _) (.slice (some ⟨g3, 0, none⟩) (n + 1) c3)
          clear hrd hpb
          go_simp
          refine hK.out _ _ ?_ (fun hHeld2 => ?_)
          · exact HKT.out _ _ hb7
          clear hK K hHeld
          have hHeld := hHeld2
          clear hHeld2
          try simp only [Act.put, List.getElem_toArray, List.getElem_cons_succ, List.getElem_cons_zero, List.setIfInBounds_toArray, List.set_cons_zero, List.set_cons_succ]
          refine wpAnyH_done (by kernel_rfl) ?_ _
          go_wp2_with fail
          go_meet
          exact ⟨g3, c3, hx7.setV _, rd8, hlow8, own_capP hown7, bl8⟩
    · skip
      go_simp
      have hbl0 : Below w4.heap.size w4 (w4.alloc (.cells p.cells 27)) := (Below.refl _ _).alloc (Nat.le_refl _) _
      refine hK.out _ _ ?_ (fun hHeld2 => ?_)
      · exact HKS.out _ hbl0.drew
      clear hK K hHeld
      have hHeld := hHeld2
      clear hHeld2
      try simp only [Act.put, List.getElem_toArray, List.getElem_cons_succ, List.getElem_cons_zero, List.setIfInBounds_toArray, List.set_cons_zero, List.set_cons_succ]
      refine wpAnyH_ready (rs := [0]) (by kernel_rfl) (by simp) ?_
      refine (AllReadyH.cons rfl (fun K hK => ?_) AllReadyH.nil)
      · skip
        go_simp
        have hown1 : ((w4.alloc (.cells p.cells 27)).alloc (.cells #[] 27)).drew.ownsRow (w4.heap.size + 1) 27 7 (.slice (some ⟨w4.heap.size + 1, 0, none⟩) 0 0) 0 [] := by have h := emptyP_own (w4.alloc (.cells p.cells 27)); rw [World.size_alloc] at h; exact h
        have hbl1 : Below w4.heap.size w4 ((w4.alloc (.cells p.cells 27)).alloc (.cells #[] 27)).drew := (hbl0.alloc hbl0.size (.cells #[] 27)).drew
        have hpc1 : ((w4.alloc (.cells p.cells 27)).alloc (.cells #[] 27)).drew.heap[w4.heap.size]? = some (.cells p.cells 27 (0, 0)) := ((World.grownBy_alloc (w4.alloc (.cells p.cells 27)) (.cells #[] 27) none).block w4.heap.size (by rw [World.size_alloc]; exact Nat.lt_succ_self _) (by simp)).trans (World.alloc_heap_new w4 _)
        have hba1 : w4.heap.size + 1 ≤ ((w4.alloc (.cells p.cells 27)).alloc (.cells #[] 27)).drew.heap.size := by show _ ≤ (World.alloc (w4.alloc (.cells p.cells 27)) (.cells #[] 27)).heap.size; rw [World.size_alloc, World.size_alloc]; exact Nat.le_succ _
        have hlb1 : w4.heap.size ≤ w4.heap.size + 1 := Nat.le_succ _
        refine hK.out _ _ ?_ (fun hHeld2 => ?_)
        · exact HKS.out _ hbl1
        clear hK K hHeld
        have hHeld := hHeld2
        clear hHeld2
        try simp only [Act.put, List.getElem_toArray, List.getElem_cons_succ, List.getElem_cons_zero, List.setIfInBounds_toArray, List.set_cons_zero, List.set_cons_succ]
        refine wpAnyH_ready (rs := [3]) (by kernel_rfl) (by simp) ?_
        refine (AllReadyH.cons rfl (fun K hK => ?_) AllReadyH.nil)
        · skip
          refine step_app1 (q := q) (n := n) (c := c) (g := g) _ rfl (.tmp 9) (.tmp 11) rfl (by rfl) hown1 (by rfl) (HRD4.out.below hbl1) hn hba1 ?_
          intro g2 c2 w6 hown6 hgrow6
          have hbl6 := hbl1.grown hgrow6 hbl1.size (fun k e => by cases e; exact hlb1)
          have hbase6 := Nat.le_trans hba1 hgrow6.size
          have hlow6 := Nat.le_trans hlb1 (hown6.lt g2 rfl).1
          have hpc6 := (hgrow6.block w4.heap.size (Array.getElem?_eq_some_iff.1 hpc1).1 (by simp)).trans hpc1
          refine hK.out _ _ ?_ (fun hHeld2 => ?_)
          · exact HKS.out _ hbl6
          clear hK K hHeld
          have hHeld := hHeld2
          clear hHeld2
          try simp only [Act.put, List.getElem_toArray, List.getElem_cons_succ, List.getElem_cons_zero, List.setIfInBounds_toArray, List.set_cons_zero, List.set_cons_succ]
          refine wpAnyH_ready (rs := [6]) (by kernel_rfl) (by simp) ?_
          refine (AllReadyH.cons rfl (fun K hK => ?_) AllReadyH.nil)
          refine step_app2 (n := n) (c1 := 1) (p := p) (g := g) _ rfl (.tmp 12) (.tmp 14) rfl (by rfl) hown6 (by rfl) hpc6 (by omega) hbase6 ?_
          intro g3 c3 w7 hown7 hgrow7
          have hb7 := hbl6.grown hgrow7 hbl6.size (fun k e => by cases e; exact hlow6)
          refine hK.out _ _ ?_ (fun hHeld2 => ?_)
          · exact HKS.out _ hb7
          clear hK K hHeld
          have hHeld := hHeld2
          clear hHeld2
          try simp only [Act.put, List.getElem_toArray, List.getElem_cons_succ, List.getElem_cons_zero, List.setIfInBounds_toArray, List.set_cons_zero, List.set_cons_succ]
          refine wpAnyH_take (i := 7) (v := ?_) rfl (by kernel_rfl) (by kernel_rfl) (by kernel_rfl) (fun _ _ _ h => h) (Or.inl ⟨by rfl, ?_⟩) (by assumption) ?_
          rotate_left
          · intro w hSw
            try dsimp only at hSw
            go_simp
            all_goals with_reducible rfl
          try simp only [Act.put, List.getElem_toArray, List.getElem_cons_succ, List.getElem_cons_zero, List.setIfInBounds_toArray, List.set_cons_zero, List.set_cons_succ]
          refine wpAnyH_ready (rs := [8]) (by kernel_rfl) (by simp) ?_
          refine (AllReadyH.cons rfl (fun K hK => ?_) AllReadyH.nil)
          have hx7 := HO4.out.below hb7
          have ho1 := hx7.cells.2.1
          have ho2 := hx7.free 1
          obtain ⟨pp, cc, he, hrd, hpb⟩ := own_readsP hown7
          cases he
          have hlow8 : S + 3 < g3 := by have h1 := (hown7.lt g3 rfl).1; have h2 := HZ4.out; have h3 := hlb1; omega
          have rd8 := readsP_far hrd (b := S + 3) (fun a h => by cases h; exact hlow8) 1 (.slice (some ⟨g3, 0, none⟩) (n + 1) c3)
          have bl8 := Below_set (hb7.mono (show S + 3 ≤ w4.heap.size by have := HZ4.out; omega)) (b := S + 3) (i := 1) (Nat.le_refl _) (.slice (some ⟨g3, 0, none⟩) (n + 1) c3)
          clear hrd hpb
          go_simp
          refine hK.out _ _ ?_ (fun hHeld2 => ?_)
          · exact HKT.out _ _ hb7
          clear hK K hHeld
          have hHeld := hHeld2
          clear hHeld2
          try simp only [Act.put, List.getElem_toArray, List.getElem_cons_succ, List.getElem_cons_zero, List.setIfInBounds_toArray, List.set_cons_zero, List.set_cons_succ]
          refine wpAnyH_done (by kernel_rfl) ?_ _
          go_wp2_with fail
          go_meet
          exact ⟨g3, c3, hx7.setV _, rd8, hlow8, own_capP hown7, bl8⟩
  case rest =>
    obtain ⟨g3, c3, hx, hrd, hlow, hcap, hbc⟩ := hcut
    have HCAP := Lib.hid hcap
    clear hcap
    have hBc := HB4.out.trans (hbc.mono (by have := HS.out; omega))
    have hrc := HRD0.out.below hBc
    have bb := HBK4.out.low hbc (by omega)
    have rr := HR4.out.low hbc (by omega)
    have pd := (hbc.cell (p := ⟨S + 1, 1, none⟩) (show S + 1 < S + 3 by omega)).trans q1
    have hsz : S + 3 < wc.heap.size := hx.lt
    clear b0 b1 b2 o0 o1 o2 k1 q0 q1 q2 q3 q4 q5 q6
    obtain ⟨b0, b1, b2⟩ := bb.cells
    have HBC := Lib.hid hBc
    have HX := Lib.hid hx
    have HRD := Lib.hid hrd
    have HBB := Lib.hid bb
    have HRR := Lib.hid rr
    have HPD := Lib.hid pd
    have HV1 := Lib.hid (HV0.out wc hrc)
    have HV2 := Lib.hid (fun W (h : ReadsP W (some ⟨g3, 0, none⟩) (n + 1) (snocP g n p)) => ref_valid_any teams closed (some ⟨g3, 0, none⟩) (n + 1) c3 (snocP g n p) W (by unfold maxLen; omega) h)
    clear hrc hBc hbc hx hrd bb rr pd HKS HKT HV0
    go_wp2_with fail
    refine HV1.out.mono ?_
    rintro e w5 ⟨⟨r, rfl, hiff⟩, hb5⟩
    clear b0 b1 b2
    have hx5 := HX.out.below hb5
    have hr5 := HRR.out.below hb5
    have hbb5 := HBB.out.below hb5
    have hpd5 := (hb5.cell (p := ⟨S + 1, 1, none⟩) (show S + 1 < wc.heap.size by omega)).trans HPD.out
    have HRD5 := Lib.hid (HRD.out.below hb5)
    have HB5 := Lib.hid (HBC.out.trans (hb5.mono HBC.out.size))
    have HIFF := Lib.hid hiff
    have hsz5 : S + 3 < w5.heap.size := hx5.lt
    obtain ⟨o0, o1, o2⟩ := hx5.cells
    obtain ⟨r0, r1, r2⟩ := hr5.cells
    have f0 := hr5.free 0
    have f1 := hr5.free 1
    have f2 := hr5.free 2
    have HBZ := Lib.hid (below_three HB5.out (b := S + 2) (by have := HS.out; omega) (.int .i64 0) (.slice none 0 0) (.int .i64 0))
    have HX5 := Lib.hid hx5
    have HR5 := Lib.hid hr5
    have HBB5 := Lib.hid hbb5
    have HPD5 := Lib.hid hpd5
    clear hiff hb5 hx5 hr5 hbb5 hpd5
    cases r with
    | false =>
      have HNO : Hid (¬ PostGood teams closed n g p) := Lib.hid (fun h => by have := HIFF.out.2 h.1; simp at this)
      go_wp2_with fail
      refine bodyPost_ret (v := .tuple #[.agg #[.int .i64 0, .slice none 0 0, .int .i64 0], .int .i64 0, .int .i64 270]) (by simp [results, Tryd.results30, go_sem, r0, r1, r2]) rfl ?_
      exact IsPostC.bad HNO.out rfl HBZ.out
    | true =>
      have hok : BookOk teams closed n g := HIFF.out.1 (by trivial)
      have HOK := Lib.hid hok
      have hm : IntKind.i64.wrap (30 * closed) = 30 * closed := by
        have := hok.1.2
        unfold within at this
        exact IntWalk.i64_in _ (by omega)
      clear hok
      go_wp2_with fail
      refine (HV2.out w5 HRD5.out).mono ?_
      rintro e w6 ⟨⟨r, rfl, hiff⟩, hb6⟩
      clear o0 o1 o2 r0 r1 r2 f0 f1 f2
      have hx6 := HX5.out.below hb6
      have hr6 := HR5.out.below hb6
      have hbb6 := HBB5.out.below hb6
      have hpd6 := (hb6.cell (p := ⟨S + 1, 1, none⟩) (show S + 1 < w5.heap.size by omega)).trans HPD5.out
      have HRD6 := Lib.hid (HRD5.out.below hb6)
      have HB6 := Lib.hid (HB5.out.trans (hb6.mono HB5.out.size))
      have HIFF6 := Lib.hid hiff
      obtain ⟨o0, o1, o2⟩ := hx6.cells
      obtain ⟨r0, r1, r2⟩ := hr6.cells
      obtain ⟨b0, b1, b2⟩ := hbb6.cells
      have f0 := hr6.free 0
      have f1 := hr6.free 1
      have f2 := hr6.free 2
      have HBZ := Lib.hid (below_three HB6.out (b := S + 2) (by have := HS.out; omega) (.int .i64 0) (.slice none 0 0) (.int .i64 0))
      clear hiff hb6 hx6 hr6 hbb6
      cases r with
      | false =>
        have HNO : Hid (¬ PostGood teams closed n g p) := Lib.hid (fun h => by have := HIFF6.out.2 (bookOk_snoc.2 ⟨h.1, h.2.2⟩); simp at this)
        go_wp2_with fail
        refine bodyPost_ret (v := .tuple #[.agg #[.int .i64 0, .slice none 0 0, .int .i64 0], .int .i64 0, .int .i64 270]) (by simp [results, Tryd.results30, go_sem, r0, r1, r2]) rfl ?_
        exact IsPostC.bad HNO.out rfl HBZ.out
      | true =>
        have hok6 := bookOk_snoc.1 (HIFF6.out.1 (by trivial))
        have HOK6 := Lib.hid hok6
        clear hok6
        by_cases hd : p.day < 30 * closed
        · have e1 : decide (p.day < 30 * closed) = true := decide_eq_true hd
          have HNO : Hid (¬ PostGood teams closed n g p) := Lib.hid (fun h => by have := h.2.1; omega)
          clear hd
          go_wp2_with fail
          refine bodyPost_ret (v := .tuple #[.agg #[.int .i64 0, .slice none 0 0, .int .i64 0], .int .i64 0, .int .i64 270]) (by simp [results, Tryd.results30, go_sem, r0, r1, r2]) rfl ?_
          exact IsPostC.bad HNO.out rfl HBZ.out
        · have e1 : decide (p.day < 30 * closed) = false := decide_eq_false hd
          have HPG : Hid (PostGood teams closed n g p) := Lib.hid ⟨HOK.out, by omega, HOK6.out.2⟩
          have HRDF := Lib.hid (readsP_three HRD6.out (b := S + 2) (fun a h => by cases h; show S + 2 < g3; omega) (.int .i64 teams) (.slice (some ⟨g3, 0, none⟩) (n + 1) c3) (.int .i64 closed))
          have HBF := Lib.hid (below_three HB6.out (b := S + 2) (by have := HS.out; omega) (.int .i64 teams) (.slice (some ⟨g3, 0, none⟩) (n + 1) c3) (.int .i64 closed))
          clear hd
          go_wp2_with fail
          go_region
          all_goals (try go_wp2_with fail)
          refine bodyPost_ret (v := .tuple #[.agg #[.int .i64 teams, .slice (some ⟨g3, 0, none⟩) (n + 1) c3, .int .i64 closed], .int .i64 n, .int .i64 0]) (by simp [results, Tryd.results30, go_sem, r0, r1, r2]) rfl ?_
          exact ⟨teams, closed, _, n + 1, c3, snocP g n p, n, 0, rfl, .inl ⟨HPG.out, rfl, rfl, rfl, rfl, rfl, fun i _ => rfl⟩, HRDF.out, (fun a h => by cases h; have := HS.out; show _ ≤ g3; omega), HCAP.out, HBF.out.drew⟩
end Go.Proofs.YtcfplkbbgjiocaaDoor
