/- The reference of chapter 27: Valid. Conditions: a slice of postings that can be read. -/
import Derived.Test.YtcfplkbbgjiocaaDoorBookOpen
import Derived.Test.YtcfplkbbgjiocaaDoorOwn
namespace Go.Proofs.YtcfplkbbgjiocaaDoor
open Go Go.RowKit Go.Shelf
/-- Bools of the call's own. -/
def BoolsAt (W : World) (G n : Nat) (bk : Nat → Bool) : Prop := ∃ cs : Array Value, W.heap[G]? = some (.cells cs 4 (0, 0)) ∧ ∀ i, i < n → cs[i]? = some (.bool (bk i))
section
variable {W W' : World} {G n : Nat} {bk bk' : Nat → Bool}
theorem BoolsAt.lt (h : BoolsAt W G n bk) : G < W.heap.size := by
  obtain ⟨cs, h, _⟩ := h
  exact (Array.getElem?_eq_some_iff.1 h).1
theorem BoolsAt.cell (h : BoolsAt W G n bk) (i : Nat) (hi : i < n) : W.cell? ⟨G, i, none⟩ = some (.bool (bk i)) := by
  obtain ⟨cs, h, hc⟩ := h
  unfold World.cell?
  simp only [h]
  exact hc i hi
theorem BoolsAt.free (h : BoolsAt W G n bk) (i : Nat) : W.frozen? ⟨G, i, none⟩ = false := by
  obtain ⟨cs, h, _⟩ := h
  unfold World.frozen?
  rw [h]
  simp
theorem BoolsAt.below (h : BoolsAt W G n bk) (hb : Below W.heap.size W W') : BoolsAt W' G n bk := by
  have hl := h.lt
  obtain ⟨cs, h, hc⟩ := h
  exact ⟨cs, (hb.block _ hl).trans h, hc⟩
theorem BoolsAt.congr (h : BoolsAt W G n bk) (e : ∀ i, i < n → bk' i = bk i) : BoolsAt W G n bk' := by
  obtain ⟨cs, h, hc⟩ := h
  exact ⟨cs, h, fun i hi => by rw [hc i hi, e i hi]⟩
theorem BoolsAt.set (h : BoolsAt W G n bk) (j : Nat) (hj : j < n) (x : Bool) : BoolsAt (W.setCell ⟨G, j, none⟩ (.bool x)) G n (fun i => if i = j then x else bk i) := by
  obtain ⟨cs, h, hc⟩ := h
  have hl := (Array.getElem?_eq_some_iff.1 (hc j hj)).1
  refine ⟨_, heap_set h _, fun i hi => ?_⟩
  by_cases e : i = j
  · subst e
    rw [Array.getElem?_setIfInBounds_self_of_lt hl]
    simp
  · rw [Array.getElem?_setIfInBounds_ne (by omega), hc i hi]
    simp [e]
end
theorem make_bools (n : Nat) (hn : n ≤ 1000) : ∃ o : Obj, (∀ W : World, (Instr.makeSlice 104 (.int .i64 (n : Nat)) (.int .i64 (n : Nat))).run Tryd.prog W = .ok (.slice (some ⟨W.heap.size, 0, none⟩) n n) (W.alloc o)) ∧ ∀ W : World, BoolsAt (W.alloc o) W.heap.size n (fun _ => false) := by
  have hinfo : (Tryd.prog.info? 4).map (fun i => (i.zero, i.size, i.bytes)) = some (some (.bool false), 1, 1) := by kernel_rfl
  obtain ⟨i0, hi, hz0, hz1, hz2⟩ := info_parts hinfo
  refine ⟨.cells (madeCells (Value.bool false).cells (n * i0.size)) 4, fun W => ?_, fun W => ?_⟩
  · have h := run_make (P := Tryd.prog) W 104 4 i0 (.bool false) Tryd.underlying104 hi hz0 .i64 .i64 (n : Int) (n : Int) (by omega) (by omega) (by rw [hz2]; omega) (by omega)
    simpa only [Int.toNat_natCast] using h
  · refine ⟨_, World.alloc_heap_new W _, fun i hi => ?_⟩
    rw [hz1, ← Array.getElem?_toList, made_one _ rfl, List.getElem?_replicate, if_pos hi]
set_option maxRecDepth 100000 in
set_option maxHeartbeats 8000000 in
theorem ref_valid_any (teams closed : Int) (p : Option Addr) (n c : Nat) (g : Nat → Pst) (w : World) (hn : n ≤ maxLen) (hr : ReadsP w p n g) :
    Calls Tryd.prog 37 #[.agg #[.int .i64 teams, .slice p n c, .int .i64 closed]] w fun e w' => Says e (BookOk teams closed n g) ∧ Below w.heap.size w w' := by
  have HRD := Lib.hid hr
  clear hr
  unfold maxLen at hn
  have hB0 : Below w.heap.size w (w.alloc (.cells #[.int .i64 teams, .slice p n c, .int .i64 closed] 24)) := (Below.refl _ _).alloc (Nat.le_refl _) _
  by_cases ht : within teams 2 4
  · by_cases hcl : within closed 0 12
    · by_cases h200 : n ≤ 200
      · have d1 : decide (within teams 2 4) = true := decide_eq_true ht
        have d2 : decide (within closed 0 12) = true := decide_eq_true hcl
        have d3 : decide (200 < (n : Int)) = false := decide_eq_false (by omega)
        have d4 : decide (200 < n) = false := decide_eq_false (by omega)
        have HTT := Lib.hid ht
        have HCC := Lib.hid hcl
        have htop : IntKind.i64.wrap (teams - 1) = teams - 1 := by unfold within at ht; exact IntWalk.i64_in _ (by omega)
        have HTOP := Lib.hid htop
        obtain ⟨o, hmk, hmi⟩ := make_bools n (by omega)
        have HMI := Lib.hid hmi
        have hb0 : (w.alloc (.cells #[.int .i64 teams, .slice p n c, .int .i64 closed] 24)).cell? ⟨w.heap.size, 0, none⟩ = some (.int .i64 teams) := by simp
        have hb1 : (w.alloc (.cells #[.int .i64 teams, .slice p n c, .int .i64 closed] 24)).cell? ⟨w.heap.size, 1, none⟩ = some (.slice p n c) := by simp
        have hSl : w.heap.size < (w.alloc (.cells #[.int .i64 teams, .slice p n c, .int .i64 closed] 24)).heap.size := by simp
        have hal := (Below.refl (w.alloc (.cells #[.int .i64 teams, .slice p n c, .int .i64 closed] 24)).heap.size (w.alloc (.cells #[.int .i64 teams, .slice p n c, .int .i64 closed] 24))).alloc (Nat.le_refl _) o
        have hx2 := HMI.out (w.alloc (.cells #[.int .i64 teams, .slice p n c, .int .i64 closed] 24))
        rw [World.size_alloc] at hx2
        have hb02 := (hal.cell (p := ⟨w.heap.size, 0, none⟩) hSl).trans hb0
        have hb12 := (hal.cell (p := ⟨w.heap.size, 1, none⟩) hSl).trans hb1
        have hSl2 := Nat.lt_of_lt_of_le hSl hal.size
        have hB2 := hB0.trans (hal.mono hB0.size)
        have HB02 := Lib.hid hb02
        have HB12 := Lib.hid hb12
        have HX2 := Lib.hid hx2
        have HB2 := Lib.hid hB2
        have HSL2 := Lib.hid hSl2
        clear hmi hb0 hb1 hSl hal hx2 hb02 hb12 hSl2 hB2 hB0 ht hcl htop
        go_enter Tryd.func37, Tryd.ntmps37
        go_wp2_with (go_at_call 50; refine (in_any _ _ _ _).mono ?_; rintro e w1 ⟨rfl, rfl⟩)
        obtain ⟨w2, hw2⟩ : ∃ w2, (w.alloc (.cells #[.int .i64 teams, .slice p n c, .int .i64 closed] 24)).alloc o = w2 := ⟨_, rfl⟩
        rw [hw2] at HB02 HB12 HX2 HB2 HSL2 ⊢
        obtain ⟨S, hS⟩ : ∃ S, w.heap.size = S := ⟨_, rfl⟩
        have HS := Lib.hid hS
        rw [hS] at HB02 HB12 HX2 HSL2 ⊢
        obtain ⟨G, hG⟩ : ∃ G, S + 1 = G := ⟨_, rfl⟩
        rw [hG] at HX2 ⊢
        have hGS : S < G := by omega
        clear hw2 hS hG hmk d1 d2 d3 d4
        go_loopw [4] (fun z wr => ∃ (k : Nat), k ≤ n ∧ z = .int .i64 k ∧ BoolsAt wr G n (bkOf g k) ∧ Hid (∀ i, i < k → TakesOk g i (bkOf g i) (teams - 1) (g i)) ∧ S < wr.heap.size ∧
          wr.cell? ⟨S, 0, none⟩ = some (.int .i64 teams) ∧ wr.cell? ⟨S, 1, none⟩ = some (.slice p n c) ∧ Hid (Below w.heap.size w wr)) (fun z _ => n - (intOf z).toNat)
        case atStart => exact ⟨0, by omega, rfl, HX2.out, Lib.hid (fun i hi => by omega), HSL2.out, HB02.out, HB12.out, HB2⟩
        case round =>
          obtain ⟨k, hk, rfl, hx, HT, hSw0, b0, b1, HB⟩ := hrel
          by_cases hlt : k < n
          · obtain ⟨bp, op, rfl, hcs⟩ := HRD.out.below HB.out k hlt
            have hpc := pcells_of (hcs k hlt)
            have v0 : (0 : Int) ≤ (k : Int) := by omega
            have v1 : (k : Int) < (n : Int) := by omega
            have hk200 : k < 200 := by omega
            have hal : Below wr.heap.size wr (wr.alloc (.cells (g k).cells 27)) := (Below.refl _ _).alloc (Nat.le_refl _) _
            have hx3 := hx.below hal
            have hP3 := PCells.new wr (g k) 27
            have hS0 := (hal.cell (p := ⟨S, 0, none⟩) hSw0).trans b0
            have hS1 := (hal.cell (p := ⟨S, 1, none⟩) hSw0).trans b1
            have hB3 := HB.out.trans (hal.mono HB.out.size)
            have hPG : wr.heap.size ≠ G := by have := hx.lt; omega
            have hSw : S < (wr.alloc (.cells (g k).cells 27)).heap.size := by rw [World.size_alloc]; omega
            have hPw : wr.heap.size < (wr.alloc (.cells (g k).cells 27)).heap.size := by rw [World.size_alloc]; omega
            have hcm : ∀ m, m < k → (wr.alloc (.cells (g k).cells 27)).cell? ⟨bp, op + m * 7 + 1, none⟩ = some (.int .i64 (g m).day) := fun m hm =>
              (hal.cell (p := ⟨bp, op + m * 7 + 1, none⟩) (cell_lt (hcs m (by omega) 1 (by omega)))).trans (hcs m (by omega) 1 (by omega))
            have HX3 := Lib.hid hx3
            have HP3 := Lib.hid hP3
            have HS0 := Lib.hid hS0
            have HS1 := Lib.hid hS1
            have HB3 := Lib.hid hB3
            have HPG := Lib.hid hPG
            have HCM := Lib.hid hcm
            have HSW := Lib.hid hSw
            have HPW := Lib.hid hPw
            obtain ⟨p0, p1, p2, p3, p4, p5, p6⟩ := hpc
            clear hx3 hP3 hS0 hS1 hB3 hPG hal hcs hcm hx hSw hPw
            go_wp2_with fail
            obtain ⟨w3, hw3⟩ : ∃ w3, wr.alloc (.cells (g k).cells 27) = w3 := ⟨_, rfl⟩
            rw [hw3] at HX3 HP3 HS0 HS1 HB3 HCM HSW HPW
            rw [show wr.alloc (.cells #[.int .i64 (g k).kind, .int .i64 (g k).day, .int .i64 (g k).deb, .int .i64 (g k).cre, .int .i64 (g k).amt, .int .i64 (g k).sub, .int .i64 (g k).of] 27) = w3 from hw3]
            obtain ⟨P, hP⟩ : ∃ P, wr.heap.size = P := ⟨_, rfl⟩
            rw [hP] at HP3 HPG HPW ⊢
            have hSw := HSW.out
            have hPw := HPW.out
            have b0 := HS0.out
            have b1 := HS1.out
            clear hw3 hP p0 p1 p2 p3 p4 p5 p6
            obtain ⟨q0, q1, q2, q3, q4, q5, q6⟩ := HP3.out
            have hF : ∃ r : Bool, r = true ↔ Formed (g k) (teams - 1) := by
              by_cases h : Formed (g k) (teams - 1)
              · exact ⟨true, by simp [h]⟩
              · exact ⟨false, by simp [h]⟩
            obtain ⟨r, hr⟩ := hF
            have HFC := Lib.hid (fun W (hb : Below w3.heap.size w3 W) => (formed_any (g k) teams W).mono fun e w' (h : e = Ending.returned (.bool (decide (Formed (g k) (IntKind.i64.wrap (teams - 1))))) ∧ Below W.heap.size W w') => (⟨by
              rw [h.1, HTOP.out]
              congr 2
              rw [Bool.eq_iff_iff, decide_eq_true_iff]
              exact hr.symm, hb.trans (h.2.mono hb.size)⟩ : e = Ending.returned (.bool r) ∧ Below w3.heap.size w3 w'))
            cases r with
            | false =>
              have HKS := Lib.hid (fun W (hb : Below w3.heap.size w3 W) => (⟨hb, (hb.cell (p := ⟨S, 0, none⟩) hSw).trans b0, (hb.cell (p := ⟨P, 0, none⟩) hPw).trans q0, (hb.cell (p := ⟨P, 1, none⟩) hPw).trans q1, (hb.cell (p := ⟨P, 2, none⟩) hPw).trans q2, (hb.cell (p := ⟨P, 3, none⟩) hPw).trans q3, (hb.cell (p := ⟨P, 4, none⟩) hPw).trans q4, (hb.cell (p := ⟨P, 5, none⟩) hPw).trans q5, (hb.cell (p := ⟨P, 6, none⟩) hPw).trans q6⟩ : Below w3.heap.size w3 W ∧ W.cell? ⟨S, 0, none⟩ = some (.int .i64 teams) ∧ W.cell? ⟨P, 0, none⟩ = some (.int .i64 (g k).kind) ∧ W.cell? ⟨P, 1, none⟩ = some (.int .i64 (g k).day) ∧ W.cell? ⟨P, 2, none⟩ = some (.int .i64 (g k).deb) ∧ W.cell? ⟨P, 3, none⟩ = some (.int .i64 (g k).cre) ∧ W.cell? ⟨P, 4, none⟩ = some (.int .i64 (g k).amt) ∧ W.cell? ⟨P, 5, none⟩ = some (.int .i64 (g k).sub) ∧ W.cell? ⟨P, 6, none⟩ = some (.int .i64 (g k).of)))
              have hno : ¬ BookOk teams closed n g := fun h => by have := hr.2 (h.2 k hlt).2.1; simp at this
              have HNO := Lib.hid hno
              clear hr hno q0 q1 q2 q3 q4 q5 q6
              refine wp_region_held_drew (S := (fun W => Below w3.heap.size w3 W ∧ W.cell? ⟨S, 0, none⟩ = some (.int .i64 teams) ∧ W.cell? ⟨P, 0, none⟩ = some (.int .i64 (g k).kind) ∧ W.cell? ⟨P, 1, none⟩ = some (.int .i64 (g k).day) ∧ W.cell? ⟨P, 2, none⟩ = some (.int .i64 (g k).deb) ∧ W.cell? ⟨P, 3, none⟩ = some (.int .i64 (g k).cre) ∧ W.cell? ⟨P, 4, none⟩ = some (.int .i64 (g k).amt) ∧ W.cell? ⟨P, 5, none⟩ = some (.int .i64 (g k).sub) ∧ W.cell? ⟨P, 6, none⟩ = some (.int .i64 (g k).of))) (by kernel_rfl) ?_ (fun hHeld => ?_)
              · exact HKS.out _ (Below.refl _ _).drew
              refine wpAnyH_take (i := 0) (v := ?_) rfl (by kernel_rfl) (by kernel_rfl) (by kernel_rfl) (fun _ _ _ h => h) (Or.inl ⟨by rfl, ?_⟩) (by assumption) ?_
              rotate_left
              · intro w hSw
                try dsimp only at hSw
                go_simp
                all_goals with_reducible rfl
              try simp only [Act.put, List.getElem_toArray, List.getElem_cons_zero, List.setIfInBounds_toArray, List.set_cons_zero, List.set_cons_succ]
              refine wpAnyH_take (i := 1) (v := ?_) rfl (by kernel_rfl) (by kernel_rfl) (by kernel_rfl) (fun _ _ _ h => h) (Or.inl ⟨by rfl, ?_⟩) (by assumption) ?_
              rotate_left
              · intro w hSw
                try dsimp only at hSw
                go_simp
                all_goals with_reducible rfl
              try simp only [Act.put, List.getElem_toArray, List.getElem_cons_succ, List.getElem_cons_zero, List.setIfInBounds_toArray, List.set_cons_zero, List.set_cons_succ]
              refine wpAnyH_take (i := 2) (v := ?_) rfl (by kernel_rfl) (by kernel_rfl) (by kernel_rfl) (fun _ _ _ h => h) (Or.inl ⟨by rfl, ?_⟩) (by assumption) ?_
              rotate_left
              · intro w hSw
                try dsimp only at hSw
                go_simp
                all_goals with_reducible rfl
              try simp only [Act.put, List.getElem_toArray, List.getElem_cons_succ, List.getElem_cons_zero, List.setIfInBounds_toArray, List.set_cons_zero, List.set_cons_succ]
              refine wpAnyH_ready (rs := [3]) (by kernel_rfl) (by simp) ?_
              refine AllReadyH.cons rfl (fun K hK => ?_) AllReadyH.nil
              go_simp
              go_at_call 57; refine (HFC.out _ hHeld.1).mono ?_; rintro e w' ⟨rfl, hb'⟩
              refine hK.out _ _ ?_ (fun hHeld2 => ?_)
              · exact HKS.out _ hb'
              clear hK K hHeld
              rename_i hHeld
              try simp only [Act.put, List.getElem_toArray, List.getElem_cons_succ, List.getElem_cons_zero, List.setIfInBounds_toArray, List.set_cons_zero, List.set_cons_succ]
              refine wpAnyH_take (i := 4) (v := ?_) rfl (by kernel_rfl) (by kernel_rfl) (by kernel_rfl) (fun _ _ _ h => h) (Or.inl ⟨by rfl, ?_⟩) (by assumption) ?_
              rotate_left
              · intro w hSw
                try dsimp only at hSw
                go_simp
                all_goals with_reducible rfl
              try simp only [Act.put, List.getElem_toArray, List.getElem_cons_succ, List.getElem_cons_zero, List.setIfInBounds_toArray, List.set_cons_zero, List.set_cons_succ]
              refine wpAnyH_take (i := 5) (v := ?_) rfl (by kernel_rfl) (by kernel_rfl) (by kernel_rfl) (fun _ _ _ h => h) (Or.inl ⟨by rfl, ?_⟩) (by assumption) ?_
              rotate_left
              · intro w hSw
                try dsimp only at hSw
                go_simp
                all_goals with_reducible rfl
              try simp only [Act.put, List.getElem_toArray, List.getElem_cons_succ, List.getElem_cons_zero, List.setIfInBounds_toArray, List.set_cons_zero, List.set_cons_succ]
              refine wpAnyH_take (i := 6) (v := undef) rfl (by kernel_rfl) (by kernel_rfl) (by kernel_rfl) (fun _ _ _ h => h) (Or.inr ⟨by rfl, rfl⟩) (by assumption) ?_
              try simp only [Act.put, List.getElem_toArray, List.getElem_cons_succ, List.getElem_cons_zero, List.setIfInBounds_toArray, List.set_cons_zero, List.set_cons_succ]
              refine wpAnyH_take (i := 7) (v := undef) rfl (by kernel_rfl) (by kernel_rfl) (by kernel_rfl) (fun _ _ _ h => h) (Or.inr ⟨by rfl, rfl⟩) (by assumption) ?_
              try simp only [Act.put, List.getElem_toArray, List.getElem_cons_succ, List.getElem_cons_zero, List.setIfInBounds_toArray, List.set_cons_zero, List.set_cons_succ]
              refine wpAnyH_take (i := 8) (v := undef) rfl (by kernel_rfl) (by kernel_rfl) (by kernel_rfl) (fun _ _ _ h => h) (Or.inr ⟨by rfl, rfl⟩) (by assumption) ?_
              try simp only [Act.put, List.getElem_toArray, List.getElem_cons_succ, List.getElem_cons_zero, List.setIfInBounds_toArray, List.set_cons_zero, List.set_cons_succ]
              refine wpAnyH_take (i := 9) (v := undef) rfl (by kernel_rfl) (by kernel_rfl) (by kernel_rfl) (fun _ _ _ h => h) (Or.inr ⟨by rfl, rfl⟩) (by assumption) ?_
              try simp only [Act.put, List.getElem_toArray, List.getElem_cons_succ, List.getElem_cons_zero, List.setIfInBounds_toArray, List.set_cons_zero, List.set_cons_succ]
              refine wpAnyH_take (i := 10) (v := undef) rfl (by kernel_rfl) (by kernel_rfl) (by kernel_rfl) (fun _ _ _ h => h) (Or.inr ⟨by rfl, rfl⟩) (by assumption) ?_
              try simp only [Act.put, List.getElem_toArray, List.getElem_cons_succ, List.getElem_cons_zero, List.setIfInBounds_toArray, List.set_cons_zero, List.set_cons_succ]
              refine wpAnyH_take (i := 11) (v := undef) rfl (by kernel_rfl) (by kernel_rfl) (by kernel_rfl) (fun _ _ _ h => h) (Or.inr ⟨by rfl, rfl⟩) (by assumption) ?_
              try simp only [Act.put, List.getElem_toArray, List.getElem_cons_succ, List.getElem_cons_zero, List.setIfInBounds_toArray, List.set_cons_zero, List.set_cons_succ]
              refine wpAnyH_take (i := 12) (v := undef) rfl (by kernel_rfl) (by kernel_rfl) (by kernel_rfl) (fun _ _ _ h => h) (Or.inr ⟨by rfl, rfl⟩) (by assumption) ?_
              try simp only [Act.put, List.getElem_toArray, List.getElem_cons_succ, List.getElem_cons_zero, List.setIfInBounds_toArray, List.set_cons_zero, List.set_cons_succ]
              refine wpAnyH_take (i := 13) (v := undef) rfl (by kernel_rfl) (by kernel_rfl) (by kernel_rfl) (fun _ _ _ h => h) (Or.inr ⟨by rfl, rfl⟩) (by assumption) ?_
              try simp only [Act.put, List.getElem_toArray, List.getElem_cons_succ, List.getElem_cons_zero, List.setIfInBounds_toArray, List.set_cons_zero, List.set_cons_succ]
              refine wpAnyH_take (i := 14) (v := undef) rfl (by kernel_rfl) (by kernel_rfl) (by kernel_rfl) (fun _ _ _ h => h) (Or.inr ⟨by rfl, rfl⟩) (by assumption) ?_
              try simp only [Act.put, List.getElem_toArray, List.getElem_cons_succ, List.getElem_cons_zero, List.setIfInBounds_toArray, List.set_cons_zero, List.set_cons_succ]
              refine wpAnyH_take (i := 15) (v := undef) rfl (by kernel_rfl) (by kernel_rfl) (by kernel_rfl) (fun _ _ _ h => h) (Or.inr ⟨by rfl, rfl⟩) (by assumption) ?_
              try simp only [Act.put, List.getElem_toArray, List.getElem_cons_succ, List.getElem_cons_zero, List.setIfInBounds_toArray, List.set_cons_zero, List.set_cons_succ]
              refine wpAnyH_take (i := 16) (v := undef) rfl (by kernel_rfl) (by kernel_rfl) (by kernel_rfl) (fun _ _ _ h => h) (Or.inr ⟨by rfl, rfl⟩) (by assumption) ?_
              try simp only [Act.put, List.getElem_toArray, List.getElem_cons_succ, List.getElem_cons_zero, List.setIfInBounds_toArray, List.set_cons_zero, List.set_cons_succ]
              refine wpAnyH_take (i := 17) (v := undef) rfl (by kernel_rfl) (by kernel_rfl) (by kernel_rfl) (fun _ _ _ h => h) (Or.inr ⟨by rfl, rfl⟩) (by assumption) ?_
              try simp only [Act.put, List.getElem_toArray, List.getElem_cons_succ, List.getElem_cons_zero, List.setIfInBounds_toArray, List.set_cons_zero, List.set_cons_succ]
              refine wpAnyH_take (i := 18) (v := undef) rfl (by kernel_rfl) (by kernel_rfl) (by kernel_rfl) (fun _ _ _ h => h) (Or.inr ⟨by rfl, rfl⟩) (by assumption) ?_
              try simp only [Act.put, List.getElem_toArray, List.getElem_cons_succ, List.getElem_cons_zero, List.setIfInBounds_toArray, List.set_cons_zero, List.set_cons_succ]
              refine wpAnyH_take (i := 19) (v := undef) rfl (by kernel_rfl) (by kernel_rfl) (by kernel_rfl) (fun _ _ _ h => h) (Or.inr ⟨by rfl, rfl⟩) (by assumption) ?_
              try simp only [Act.put, List.getElem_toArray, List.getElem_cons_succ, List.getElem_cons_zero, List.setIfInBounds_toArray, List.set_cons_zero, List.set_cons_succ]
              refine wpAnyH_take (i := 20) (v := ?_) rfl (by kernel_rfl) (by kernel_rfl) (by kernel_rfl) (fun _ _ _ h => h) (Or.inl ⟨by rfl, ?_⟩) (by assumption) ?_
              rotate_left
              · intro w hSw
                try dsimp only at hSw
                go_simp
                all_goals with_reducible rfl
              try simp only [Act.put, List.getElem_toArray, List.getElem_cons_succ, List.getElem_cons_zero, List.setIfInBounds_toArray, List.set_cons_zero, List.set_cons_succ]
              refine wpAnyH_done (by kernel_rfl) ?_ _
              go_wp2_with fail
              go_ret
              exact ⟨⟨false, rfl, by simp [HNO.out]⟩, HB3.out.trans (hb'.mono HB3.out.size)⟩
            | true =>
              have hFm : Formed (g k) (teams - 1) := hr.1 rfl
              have HFM := Lib.hid hFm
              clear hr hFm
              have key : (k = 0 ∧ True) ∨ ∃ m, k = m + 1 := by
                rcases k with _ | m
                · exact .inl ⟨rfl, trivial⟩
                · exact .inr ⟨m, rfl⟩
              rcases key with ⟨hn0, _⟩ | ⟨m, hnm⟩
              · have HKS := Lib.hid (fun W (hb : Below w3.heap.size w3 W) => (⟨hb, (hb.cell (p := ⟨S, 0, none⟩) hSw).trans b0, (hb.cell (p := ⟨P, 0, none⟩) hPw).trans q0, (hb.cell (p := ⟨P, 1, none⟩) hPw).trans q1, (hb.cell (p := ⟨P, 2, none⟩) hPw).trans q2, (hb.cell (p := ⟨P, 3, none⟩) hPw).trans q3, (hb.cell (p := ⟨P, 4, none⟩) hPw).trans q4, (hb.cell (p := ⟨P, 5, none⟩) hPw).trans q5, (hb.cell (p := ⟨P, 6, none⟩) hPw).trans q6⟩ : Below w3.heap.size w3 W ∧ W.cell? ⟨S, 0, none⟩ = some (.int .i64 teams) ∧ W.cell? ⟨P, 0, none⟩ = some (.int .i64 (g k).kind) ∧ W.cell? ⟨P, 1, none⟩ = some (.int .i64 (g k).day) ∧ W.cell? ⟨P, 2, none⟩ = some (.int .i64 (g k).deb) ∧ W.cell? ⟨P, 3, none⟩ = some (.int .i64 (g k).cre) ∧ W.cell? ⟨P, 4, none⟩ = some (.int .i64 (g k).amt) ∧ W.cell? ⟨P, 5, none⟩ = some (.int .i64 (g k).sub) ∧ W.cell? ⟨P, 6, none⟩ = some (.int .i64 (g k).of)))
                have e1 : decide (0 < (k : Int)) = false := decide_eq_false (by omega)
                have e2 : decide (0 < k) = false := decide_eq_false (by omega)
                have HDAY : Hid (0 < k → (g (k - 1)).day ≤ (g k).day) := Lib.hid (fun h => by omega)
                have HN0 := Lib.hid hn0
                clear hn0 q0 q1 q2 q3 q4 q5 q6
                refine wp_region_held_drew (S := (fun W => Below w3.heap.size w3 W ∧ W.cell? ⟨S, 0, none⟩ = some (.int .i64 teams) ∧ W.cell? ⟨P, 0, none⟩ = some (.int .i64 (g k).kind) ∧ W.cell? ⟨P, 1, none⟩ = some (.int .i64 (g k).day) ∧ W.cell? ⟨P, 2, none⟩ = some (.int .i64 (g k).deb) ∧ W.cell? ⟨P, 3, none⟩ = some (.int .i64 (g k).cre) ∧ W.cell? ⟨P, 4, none⟩ = some (.int .i64 (g k).amt) ∧ W.cell? ⟨P, 5, none⟩ = some (.int .i64 (g k).sub) ∧ W.cell? ⟨P, 6, none⟩ = some (.int .i64 (g k).of))) (by kernel_rfl) ?_ (fun hHeld => ?_)
                · exact HKS.out _ (Below.refl _ _).drew
                refine wpAnyH_take (i := 0) (v := ?_) rfl (by kernel_rfl) (by kernel_rfl) (by kernel_rfl) (fun _ _ _ h => h) (Or.inl ⟨by rfl, ?_⟩) (by assumption) ?_
                rotate_left
                · intro w hSw
                  try dsimp only at hSw
                  go_simp
                  all_goals with_reducible rfl
                try simp only [Act.put, List.getElem_toArray, List.getElem_cons_zero, List.setIfInBounds_toArray, List.set_cons_zero, List.set_cons_succ]
                refine wpAnyH_take (i := 1) (v := ?_) rfl (by kernel_rfl) (by kernel_rfl) (by kernel_rfl) (fun _ _ _ h => h) (Or.inl ⟨by rfl, ?_⟩) (by assumption) ?_
                rotate_left
                · intro w hSw
                  try dsimp only at hSw
                  go_simp
                  all_goals with_reducible rfl
                try simp only [Act.put, List.getElem_toArray, List.getElem_cons_succ, List.getElem_cons_zero, List.setIfInBounds_toArray, List.set_cons_zero, List.set_cons_succ]
                refine wpAnyH_take (i := 2) (v := ?_) rfl (by kernel_rfl) (by kernel_rfl) (by kernel_rfl) (fun _ _ _ h => h) (Or.inl ⟨by rfl, ?_⟩) (by assumption) ?_
                rotate_left
                · intro w hSw
                  try dsimp only at hSw
                  go_simp
                  all_goals with_reducible rfl
                try simp only [Act.put, List.getElem_toArray, List.getElem_cons_succ, List.getElem_cons_zero, List.setIfInBounds_toArray, List.set_cons_zero, List.set_cons_succ]
                refine wpAnyH_ready (rs := [3]) (by kernel_rfl) (by simp) ?_
                refine AllReadyH.cons rfl (fun K hK => ?_) AllReadyH.nil
                go_simp
                go_at_call 57; refine (HFC.out _ hHeld.1).mono ?_; rintro e w' ⟨rfl, hb'⟩
                refine hK.out _ _ ?_ (fun hHeld2 => ?_)
                · exact HKS.out _ hb'
                clear hK K hHeld
                rename_i hHeld
                try simp only [Act.put, List.getElem_toArray, List.getElem_cons_succ, List.getElem_cons_zero, List.setIfInBounds_toArray, List.set_cons_zero, List.set_cons_succ]
                refine wpAnyH_take (i := 4) (v := ?_) rfl (by kernel_rfl) (by kernel_rfl) (by kernel_rfl) (fun _ _ _ h => h) (Or.inl ⟨by rfl, ?_⟩) (by assumption) ?_
                rotate_left
                · intro w hSw
                  try dsimp only at hSw
                  go_simp
                  all_goals with_reducible rfl
                try simp only [Act.put, List.getElem_toArray, List.getElem_cons_succ, List.getElem_cons_zero, List.setIfInBounds_toArray, List.set_cons_zero, List.set_cons_succ]
                refine wpAnyH_take (i := 5) (v := ?_) rfl (by kernel_rfl) (by kernel_rfl) (by kernel_rfl) (fun _ _ _ h => h) (Or.inl ⟨by rfl, ?_⟩) (by assumption) ?_
                rotate_left
                · intro w hSw
                  try dsimp only at hSw
                  go_simp
                  all_goals with_reducible rfl
                try simp only [Act.put, List.getElem_toArray, List.getElem_cons_succ, List.getElem_cons_zero, List.setIfInBounds_toArray, List.set_cons_zero, List.set_cons_succ]
                refine wpAnyH_take (i := 6) (v := ?_) rfl (by kernel_rfl) (by kernel_rfl) (by kernel_rfl) (fun _ _ _ h => h) (Or.inl ⟨by rfl, ?_⟩) (by assumption) ?_
                rotate_left
                · intro w hSw
                  try dsimp only at hSw
                  go_simp
                  all_goals with_reducible rfl
                try simp only [Act.put, List.getElem_toArray, List.getElem_cons_succ, List.getElem_cons_zero, List.setIfInBounds_toArray, List.set_cons_zero, List.set_cons_succ]
                refine wpAnyH_take (i := 7) (v := ?_) rfl (by kernel_rfl) (by kernel_rfl) (by kernel_rfl) (fun _ _ _ h => h) (Or.inl ⟨by rfl, ?_⟩) (by assumption) ?_
                rotate_left
                · intro w hSw
                  try dsimp only at hSw
                  go_simp
                  all_goals with_reducible rfl
                try simp only [Act.put, List.getElem_toArray, List.getElem_cons_succ, List.getElem_cons_zero, List.setIfInBounds_toArray, List.set_cons_zero, List.set_cons_succ]
                refine wpAnyH_take (i := 8) (v := ?_) rfl (by kernel_rfl) (by kernel_rfl) (by kernel_rfl) (fun _ _ _ h => h) (Or.inl ⟨by rfl, ?_⟩) (by assumption) ?_
                rotate_left
                · intro w hSw
                  try dsimp only at hSw
                  go_simp
                  all_goals with_reducible rfl
                try simp only [Act.put, List.getElem_toArray, List.getElem_cons_succ, List.getElem_cons_zero, List.setIfInBounds_toArray, List.set_cons_zero, List.set_cons_succ]
                refine wpAnyH_take (i := 9) (v := undef) rfl (by kernel_rfl) (by kernel_rfl) (by kernel_rfl) (fun _ _ _ h => h) (Or.inr ⟨by rfl, rfl⟩) (by assumption) ?_
                try simp only [Act.put, List.getElem_toArray, List.getElem_cons_succ, List.getElem_cons_zero, List.setIfInBounds_toArray, List.set_cons_zero, List.set_cons_succ]
                refine wpAnyH_take (i := 10) (v := undef) rfl (by kernel_rfl) (by kernel_rfl) (by kernel_rfl) (fun _ _ _ h => h) (Or.inr ⟨by rfl, rfl⟩) (by assumption) ?_
                try simp only [Act.put, List.getElem_toArray, List.getElem_cons_succ, List.getElem_cons_zero, List.setIfInBounds_toArray, List.set_cons_zero, List.set_cons_succ]
                refine wpAnyH_take (i := 11) (v := undef) rfl (by kernel_rfl) (by kernel_rfl) (by kernel_rfl) (fun _ _ _ h => h) (Or.inr ⟨by rfl, rfl⟩) (by assumption) ?_
                try simp only [Act.put, List.getElem_toArray, List.getElem_cons_succ, List.getElem_cons_zero, List.setIfInBounds_toArray, List.set_cons_zero, List.set_cons_succ]
                refine wpAnyH_take (i := 12) (v := undef) rfl (by kernel_rfl) (by kernel_rfl) (by kernel_rfl) (fun _ _ _ h => h) (Or.inr ⟨by rfl, rfl⟩) (by assumption) ?_
                try simp only [Act.put, List.getElem_toArray, List.getElem_cons_succ, List.getElem_cons_zero, List.setIfInBounds_toArray, List.set_cons_zero, List.set_cons_succ]
                refine wpAnyH_take (i := 13) (v := undef) rfl (by kernel_rfl) (by kernel_rfl) (by kernel_rfl) (fun _ _ _ h => h) (Or.inr ⟨by rfl, rfl⟩) (by assumption) ?_
                try simp only [Act.put, List.getElem_toArray, List.getElem_cons_succ, List.getElem_cons_zero, List.setIfInBounds_toArray, List.set_cons_zero, List.set_cons_succ]
                refine wpAnyH_take (i := 14) (v := undef) rfl (by kernel_rfl) (by kernel_rfl) (by kernel_rfl) (fun _ _ _ h => h) (Or.inr ⟨by rfl, rfl⟩) (by assumption) ?_
                try simp only [Act.put, List.getElem_toArray, List.getElem_cons_succ, List.getElem_cons_zero, List.setIfInBounds_toArray, List.set_cons_zero, List.set_cons_succ]
                refine wpAnyH_take (i := 15) (v := undef) rfl (by kernel_rfl) (by kernel_rfl) (by kernel_rfl) (fun _ _ _ h => h) (Or.inr ⟨by rfl, rfl⟩) (by assumption) ?_
                try simp only [Act.put, List.getElem_toArray, List.getElem_cons_succ, List.getElem_cons_zero, List.setIfInBounds_toArray, List.set_cons_zero, List.set_cons_succ]
                refine wpAnyH_take (i := 16) (v := undef) rfl (by kernel_rfl) (by kernel_rfl) (by kernel_rfl) (fun _ _ _ h => h) (Or.inr ⟨by rfl, rfl⟩) (by assumption) ?_
                try simp only [Act.put, List.getElem_toArray, List.getElem_cons_succ, List.getElem_cons_zero, List.setIfInBounds_toArray, List.set_cons_zero, List.set_cons_succ]
                refine wpAnyH_take (i := 17) (v := undef) rfl (by kernel_rfl) (by kernel_rfl) (by kernel_rfl) (fun _ _ _ h => h) (Or.inr ⟨by rfl, rfl⟩) (by assumption) ?_
                try simp only [Act.put, List.getElem_toArray, List.getElem_cons_succ, List.getElem_cons_zero, List.setIfInBounds_toArray, List.set_cons_zero, List.set_cons_succ]
                refine wpAnyH_take (i := 18) (v := undef) rfl (by kernel_rfl) (by kernel_rfl) (by kernel_rfl) (fun _ _ _ h => h) (Or.inr ⟨by rfl, rfl⟩) (by assumption) ?_
                try simp only [Act.put, List.getElem_toArray, List.getElem_cons_succ, List.getElem_cons_zero, List.setIfInBounds_toArray, List.set_cons_zero, List.set_cons_succ]
                refine wpAnyH_take (i := 19) (v := ?_) rfl (by kernel_rfl) (by kernel_rfl) (by kernel_rfl) (fun _ _ _ h => h) (Or.inl ⟨by rfl, ?_⟩) (by assumption) ?_
                rotate_left
                · intro w hSw
                  try dsimp only at hSw
                  go_simp
                  all_goals with_reducible rfl
                try simp only [Act.put, List.getElem_toArray, List.getElem_cons_succ, List.getElem_cons_zero, List.setIfInBounds_toArray, List.set_cons_zero, List.set_cons_succ]
                refine wpAnyH_take (i := 20) (v := ?_) rfl (by kernel_rfl) (by kernel_rfl) (by kernel_rfl) (fun _ _ _ h => h) (Or.inl ⟨by rfl, ?_⟩) (by assumption) ?_
                rotate_left
                · intro w hSw
                  try dsimp only at hSw
                  go_simp
                  all_goals with_reducible rfl
                try simp only [Act.put, List.getElem_toArray, List.getElem_cons_succ, List.getElem_cons_zero, List.setIfInBounds_toArray, List.set_cons_zero, List.set_cons_succ]
                refine wpAnyH_done (by kernel_rfl) ?_ _
                clear e1 e2 b0 b1
                obtain ⟨w4, rfl⟩ : ∃ w4 : World, w4 = w' := ⟨_, rfl⟩
                have hB4 := HB3.out.trans (hb'.mono HB3.out.size)
                have hx4 := HX3.out.below hb'
                have hp4 := HP3.out.below hb'
                have b0 := (hb'.cell (p := ⟨S, 0, none⟩) hSw).trans HS0.out
                have b1 := (hb'.cell (p := ⟨S, 1, none⟩) hSw).trans HS1.out
                have hPG : P ≠ G := HPG.out
                have hGl := hx4.lt
                have hSl4 : S < w4.heap.size := Nat.lt_of_lt_of_le hSw hb'.size
                have HB4 := Lib.hid hB4
                clear HKS HFC hb' hB4 HX3 HP3 HS0 HS1 HB3 HPG hHeld2
                by_cases hk1 : (g k).kind = 1
                · have hkb : ((g k).kind == 1) = true := by simp [hk1]
                  have hT : TakesOk g k (bkOf g k) (teams - 1) (g k) := ⟨by omega, HFM.out, HDAY.out, fun h => by omega⟩
                  have hX : BoolsAt w4 G n (bkOf g (k + 1)) := hx4.congr fun i _ => by
                    show bkNext (bkOf g k) (g k) i = bkOf g k i
                    unfold bkNext
                    rw [if_neg (fun h => by omega)]
                  have HT3 : Hid (∀ i, i < k + 1 → TakesOk g i (bkOf g i) (teams - 1) (g i)) := Lib.hid (fun i hi => by
                    by_cases e : i = k
                    · subst e; exact hT
                    · exact HT.out i (by omega))
                  have HXX := Lib.hid hX
                  have HSL4 := Lib.hid hSl4
                  obtain ⟨q0, q1, q2, q3, q4, q5, q6⟩ := hp4
                  clear hk1 hT hX hx4 hGl hPG
                  go_wp2_with fail
                  exact ⟨⟨k + 1, by omega, by go_num, HXX.out, HT3, HSL4.out, b0, b1, HB4⟩, by simp [intOf]; omega⟩
                · have hk2 : (g k).kind = 2 ∧ within (g k).of 0 199 := by
                    rcases HFM.out.2.2.2.2.2.2 with h | h
                    · exact absurd h.1 hk1
                    · exact h
                  have hkb : ((g k).kind == 1) = false := by simp [hk1]
                  have hof := hk2.2
                  obtain ⟨j, hj⟩ : ∃ j : Nat, (g k).of = (j : Int) := ⟨(g k).of.toNat, by unfold within at hof; omega⟩
                  have hj199 : j < 200 := by unfold within at hof; omega
                  have hjn : (g k).of.toNat = j := by omega
                  have HJ := Lib.hid hj
                  have HJN := Lib.hid hjn
                  have HK2 := Lib.hid hk2.1
                  obtain ⟨q0, q1, q2, q3, q4, q5, q6⟩ := hp4
                  rw [hj] at q6
                  clear hk1 hk2 hof hj hjn
                  have v2 : (0 : Int) ≤ (j : Int) := by omega
                  by_cases hjk : j < k
                  · have e3 : decide ((k : Int) ≤ (j : Int)) = false := decide_eq_false (by omega)
                    have e4 : decide (k ≤ j) = false := decide_eq_false (by omega)
                    have v3 : (j : Int) < (n : Int) := by omega
                    have xj := hx4.cell j (by omega)
                    have fj := hx4.free j
                    cases hbj : bkOf g k j with
                    | true =>
                      rw [hbj] at xj
                      have hno : ¬ BookOk teams closed n g := fun h => by
                        have h1 := ((h.2 k hlt).2.2.2 HK2.out).2.1
                        rw [HJN.out, hbj] at h1
                        cases h1
                      have HNO := Lib.hid hno
                      clear hbj hno
                      go_wp2_with fail
                      go_ret
                      exact ⟨⟨false, rfl, by simp [HNO.out]⟩, HB4.out⟩
                    | false =>
                      rw [hbj] at xj
                      have HBJ := Lib.hid hbj
                      obtain ⟨bp2, op2, he, hcs2⟩ := HRD.out.below HB4.out j (by omega)
                      cases he
                      have hpc2 := pcells_of (hcs2 j (by omega))
                      have HQN := Lib.hid (PCells.new w4 (g j) 27)
                      have hal : Below w4.heap.size w4 (w4.alloc (.cells (g j).cells 27)) := (Below.refl _ _).alloc (Nat.le_refl _) _
                      have HAL := Lib.hid hal
                      obtain ⟨c0, c1, c2, c3, c4, c5, c6⟩ := hpc2
                      have hp4 : PCells w4 P 0 (g k) := ⟨q0, q1, q2, q3, q4, q5, by rw [HJ.out]; exact q6⟩
                      have HP4 := Lib.hid hp4
                      have HX4 := Lib.hid hx4
                      have HNB : Hid (¬ Back (g k) (g j) → ¬ BookOk teams closed n g) := Lib.hid (fun hb h => hb (by
                        have h2 := ((h.2 k hlt).2.2.2 HK2.out).2.2
                        rw [HJN.out] at h2
                        exact h2))
                      have HSL4 := Lib.hid hSl4
                      have HGL := Lib.hid hGl
                      clear hbj hal hcs2 hp4 hx4 hSl4 hGl
                      go_upto_region 14 with fail
                      obtain ⟨w5, hw5⟩ : ∃ w5, w4.alloc (.cells (g j).cells 27) = w5 := ⟨_, rfl⟩
                      rw [hw5] at HQN HAL
                      rw [show w4.alloc (.cells #[.int .i64 (g j).kind, .int .i64 (g j).day, .int .i64 (g j).deb, .int .i64 (g j).cre, .int .i64 (g j).amt, .int .i64 (g j).sub, .int .i64 (g j).of] 27) = w5 from hw5]
                      have b0' := (HAL.out.cell (p := ⟨S, 0, none⟩) HSL4.out).trans b0
                      have b1' := (HAL.out.cell (p := ⟨S, 1, none⟩) HSL4.out).trans b1
                      have hx5 := HX4.out.below HAL.out
                      have hB5 := HB4.out.trans (HAL.out.mono HB4.out.size)
                      have hSl5 := Nat.lt_of_lt_of_le HSL4.out HAL.out.size
                      have hp5 := HP4.out.below HAL.out
                      obtain ⟨Q, hQ⟩ : ∃ Q, w4.heap.size = Q := ⟨_, rfl⟩
                      rw [hQ] at HQN ⊢
                      obtain ⟨y0, y1, y2, y3, y4, y5, y6⟩ := HQN.out
                      clear hw5 hQ q0 q1 q2 q3 q4 q5 q6 b0 b1 c0 c1 c2 c3 c4 c5 c6 xj fj
                      obtain ⟨q0, q1, q2, q3, q4, q5, q6⟩ := hp5
                      rw [HJ.out] at q6
                      have HX5 := Lib.hid hx5
                      have HB5 := Lib.hid hB5
                      have HSL5 := Lib.hid hSl5
                      have fj := hx5.free j
                      have xj := hx5.cell j (by omega)
                      clear hx5 hB5 hSl5
                      by_cases h1 : (g j).kind = 1
                      · by_cases h2 : (g k).deb = (g j).cre
                        · by_cases h3 : (g k).cre = (g j).deb
                          · by_cases h4 : (g k).amt = (g j).amt
                            · by_cases h5 : (g k).sub = (g j).sub
                              · have hT : TakesOk g k (bkOf g k) (teams - 1) (g k) := ⟨by omega, HFM.out, HDAY.out, fun _ => ⟨by rw [HJ.out]; omega, by rw [HJN.out]; exact HBJ.out, by rw [HJN.out]; exact ⟨h1, h2, h3, h4, h5⟩⟩⟩
                                have HT3 : Hid (∀ i, i < k + 1 → TakesOk g i (bkOf g i) (teams - 1) (g i)) := Lib.hid (fun i hi => by
                                  by_cases e : i = k
                                  · subst e; exact hT
                                  · exact HT.out i (by omega))
                                have hX : BoolsAt (w5.setCell ⟨G, j, none⟩ (.bool true)) G n (bkOf g (k + 1)) := (HX5.out.set j (by omega) true).congr fun i _ => by
                                  show bkNext (bkOf g k) (g k) i = _
                                  unfold bkNext
                                  rw [HJN.out]
                                  simp [HK2.out]
                                have hGS2 : G ≠ S := by omega
                                have c0 := (World.cell?_setCell_far w5 ⟨G, j, none⟩ ⟨S, 0, none⟩ (.bool true) hGS2).trans b0'
                                have c1 := (World.cell?_setCell_far w5 ⟨G, j, none⟩ ⟨S, 1, none⟩ (.bool true) hGS2).trans b1'
                                have hBf := Below_set HB5.out (b := G) (i := j) (by have := HS.out; omega) (.bool true)
                                have hSf : S < (w5.setCell ⟨G, j, none⟩ (.bool true)).heap.size := by rw [World.size_setCell]; exact HSL5.out
                                have HX6 := Lib.hid hX
                                have HC0 := Lib.hid c0
                                have HC1 := Lib.hid c1
                                have HBF := Lib.hid hBf
                                have HSF := Lib.hid hSf
                                clear hT hX c0 c1 hBf hSf hGS2
                                go_wp2_with fail
                                exact ⟨⟨k + 1, by omega, by go_num, HX6.out, HT3, HSF.out, HC0.out, HC1.out, HBF⟩, by simp [intOf]; omega⟩
                              · have HNO := Lib.hid (HNB.out (fun h => h5 h.2.2.2.2))
                                go_wp2_with fail
                                go_ret
                                exact ⟨⟨false, rfl, by simp [HNO.out]⟩, HB5.out⟩
                            · have HNO := Lib.hid (HNB.out (fun h => h4 h.2.2.2.1))
                              go_wp2_with fail
                              go_ret
                              exact ⟨⟨false, rfl, by simp [HNO.out]⟩, HB5.out⟩
                          · have HNO := Lib.hid (HNB.out (fun h => h3 h.2.2.1))
                            go_wp2_with fail
                            go_ret
                            exact ⟨⟨false, rfl, by simp [HNO.out]⟩, HB5.out⟩
                        · have HNO := Lib.hid (HNB.out (fun h => h2 h.2.1))
                          go_wp2_with fail
                          go_ret
                          exact ⟨⟨false, rfl, by simp [HNO.out]⟩, HB5.out⟩
                      · have HNO := Lib.hid (HNB.out (fun h => h1 h.1))
                        go_wp2_with fail
                        go_ret
                        exact ⟨⟨false, rfl, by simp [HNO.out]⟩, HB5.out⟩
                  · have e3 : decide ((k : Int) ≤ (j : Int)) = true := decide_eq_true (by omega)
                    have e4 : decide (k ≤ j) = true := decide_eq_true (by omega)
                    have hno : ¬ BookOk teams closed n g := fun h => by
                      have h1 := ((h.2 k hlt).2.2.2 HK2.out).1
                      rw [HJ.out] at h1
                      omega
                    have HNO := Lib.hid hno
                    clear hno
                    go_wp2_with fail
                    go_ret
                    exact ⟨⟨false, rfl, by simp [HNO.out]⟩, HB4.out⟩
              · have hc := HCM.out m (by omega)
                have hbl := cell_lt hc
                have HKS := Lib.hid (fun W (hb : Below w3.heap.size w3 W) => (⟨hb, (hb.cell (p := ⟨S, 0, none⟩) hSw).trans b0, (hb.cell (p := ⟨P, 0, none⟩) hPw).trans q0, (hb.cell (p := ⟨P, 1, none⟩) hPw).trans q1, (hb.cell (p := ⟨P, 2, none⟩) hPw).trans q2, (hb.cell (p := ⟨P, 3, none⟩) hPw).trans q3, (hb.cell (p := ⟨P, 4, none⟩) hPw).trans q4, (hb.cell (p := ⟨P, 5, none⟩) hPw).trans q5, (hb.cell (p := ⟨P, 6, none⟩) hPw).trans q6, (hb.cell (p := ⟨S, 1, none⟩) hSw).trans b1, (hb.cell (p := ⟨bp, op + m * 7 + 1, none⟩) hbl).trans hc⟩ : Below w3.heap.size w3 W ∧ W.cell? ⟨S, 0, none⟩ = some (.int .i64 teams) ∧ W.cell? ⟨P, 0, none⟩ = some (.int .i64 (g k).kind) ∧ W.cell? ⟨P, 1, none⟩ = some (.int .i64 (g k).day) ∧ W.cell? ⟨P, 2, none⟩ = some (.int .i64 (g k).deb) ∧ W.cell? ⟨P, 3, none⟩ = some (.int .i64 (g k).cre) ∧ W.cell? ⟨P, 4, none⟩ = some (.int .i64 (g k).amt) ∧ W.cell? ⟨P, 5, none⟩ = some (.int .i64 (g k).sub) ∧ W.cell? ⟨P, 6, none⟩ = some (.int .i64 (g k).of) ∧ W.cell? ⟨S, 1, none⟩ = some (.slice (some ⟨bp, op, none⟩) n c) ∧ W.cell? ⟨bp, op + m * 7 + 1, none⟩ = some (.int .i64 (g m).day)))
                have e1 : decide (0 < (k : Int)) = true := decide_eq_true (by omega)
                have e2 : decide (0 < k) = true := decide_eq_true (by omega)
                have e3 : IntKind.i64.wrap ((k : Int) - 1) = (m : Int) := by rw [IntWalk.i64_in _ (by omega)]; omega
                have v2 : (0 : Int) ≤ (m : Int) := by omega
                have v3 : (m : Int) < (n : Int) := by omega
                obtain ⟨dl, hdl⟩ : ∃ b : Bool, decide ((g k).day < (g m).day) = b := ⟨_, rfl⟩
                have HN0 := Lib.hid hnm
                have HDL := Lib.hid hdl
                clear hnm q0 q1 q2 q3 q4 q5 q6 hc
                refine wp_region_held_drew (S := (fun W => Below w3.heap.size w3 W ∧ W.cell? ⟨S, 0, none⟩ = some (.int .i64 teams) ∧ W.cell? ⟨P, 0, none⟩ = some (.int .i64 (g k).kind) ∧ W.cell? ⟨P, 1, none⟩ = some (.int .i64 (g k).day) ∧ W.cell? ⟨P, 2, none⟩ = some (.int .i64 (g k).deb) ∧ W.cell? ⟨P, 3, none⟩ = some (.int .i64 (g k).cre) ∧ W.cell? ⟨P, 4, none⟩ = some (.int .i64 (g k).amt) ∧ W.cell? ⟨P, 5, none⟩ = some (.int .i64 (g k).sub) ∧ W.cell? ⟨P, 6, none⟩ = some (.int .i64 (g k).of) ∧ W.cell? ⟨S, 1, none⟩ = some (.slice (some ⟨bp, op, none⟩) n c) ∧ W.cell? ⟨bp, op + m * 7 + 1, none⟩ = some (.int .i64 (g m).day))) (by kernel_rfl) ?_ (fun hHeld => ?_)
                · exact HKS.out _ (Below.refl _ _).drew
                refine wpAnyH_take (i := 0) (v := ?_) rfl (by kernel_rfl) (by kernel_rfl) (by kernel_rfl) (fun _ _ _ h => h) (Or.inl ⟨by rfl, ?_⟩) (by assumption) ?_
                rotate_left
                · intro w hSw
                  try dsimp only at hSw
                  go_simp
                  all_goals with_reducible rfl
                try simp only [Act.put, List.getElem_toArray, List.getElem_cons_zero, List.setIfInBounds_toArray, List.set_cons_zero, List.set_cons_succ]
                refine wpAnyH_take (i := 1) (v := ?_) rfl (by kernel_rfl) (by kernel_rfl) (by kernel_rfl) (fun _ _ _ h => h) (Or.inl ⟨by rfl, ?_⟩) (by assumption) ?_
                rotate_left
                · intro w hSw
                  try dsimp only at hSw
                  go_simp
                  all_goals with_reducible rfl
                try simp only [Act.put, List.getElem_toArray, List.getElem_cons_succ, List.getElem_cons_zero, List.setIfInBounds_toArray, List.set_cons_zero, List.set_cons_succ]
                refine wpAnyH_take (i := 2) (v := ?_) rfl (by kernel_rfl) (by kernel_rfl) (by kernel_rfl) (fun _ _ _ h => h) (Or.inl ⟨by rfl, ?_⟩) (by assumption) ?_
                rotate_left
                · intro w hSw
                  try dsimp only at hSw
                  go_simp
                  all_goals with_reducible rfl
                try simp only [Act.put, List.getElem_toArray, List.getElem_cons_succ, List.getElem_cons_zero, List.setIfInBounds_toArray, List.set_cons_zero, List.set_cons_succ]
                refine wpAnyH_ready (rs := [3]) (by kernel_rfl) (by simp) ?_
                refine AllReadyH.cons rfl (fun K hK => ?_) AllReadyH.nil
                go_simp
                go_at_call 57; refine (HFC.out _ hHeld.1).mono ?_; rintro e w' ⟨rfl, hb'⟩
                refine hK.out _ _ ?_ (fun hHeld2 => ?_)
                · exact HKS.out _ hb'
                clear hK K hHeld
                rename_i hHeld
                try simp only [Act.put, List.getElem_toArray, List.getElem_cons_succ, List.getElem_cons_zero, List.setIfInBounds_toArray, List.set_cons_zero, List.set_cons_succ]
                refine wpAnyH_take (i := 4) (v := ?_) rfl (by kernel_rfl) (by kernel_rfl) (by kernel_rfl) (fun _ _ _ h => h) (Or.inl ⟨by rfl, ?_⟩) (by assumption) ?_
                rotate_left
                · intro w hSw
                  try dsimp only at hSw
                  go_simp
                  all_goals with_reducible rfl
                try simp only [Act.put, List.getElem_toArray, List.getElem_cons_succ, List.getElem_cons_zero, List.setIfInBounds_toArray, List.set_cons_zero, List.set_cons_succ]
                refine wpAnyH_take (i := 5) (v := ?_) rfl (by kernel_rfl) (by kernel_rfl) (by kernel_rfl) (fun _ _ _ h => h) (Or.inl ⟨by rfl, ?_⟩) (by assumption) ?_
                rotate_left
                · intro w hSw
                  try dsimp only at hSw
                  go_simp
                  all_goals with_reducible rfl
                try simp only [Act.put, List.getElem_toArray, List.getElem_cons_succ, List.getElem_cons_zero, List.setIfInBounds_toArray, List.set_cons_zero, List.set_cons_succ]
                refine wpAnyH_take (i := 6) (v := ?_) rfl (by kernel_rfl) (by kernel_rfl) (by kernel_rfl) (fun _ _ _ h => h) (Or.inl ⟨by rfl, ?_⟩) (by assumption) ?_
                rotate_left
                · intro w hSw
                  try dsimp only at hSw
                  go_simp
                  all_goals with_reducible rfl
                try simp only [Act.put, List.getElem_toArray, List.getElem_cons_succ, List.getElem_cons_zero, List.setIfInBounds_toArray, List.set_cons_zero, List.set_cons_succ]
                refine wpAnyH_take (i := 7) (v := ?_) rfl (by kernel_rfl) (by kernel_rfl) (by kernel_rfl) (fun _ _ _ h => h) (Or.inl ⟨by rfl, ?_⟩) (by assumption) ?_
                rotate_left
                · intro w hSw
                  try dsimp only at hSw
                  go_simp
                  all_goals with_reducible rfl
                try simp only [Act.put, List.getElem_toArray, List.getElem_cons_succ, List.getElem_cons_zero, List.setIfInBounds_toArray, List.set_cons_zero, List.set_cons_succ]
                refine wpAnyH_take (i := 8) (v := ?_) rfl (by kernel_rfl) (by kernel_rfl) (by kernel_rfl) (fun _ _ _ h => h) (Or.inl ⟨by rfl, ?_⟩) (by assumption) ?_
                rotate_left
                · intro w hSw
                  try dsimp only at hSw
                  go_simp
                  all_goals with_reducible rfl
                try simp only [Act.put, List.getElem_toArray, List.getElem_cons_succ, List.getElem_cons_zero, List.setIfInBounds_toArray, List.set_cons_zero, List.set_cons_succ]
                refine wpAnyH_take (i := 9) (v := ?_) rfl (by kernel_rfl) (by kernel_rfl) (by kernel_rfl) (fun _ _ _ h => h) (Or.inl ⟨by rfl, ?_⟩) (by assumption) ?_
                rotate_left
                · intro w hSw
                  try dsimp only at hSw
                  go_simp
                  all_goals with_reducible rfl
                try simp only [Act.put, List.getElem_toArray, List.getElem_cons_succ, List.getElem_cons_zero, List.setIfInBounds_toArray, List.set_cons_zero, List.set_cons_succ]
                refine wpAnyH_take (i := 10) (v := ?_) rfl (by kernel_rfl) (by kernel_rfl) (by kernel_rfl) (fun _ _ _ h => h) (Or.inl ⟨by rfl, ?_⟩) (by assumption) ?_
                rotate_left
                · intro w hSw
                  try dsimp only at hSw
                  go_simp
                  all_goals with_reducible rfl
                try simp only [Act.put, List.getElem_toArray, List.getElem_cons_succ, List.getElem_cons_zero, List.setIfInBounds_toArray, List.set_cons_zero, List.set_cons_succ]
                refine wpAnyH_take (i := 11) (v := ?_) rfl (by kernel_rfl) (by kernel_rfl) (by kernel_rfl) (fun _ _ _ h => h) (Or.inl ⟨by rfl, ?_⟩) (by assumption) ?_
                rotate_left
                · intro w hSw
                  try dsimp only at hSw
                  go_simp
                  all_goals with_reducible rfl
                try simp only [Act.put, List.getElem_toArray, List.getElem_cons_succ, List.getElem_cons_zero, List.setIfInBounds_toArray, List.set_cons_zero, List.set_cons_succ]
                refine wpAnyH_take (i := 12) (v := ?_) rfl (by kernel_rfl) (by kernel_rfl) (by kernel_rfl) (fun _ _ _ h => h) (Or.inl ⟨by rfl, ?_⟩) (by assumption) ?_
                rotate_left
                · intro w hSw
                  try dsimp only at hSw
                  go_simp
                  all_goals with_reducible rfl
                try simp only [Act.put, List.getElem_toArray, List.getElem_cons_succ, List.getElem_cons_zero, List.setIfInBounds_toArray, List.set_cons_zero, List.set_cons_succ]
                refine wpAnyH_take (i := 13) (v := ?_) rfl (by kernel_rfl) (by kernel_rfl) (by kernel_rfl) (fun _ _ _ h => h) (Or.inl ⟨by rfl, ?_⟩) (by assumption) ?_
                rotate_left
                · intro w hSw
                  try dsimp only at hSw
                  go_simp
                  all_goals with_reducible rfl
                try simp only [Act.put, List.getElem_toArray, List.getElem_cons_succ, List.getElem_cons_zero, List.setIfInBounds_toArray, List.set_cons_zero, List.set_cons_succ]
                refine wpAnyH_take (i := 14) (v := ?_) rfl (by kernel_rfl) (by kernel_rfl) (by kernel_rfl) (fun _ _ _ h => h) (Or.inl ⟨by rfl, ?_⟩) (by assumption) ?_
                rotate_left
                · intro w hSw
                  try dsimp only at hSw
                  go_simp
                  all_goals with_reducible rfl
                try simp only [Act.put, List.getElem_toArray, List.getElem_cons_succ, List.getElem_cons_zero, List.setIfInBounds_toArray, List.set_cons_zero, List.set_cons_succ]
                refine wpAnyH_take (i := 15) (v := ?_) rfl (by kernel_rfl) (by kernel_rfl) (by kernel_rfl) (fun _ _ _ h => h) (Or.inl ⟨by rfl, ?_⟩) (by assumption) ?_
                rotate_left
                · intro w hSw
                  try dsimp only at hSw
                  go_simp
                  all_goals with_reducible rfl
                try simp only [Act.put, List.getElem_toArray, List.getElem_cons_succ, List.getElem_cons_zero, List.setIfInBounds_toArray, List.set_cons_zero, List.set_cons_succ]
                refine wpAnyH_take (i := 16) (v := ?_) rfl (by kernel_rfl) (by kernel_rfl) (by kernel_rfl) (fun _ _ _ h => h) (Or.inl ⟨by rfl, ?_⟩) (by assumption) ?_
                rotate_left
                · intro w hSw
                  try dsimp only at hSw
                  go_simp
                  all_goals with_reducible rfl
                try simp only [Act.put, List.getElem_toArray, List.getElem_cons_succ, List.getElem_cons_zero, List.setIfInBounds_toArray, List.set_cons_zero, List.set_cons_succ]
                refine wpAnyH_take (i := 17) (v := ?_) rfl (by kernel_rfl) (by kernel_rfl) (by kernel_rfl) (fun _ _ _ h => h) (Or.inl ⟨by rfl, ?_⟩) (by assumption) ?_
                rotate_left
                · intro w hSw
                  try dsimp only at hSw
                  go_simp
                  all_goals with_reducible rfl
                try simp only [Act.put, List.getElem_toArray, List.getElem_cons_succ, List.getElem_cons_zero, List.setIfInBounds_toArray, List.set_cons_zero, List.set_cons_succ]
                refine wpAnyH_take (i := 18) (v := ?_) rfl (by kernel_rfl) (by kernel_rfl) (by kernel_rfl) (fun _ _ _ h => h) (Or.inl ⟨by rfl, ?_⟩) (by assumption) ?_
                rotate_left
                · intro w hSw
                  try dsimp only at hSw
                  go_simp
                  all_goals with_reducible rfl
                try simp only [Act.put, List.getElem_toArray, List.getElem_cons_succ, List.getElem_cons_zero, List.setIfInBounds_toArray, List.set_cons_zero, List.set_cons_succ]
                refine wpAnyH_take (i := 19) (v := ?_) rfl (by kernel_rfl) (by kernel_rfl) (by kernel_rfl) (fun _ _ _ h => h) (Or.inl ⟨by rfl, ?_⟩) (by assumption) ?_
                rotate_left
                · intro w hSw
                  try dsimp only at hSw
                  go_simp
                  all_goals with_reducible rfl
                try simp only [Act.put, List.getElem_toArray, List.getElem_cons_succ, List.getElem_cons_zero, List.setIfInBounds_toArray, List.set_cons_zero, List.set_cons_succ]
                refine wpAnyH_take (i := 20) (v := ?_) rfl (by kernel_rfl) (by kernel_rfl) (by kernel_rfl) (fun _ _ _ h => h) (Or.inl ⟨by rfl, ?_⟩) (by assumption) ?_
                rotate_left
                · intro w hSw
                  try dsimp only at hSw
                  go_simp
                  all_goals with_reducible rfl
                try simp only [Act.put, List.getElem_toArray, List.getElem_cons_succ, List.getElem_cons_zero, List.setIfInBounds_toArray, List.set_cons_zero, List.set_cons_succ]
                refine wpAnyH_done (by kernel_rfl) ?_ _
                cases dl with
                | true =>
                  have hno : ¬ BookOk teams closed n g := fun h => day_no HN0.out HDL.out (h.2 k hlt)
                  have HNO := Lib.hid hno
                  clear hno
                  go_wp2_with fail
                  go_ret
                  exact ⟨⟨false, rfl, by simp [HNO.out]⟩, HB3.out.trans (hb'.mono HB3.out.size)⟩
                | false =>
                  have HDAY : Hid (0 < k → (g (k - 1)).day ≤ (g k).day) := Lib.hid (fun _ => by have := of_decide_eq_false HDL.out; rw [show k - 1 = m by have := HN0.out; omega]; omega)
                  clear e1 e2 e3 v2 v3 b0 b1 hbl hdl
                  obtain ⟨w4, rfl⟩ : ∃ w4 : World, w4 = w' := ⟨_, rfl⟩
                  have hB4 := HB3.out.trans (hb'.mono HB3.out.size)
                  have hx4 := HX3.out.below hb'
                  have hp4 := HP3.out.below hb'
                  have b0 := (hb'.cell (p := ⟨S, 0, none⟩) hSw).trans HS0.out
                  have b1 := (hb'.cell (p := ⟨S, 1, none⟩) hSw).trans HS1.out
                  have hPG : P ≠ G := HPG.out
                  have hGl := hx4.lt
                  have hSl4 : S < w4.heap.size := Nat.lt_of_lt_of_le hSw hb'.size
                  have HB4 := Lib.hid hB4
                  clear HKS HFC hb' hB4 HX3 HP3 HS0 HS1 HB3 HPG hHeld2
                  by_cases hk1 : (g k).kind = 1
                  · have hkb : ((g k).kind == 1) = true := by simp [hk1]
                    have hT : TakesOk g k (bkOf g k) (teams - 1) (g k) := ⟨by omega, HFM.out, HDAY.out, fun h => by omega⟩
                    have hX : BoolsAt w4 G n (bkOf g (k + 1)) := hx4.congr fun i _ => by
                      show bkNext (bkOf g k) (g k) i = bkOf g k i
                      unfold bkNext
                      rw [if_neg (fun h => by omega)]
                    have HT3 : Hid (∀ i, i < k + 1 → TakesOk g i (bkOf g i) (teams - 1) (g i)) := Lib.hid (fun i hi => by
                      by_cases e : i = k
                      · subst e; exact hT
                      · exact HT.out i (by omega))
                    have HXX := Lib.hid hX
                    have HSL4 := Lib.hid hSl4
                    obtain ⟨q0, q1, q2, q3, q4, q5, q6⟩ := hp4
                    clear hk1 hT hX hx4 hGl hPG
                    go_wp2_with fail
                    exact ⟨⟨k + 1, by omega, by go_num, HXX.out, HT3, HSL4.out, b0, b1, HB4⟩, by simp [intOf]; omega⟩
                  · have hk2 : (g k).kind = 2 ∧ within (g k).of 0 199 := by
                      rcases HFM.out.2.2.2.2.2.2 with h | h
                      · exact absurd h.1 hk1
                      · exact h
                    have hkb : ((g k).kind == 1) = false := by simp [hk1]
                    have hof := hk2.2
                    obtain ⟨j, hj⟩ : ∃ j : Nat, (g k).of = (j : Int) := ⟨(g k).of.toNat, by unfold within at hof; omega⟩
                    have hj199 : j < 200 := by unfold within at hof; omega
                    have hjn : (g k).of.toNat = j := by omega
                    have HJ := Lib.hid hj
                    have HJN := Lib.hid hjn
                    have HK2 := Lib.hid hk2.1
                    obtain ⟨q0, q1, q2, q3, q4, q5, q6⟩ := hp4
                    rw [hj] at q6
                    clear hk1 hk2 hof hj hjn
                    have v2 : (0 : Int) ≤ (j : Int) := by omega
                    by_cases hjk : j < k
                    · have e3 : decide ((k : Int) ≤ (j : Int)) = false := decide_eq_false (by omega)
                      have e4 : decide (k ≤ j) = false := decide_eq_false (by omega)
                      have v3 : (j : Int) < (n : Int) := by omega
                      have xj := hx4.cell j (by omega)
                      have fj := hx4.free j
                      cases hbj : bkOf g k j with
                      | true =>
                        rw [hbj] at xj
                        have hno : ¬ BookOk teams closed n g := fun h => by
                          have h1 := ((h.2 k hlt).2.2.2 HK2.out).2.1
                          rw [HJN.out, hbj] at h1
                          cases h1
                        have HNO := Lib.hid hno
                        clear hbj hno
                        go_wp2_with fail
                        go_ret
                        exact ⟨⟨false, rfl, by simp [HNO.out]⟩, HB4.out⟩
                      | false =>
                        rw [hbj] at xj
                        have HBJ := Lib.hid hbj
                        obtain ⟨bp2, op2, he, hcs2⟩ := HRD.out.below HB4.out j (by omega)
                        cases he
                        have hpc2 := pcells_of (hcs2 j (by omega))
                        have HQN := Lib.hid (PCells.new w4 (g j) 27)
                        have hal : Below w4.heap.size w4 (w4.alloc (.cells (g j).cells 27)) := (Below.refl _ _).alloc (Nat.le_refl _) _
                        have HAL := Lib.hid hal
                        obtain ⟨c0, c1, c2, c3, c4, c5, c6⟩ := hpc2
                        have hp4 : PCells w4 P 0 (g k) := ⟨q0, q1, q2, q3, q4, q5, by rw [HJ.out]; exact q6⟩
                        have HP4 := Lib.hid hp4
                        have HX4 := Lib.hid hx4
                        have HNB : Hid (¬ Back (g k) (g j) → ¬ BookOk teams closed n g) := Lib.hid (fun hb h => hb (by
                          have h2 := ((h.2 k hlt).2.2.2 HK2.out).2.2
                          rw [HJN.out] at h2
                          exact h2))
                        have HSL4 := Lib.hid hSl4
                        have HGL := Lib.hid hGl
                        clear hbj hal hcs2 hp4 hx4 hSl4 hGl
                        go_upto_region 14 with fail
                        obtain ⟨w5, hw5⟩ : ∃ w5, w4.alloc (.cells (g j).cells 27) = w5 := ⟨_, rfl⟩
                        rw [hw5] at HQN HAL
                        rw [show w4.alloc (.cells #[.int .i64 (g j).kind, .int .i64 (g j).day, .int .i64 (g j).deb, .int .i64 (g j).cre, .int .i64 (g j).amt, .int .i64 (g j).sub, .int .i64 (g j).of] 27) = w5 from hw5]
                        have b0' := (HAL.out.cell (p := ⟨S, 0, none⟩) HSL4.out).trans b0
                        have b1' := (HAL.out.cell (p := ⟨S, 1, none⟩) HSL4.out).trans b1
                        have hx5 := HX4.out.below HAL.out
                        have hB5 := HB4.out.trans (HAL.out.mono HB4.out.size)
                        have hSl5 := Nat.lt_of_lt_of_le HSL4.out HAL.out.size
                        have hp5 := HP4.out.below HAL.out
                        obtain ⟨Q, hQ⟩ : ∃ Q, w4.heap.size = Q := ⟨_, rfl⟩
                        rw [hQ] at HQN ⊢
                        obtain ⟨y0, y1, y2, y3, y4, y5, y6⟩ := HQN.out
                        clear hw5 hQ q0 q1 q2 q3 q4 q5 q6 b0 b1 c0 c1 c2 c3 c4 c5 c6 xj fj
                        obtain ⟨q0, q1, q2, q3, q4, q5, q6⟩ := hp5
                        rw [HJ.out] at q6
                        have HX5 := Lib.hid hx5
                        have HB5 := Lib.hid hB5
                        have HSL5 := Lib.hid hSl5
                        have fj := hx5.free j
                        have xj := hx5.cell j (by omega)
                        clear hx5 hB5 hSl5
                        by_cases h1 : (g j).kind = 1
                        · by_cases h2 : (g k).deb = (g j).cre
                          · by_cases h3 : (g k).cre = (g j).deb
                            · by_cases h4 : (g k).amt = (g j).amt
                              · by_cases h5 : (g k).sub = (g j).sub
                                · have hT : TakesOk g k (bkOf g k) (teams - 1) (g k) := ⟨by omega, HFM.out, HDAY.out, fun _ => ⟨by rw [HJ.out]; omega, by rw [HJN.out]; exact HBJ.out, by rw [HJN.out]; exact ⟨h1, h2, h3, h4, h5⟩⟩⟩
                                  have HT3 : Hid (∀ i, i < k + 1 → TakesOk g i (bkOf g i) (teams - 1) (g i)) := Lib.hid (fun i hi => by
                                    by_cases e : i = k
                                    · subst e; exact hT
                                    · exact HT.out i (by omega))
                                  have hX : BoolsAt (w5.setCell ⟨G, j, none⟩ (.bool true)) G n (bkOf g (k + 1)) := (HX5.out.set j (by omega) true).congr fun i _ => by
                                    show bkNext (bkOf g k) (g k) i = _
                                    unfold bkNext
                                    rw [HJN.out]
                                    simp [HK2.out]
                                  have hGS2 : G ≠ S := by omega
                                  have c0 := (World.cell?_setCell_far w5 ⟨G, j, none⟩ ⟨S, 0, none⟩ (.bool true) hGS2).trans b0'
                                  have c1 := (World.cell?_setCell_far w5 ⟨G, j, none⟩ ⟨S, 1, none⟩ (.bool true) hGS2).trans b1'
                                  have hBf := Below_set HB5.out (b := G) (i := j) (by have := HS.out; omega) (.bool true)
                                  have hSf : S < (w5.setCell ⟨G, j, none⟩ (.bool true)).heap.size := by rw [World.size_setCell]; exact HSL5.out
                                  have HX6 := Lib.hid hX
                                  have HC0 := Lib.hid c0
                                  have HC1 := Lib.hid c1
                                  have HBF := Lib.hid hBf
                                  have HSF := Lib.hid hSf
                                  clear hT hX c0 c1 hBf hSf hGS2
                                  go_wp2_with fail
                                  exact ⟨⟨k + 1, by omega, by go_num, HX6.out, HT3, HSF.out, HC0.out, HC1.out, HBF⟩, by simp [intOf]; omega⟩
                                · have HNO := Lib.hid (HNB.out (fun h => h5 h.2.2.2.2))
                                  go_wp2_with fail
                                  go_ret
                                  exact ⟨⟨false, rfl, by simp [HNO.out]⟩, HB5.out⟩
                              · have HNO := Lib.hid (HNB.out (fun h => h4 h.2.2.2.1))
                                go_wp2_with fail
                                go_ret
                                exact ⟨⟨false, rfl, by simp [HNO.out]⟩, HB5.out⟩
                            · have HNO := Lib.hid (HNB.out (fun h => h3 h.2.2.1))
                              go_wp2_with fail
                              go_ret
                              exact ⟨⟨false, rfl, by simp [HNO.out]⟩, HB5.out⟩
                          · have HNO := Lib.hid (HNB.out (fun h => h2 h.2.1))
                            go_wp2_with fail
                            go_ret
                            exact ⟨⟨false, rfl, by simp [HNO.out]⟩, HB5.out⟩
                        · have HNO := Lib.hid (HNB.out (fun h => h1 h.1))
                          go_wp2_with fail
                          go_ret
                          exact ⟨⟨false, rfl, by simp [HNO.out]⟩, HB5.out⟩
                    · have e3 : decide ((k : Int) ≤ (j : Int)) = true := decide_eq_true (by omega)
                      have e4 : decide (k ≤ j) = true := decide_eq_true (by omega)
                      have hno : ¬ BookOk teams closed n g := fun h => by
                        have h1 := ((h.2 k hlt).2.2.2 HK2.out).1
                        rw [HJ.out] at h1
                        omega
                      have HNO := Lib.hid hno
                      clear hno
                      go_wp2_with fail
                      go_ret
                      exact ⟨⟨false, rfl, by simp [HNO.out]⟩, HB4.out⟩
          · obtain rfl : n = k := by omega
            have HOK : Hid (BookOk teams closed n g) := Lib.hid ⟨⟨HTT.out, HCC.out⟩, HT.out⟩
            go_wp2_with fail
            go_ret
            exact ⟨⟨true, rfl, by simp [HOK.out]⟩, HB.out⟩
      · have d1 : decide (within teams 2 4) = true := decide_eq_true ht
        have d2 : decide (within closed 0 12) = true := decide_eq_true hcl
        have d3 : decide (200 < (n : Int)) = true := decide_eq_true (by omega)
        have d4 : decide (200 < n) = true := decide_eq_true (by omega)
        have HNO : Hid (¬ BookOk teams closed n g) := Lib.hid (fun h => h200 h.small)
        clear ht hcl
        go_enter Tryd.func37, Tryd.ntmps37
        go_wp2_with (go_at_call 50; refine (in_any _ _ _ _).mono ?_; rintro e w1 ⟨rfl, rfl⟩)
        go_ret
        exact ⟨⟨false, rfl, by simp [HNO.out]⟩, hB0⟩
    · have d1 : decide (within teams 2 4) = true := decide_eq_true ht
      have d2 : decide (within closed 0 12) = false := decide_eq_false hcl
      have HNO : Hid (¬ BookOk teams closed n g) := Lib.hid (fun h => hcl h.1.2)
      clear ht hcl
      go_enter Tryd.func37, Tryd.ntmps37
      go_wp2_with (go_at_call 50; refine (in_any _ _ _ _).mono ?_; rintro e w1 ⟨rfl, rfl⟩)
      go_ret
      exact ⟨⟨false, rfl, by simp [HNO.out]⟩, hB0⟩
  · have d1 : decide (within teams 2 4) = false := decide_eq_false ht
    have HNO : Hid (¬ BookOk teams closed n g) := Lib.hid (fun h => ht h.1.1)
    clear ht
    go_enter Tryd.func37, Tryd.ntmps37
    go_wp2_with (go_at_call 50; refine (in_any _ _ _ _).mono ?_; rintro e w1 ⟨rfl, rfl⟩)
    go_ret
    exact ⟨⟨false, rfl, by simp [HNO.out]⟩, hB0⟩
end Go.Proofs.YtcfplkbbgjiocaaDoor
