/- The reference of chapter 27: Owed. Conditions: a slice of at most 1000 postings that can be read; numbers of 64 bits. -/
import Derived.Test.YtcfplkbbgjiocaaBookOwed
import Derived.Test.YtcfplkbbgjiocaaRefStatement
namespace Go.Proofs.Ytcfplkbbgjiocaa
open Go Go.RowKit Go.Shelf
/-- Numbers in a block that may be written. -/
def NBox (W : World) (G n : Nat) (f : Nat → Int) : Prop := ∃ (cs : Array Value) (t : TypeId), W.heap[G]? = some (.cells cs t (0, 0)) ∧ ∀ i, i < n → cs[i]? = some (.int .i64 (f i))
section
variable {W W' : World} {G n : Nat} {f : Nat → Int}
theorem NBox.lt (h : NBox W G n f) : G < W.heap.size := by
  obtain ⟨cs, t, h, _⟩ := h
  exact (Array.getElem?_eq_some_iff.1 h).1
theorem NBox.cell (h : NBox W G n f) (i : Nat) (hi : i < n) : W.cell? ⟨G, i, none⟩ = some (.int .i64 (f i)) := by
  obtain ⟨cs, t, h, hc⟩ := h
  unfold World.cell?
  simp only [h]
  exact hc i hi
theorem NBox.free (h : NBox W G n f) (i : Nat) : W.frozen? ⟨G, i, none⟩ = false := by
  obtain ⟨cs, t, h, _⟩ := h
  unfold World.frozen?
  rw [h]
  simp
theorem NBox.below (h : NBox W G n f) (hb : Below W.heap.size W W') : NBox W' G n f := by
  have hl := h.lt
  obtain ⟨cs, t, h, hc⟩ := h
  exact ⟨cs, t, (hb.block _ hl).trans h, hc⟩
theorem NBox.drew (h : NBox W G n f) : NBox W.drew G n f := h
theorem NBox.set (h : NBox W G n f) (j : Nat) (hj : j < n) (x : Int) : NBox (W.setCell ⟨G, j, none⟩ (.int .i64 x)) G n (fun i => if i = j then x else f i) := by
  obtain ⟨cs, t, h, hc⟩ := h
  have hl := (Array.getElem?_eq_some_iff.1 (hc j hj)).1
  refine ⟨_, t, heap_set h _, fun i hi => ?_⟩
  by_cases e : i = j
  · subst e
    rw [Array.getElem?_setIfInBounds_self_of_lt hl]
    simp
  · rw [Array.getElem?_setIfInBounds_ne (by omega), hc i hi]
    simp [e]
theorem NBox.congr {f' : Nat → Int} (h : NBox W G n f) (e : ∀ i, i < n → f' i = f i) : NBox W G n f' := by
  obtain ⟨cs, t, h, hc⟩ := h
  exact ⟨cs, t, h, fun i hi => by rw [hc i hi, e i hi]⟩
theorem NBox.reads (h : NBox W G n f) : ReadsI W (some ⟨G, 0, none⟩) n f := fun i _ => ⟨G, 0, rfl, fun j hj => by rw [Nat.zero_add]; exact h.cell j hj⟩
end
theorem make_ints (n : Nat) (hn : n ≤ 1000) : ∃ o : Obj, (∀ W : World, (Instr.makeSlice 37 (.int .i64 (n : Nat)) (.int .i64 (n : Nat))).run Try.prog W = .ok (.slice (some ⟨W.heap.size, 0, none⟩) n n) (W.alloc o)) ∧ ∀ W : World, NBox (W.alloc o) W.heap.size n (fun _ => 0) := by
  obtain ⟨i0, hi0, hj0, hj1, hj2⟩ := infoInt
  refine ⟨.cells (madeCells (Value.int .i64 0).cells (n * i0.size)) 3, fun W => ?_, fun W => ⟨_, _, World.alloc_heap_new W _, fun i hi => ?_⟩⟩
  · have h := run_make (P := Try.prog) W 37 3 i0 (.int .i64 0) Try.underlying37 hi0 hj0 .i64 .i64 (n : Int) (n : Int) (by omega) (by omega) (by rw [hj2]; omega) (by omega)
    simp only [Int.toNat_natCast] at h
    exact h
  · have hm : (madeCells (Value.int .i64 0).cells (n * i0.size)).toList = List.replicate n (.int .i64 0) := by
      rw [hj1]
      exact made_one (.int .i64 0) rfl n
    rw [← Array.getElem?_toList, hm, List.getElem?_replicate, if_pos hi]
/-- Whether a posting stands, as far as the ones before the m-th tell. -/
def stdP (g : Nat → Pst) (sub : Int) (i m : Nat) : Prop := (g i).kind = 1 ∧ (g i).sub = sub ∧ ∀ k, i < k → k < m → (g k).of ≠ (i : Int)
theorem bkOf_iff {teams closed : Int} {g : Nat → Pst} {top : Int} : ∀ n, (∀ i, i < n → TakesOk g i (bkOf g i) top (g i)) → ∀ i, i < n → (bkOf g n i = true ↔ ∃ k, i < k ∧ k < n ∧ (g k).of = (i : Int))
  | 0, _, i, hi => by omega
  | n + 1, h, i, hi => by
    have hT := h n (by omega)
    show (bkNext (bkOf g n) (g n) i = true) ↔ _
    unfold bkNext
    by_cases hin : i < n
    · have ih := bkOf_iff (teams := teams) (closed := closed) n (fun j hj => h j (by omega)) i hin
      by_cases hk : (g n).kind = 2 ∧ i = (g n).of.toNat
      · rw [if_pos hk]
        have hf := hT.2.1.2.2.2.2.2.2
        unfold within at hf
        exact ⟨fun _ => ⟨n, hin, by omega, by omega⟩, fun _ => rfl⟩
      · rw [if_neg hk, ih]
        constructor
        · rintro ⟨k, h1, h2, h3⟩
          exact ⟨k, h1, by omega, h3⟩
        · rintro ⟨k, h1, h2, h3⟩
          by_cases e : k = n
          · subst e
            exfalso
            have hf := hT.2.1.2.2.2.2.2.2
            unfold within at hf
            apply hk
            omega
          · exact ⟨k, h1, by omega, h3⟩
    · obtain rfl : i = n := by omega
      have hnot : ∀ m, m ≤ i → bkOf g m i = false := by
        intro m
        induction m with
        | zero => intro _; rfl
        | succ m ih =>
          intro hm
          show bkNext (bkOf g m) (g m) i = false
          unfold bkNext
          rw [if_neg (fun e => by
            have h2 := ((h m (by omega)).2.2.2 e.1).1
            have := (h m (by omega)).2.1.2.2.2.2.2.2
            unfold within at this
            omega)]
          exact ih (by omega)
      rw [hnot i (Nat.le_refl _), if_neg (fun e => by
        have h2 := (hT.2.2.2 e.1).1
        have := hT.2.1.2.2.2.2.2.2
        unfold within at this
        omega)]
      constructor
      · intro h; cases h
      · rintro ⟨k, h1, h2, _⟩
        omega
theorem stdP_owed {teams closed sub : Int} {n : Nat} {g : Nat → Pst} (h : BookOk teams closed n g) (i : Nat) (hi : i < n) : stdP g sub i n ↔ owedD g n sub i = true := by
  have hb := bkOf_iff (teams := teams) (closed := closed) n h.2 i hi
  unfold stdP owedD
  rw [decide_eq_true_iff]
  constructor
  · rintro ⟨a, b, c⟩
    refine ⟨a, b, ?_⟩
    cases hx : bkOf g n i with
    | false => rfl
    | true =>
      obtain ⟨k, h1, h2, h3⟩ := hb.1 hx
      exact absurd h3 (c k h1 h2)
  · rintro ⟨a, b, c⟩
    refine ⟨a, b, fun k h1 h2 h3 => ?_⟩
    rw [hb.2 ⟨k, h1, h2, h3⟩] at c
    cases c
set_option maxRecDepth 100000 in
set_option maxHeartbeats 8000000 in
theorem ref_Owed_any (teams closed sub : Int) (q : Option Addr) (n c : Nat) (g : Nat → Pst) (w : World) (hn : n ≤ maxLen) (hr : ReadsP w q n g) :
    Calls Try.prog 25 #[.agg #[.int .i64 teams, .slice q n c, .int .i64 closed], .int .i64 sub] w (IsInts w (OwedSpec teams closed n g sub)) := by
  have hb1 := BkBox.new w teams closed (.slice q n c)
  have hal1 : Below w.heap.size w (w.alloc (.cells #[.int .i64 teams, .slice q n c, .int .i64 closed] 24)) := (Below.refl _ _).alloc (Nat.le_refl _) _
  obtain ⟨w1, hw1⟩ : ∃ w1, w.alloc (.cells #[.int .i64 teams, .slice q n c, .int .i64 closed] 24) = w1 := ⟨_, rfl⟩
  rw [hw1] at hb1 hal1
  have HW := Lib.hid hw1
  have hr1 := hr.below hal1
  have HRD := Lib.hid hr1
  have HO := Lib.hid (ref_valid_any teams closed q n c g w1 hn hr1)
  have HB1 := Lib.hid hal1
  have HBK1 := Lib.hid hb1
  obtain ⟨b0, b1, b2⟩ := hb1.cells
  clear hr hb1 hal1 hw1 hr1
  go_enter Try.func25, Try.ntmps25
  go_upto_region 1 with fail
  obtain ⟨S, hS⟩ : ∃ S, w.heap.size = S := ⟨_, rfl⟩
  have HS := Lib.hid hS
  rw [hS] at HBK1 b0 b1 b2
  rw [HW.out, hS]
  clear hS HW
  go_wp2_with fail
  refine HO.out.mono ?_
  rintro e w2 ⟨⟨r, rfl, hiff⟩, hb2⟩
  have HBK2 := Lib.hid (HBK1.out.below hb2)
  have HRD2 := Lib.hid (HRD.out.below hb2)
  have HB2 := Lib.hid (HB1.out.trans (hb2.mono HB1.out.size))
  have HIFF := Lib.hid hiff
  clear b0 b1 b2 hiff hb2
  obtain ⟨b0, b1, b2⟩ := HBK2.out.cells
  cases r with
  | false =>
    have HNO : Hid (¬ OwedGood teams closed n g sub) := Lib.hid (fun h => by have := HIFF.out.2 h.1; simp at this)
    go_wp2_with fail
    refine bodyPost_ret (v := .tuple #[.slice none 0 0, .int .i64 270]) (by simp [results, Try.results25, go_sem]) rfl ?_
    exact ⟨none, 0, 0, fun _ => 0, 270, rfl, .inr ⟨HNO.out, rfl, rfl⟩, fun i hi => by omega, nofun, HB2.out⟩
  | true =>
    have HOK : Hid (BookOk teams closed n g) := Lib.hid (HIFF.out.1 (by trivial))
    have hts := HOK.out.1.1
    unfold within at hts
    obtain ⟨tn, rfl⟩ : ∃ tn : Nat, teams = (tn : Int) := ⟨teams.toNat, by omega⟩
    have htn : 2 ≤ tn ∧ tn ≤ 4 := by omega
    obtain ⟨htn1, htn2⟩ := htn
    have hn200 := HOK.out.small
    clear hts
    by_cases hm : within sub 0 999
    · have d1 : decide (within sub 0 999) = true := decide_eq_true hm
      have HG : Hid (OwedGood (tn : Int) closed n g sub) := Lib.hid ⟨HOK.out, hm⟩
      clear hm
      obtain ⟨ob, hmk, hnb⟩ := make_ints tn (by omega)
      have v0 : (0 : Int) ≤ (tn : Int) := by omega
      have HNB0 := Lib.hid (hnb w2)
      have hal3 : Below w2.heap.size w2 (w2.alloc ob) := (Below.refl _ _).alloc (Nat.le_refl _) _
      have HAL3 := Lib.hid hal3
      clear hnb hal3
      go_upto_region 4 with (go_at_call 30; refine (in_any _ _ _ _).mono ?_; rintro e w1 ⟨rfl, rfl⟩)
      obtain ⟨w3, hw3⟩ : ∃ w3, w2.alloc ob = w3 := ⟨_, rfl⟩
      rw [hw3] at HNB0 HAL3 ⊢
      obtain ⟨G, hG⟩ : ∃ G, w2.heap.size = G := ⟨_, rfl⟩
      rw [hG] at HNB0 ⊢
      have HGW := Lib.hid hG
      clear hw3 hG hmk b0 b1 b2
      have HBK3 := Lib.hid (HBK2.out.below HAL3.out)
      have HRD3 := Lib.hid (HRD2.out.below HAL3.out)
      have HB3 : Hid (Below w.heap.size w w3) := Lib.hid (HB2.out.trans (HAL3.out.mono HB2.out.size))
      have HSG : Hid (S < G) := Lib.hid (by have := HBK2.out.lt; have := HGW.out; omega)
      go_wp2_with fail
      have hG3 : G < w3.heap.size := HNB0.out.lt
      go_loopw [7] (fun z wr => ∃ k : Nat, k ≤ n ∧ z = .int .i64 k ∧ NBox wr G tn (fun t : Nat => sumD (owedD g n sub) g (t : Int) k) ∧ Below G w3 wr) (fun z _ => n - (intOf z).toNat)
      case atStart => exact ⟨0, by omega, rfl, HNB0.out, Below.refl _ _⟩
      case round =>
        obtain ⟨k, hk, rfl, hN, hb⟩ := hrel
        have hbk := (HBK3.out.low hb HSG.out)
        obtain ⟨b0, b1, b2⟩ := hbk.cells
        have HRDW : Hid (ReadsP wr q n g) := Lib.hid (by
          intro i hi
          obtain ⟨b, o, rfl, hc⟩ := HRD2.out i hi
          exact ⟨b, o, rfl, fun j hj c hc' => ((hb.cell (p := ⟨b, o + j * 7 + c, none⟩) (by have := cell_lt (hc j hj c hc'); rw [HGW.out] at this; exact this)).trans ((HAL3.out.cell (p := ⟨b, o + j * 7 + c, none⟩) (cell_lt (hc j hj c hc'))).trans (hc j hj c hc')))⟩)
        by_cases hlt : k < n
        · obtain ⟨b, o, rfl, hcs⟩ := HRDW.out k hlt
          obtain ⟨p0, p1, p2, p3, p4, p5, p6⟩ := pcells_of (hcs k hlt)
          have v1 : (k : Int) < (n : Int) := by omega
          have v2 : (0 : Int) ≤ (k : Int) := by omega
          have hal : Below wr.heap.size wr (wr.alloc (.cells (g k).cells 27)) := (Below.refl _ _).alloc (Nat.le_refl _) _
          have hpc := PCells.new wr (g k) 27
          obtain ⟨w5, hw5⟩ : ∃ w5, wr.alloc (.cells (g k).cells 27) = w5 := ⟨_, rfl⟩
          have HW5 := Lib.hid (show wr.alloc (.cells #[.int .i64 (g k).kind, .int .i64 (g k).day, .int .i64 (g k).deb, .int .i64 (g k).cre, .int .i64 (g k).amt, .int .i64 (g k).sub, .int .i64 (g k).of] 27) = w5 from hw5)
          rw [hw5] at hal hpc
          have HN5 := Lib.hid (hN.below hal)
          have hbk5 := hbk.below hal
          have HB5 := Lib.hid (hb.trans (hal.mono (Nat.le_trans (by omega) hb.size)))
          have HRD5 := Lib.hid (HRDW.out.below hal)
          have HPC := Lib.hid hpc
          have HBK5 := Lib.hid hbk5
          have hPG : G ≠ wr.heap.size := by have := hN.lt; omega
          obtain ⟨P, hP⟩ : ∃ P, wr.heap.size = P := ⟨_, rfl⟩
          have HP := Lib.hid hP
          rw [hP] at HPC hPG
          obtain ⟨sb, hsb⟩ : ∃ sb : Bool, sb = true ↔ stdP g sub k (k + 1) := by
            by_cases h : stdP g sub k (k + 1)
            · exact ⟨true, by simp [h]⟩
            · exact ⟨false, by simp [h]⟩
          have hs0 : sb = true ↔ ((g k).kind = 1 ∧ (g k).sub = sub) := by
            rw [hsb]
            exact ⟨fun h => ⟨h.1, h.2.1⟩, fun h => ⟨h.1, h.2, fun j h1 h2 => by omega⟩⟩
          clear hcs hN hw5 hal hpc hbk5 hP hbk
          go_upto_region 8 with fail
          rw [HW5.out, HP.out]
          clear b0 b1 b2 p0 p1 p2 p3 p4 p5 p6 HW5
          obtain ⟨q0, q1, q2, q3, q4, q5, q6⟩ := HPC.out
          obtain ⟨b0, b1, b2⟩ := HBK5.out.cells
          go_cut [9] (fun v wx => v = .bool sb ∧ w5 = wx)
          case first =>
            by_cases e1 : (g k).kind = 1
            · have d3 : ((g k).kind == 1) = true := by simp [e1]
              by_cases e2 : (g k).sub = sub
              · have d4 : ((g k).sub == sub) = true := by simp [e2]
                have hsT : sb = true := hs0.2 ⟨e1, e2⟩
                clear e1 e2
                go_wp2_with fail
                go_meet
                exact ⟨by rw [hsT], rfl⟩
              · have d4 : ((g k).sub == sub) = false := by simp [e2]
                have hsF : sb = false := by
                  cases sb with
                  | false => rfl
                  | true => exact absurd (hs0.1 rfl).2 e2
                clear e1 e2
                go_wp2_with fail
                go_meet
                exact ⟨by rw [hsF], rfl⟩
            · have d3 : ((g k).kind == 1) = false := by simp [e1]
              have hsF : sb = false := by
                cases sb with
                | false => rfl
                | true => exact absurd (hs0.1 rfl).1 e1
              clear e1
              go_wp2_with fail
              go_meet
              exact ⟨by rw [hsF], rfl⟩
          case rest =>
            obtain ⟨rfl, rfl⟩ := hcut
            clear q0 q1 q2 q3 q4 q5 q6
            go_wp2_with fail
            go_loopw [9, 10] (fun sv kv wx => ∃ (m : Nat) (sb : Bool), k + 1 ≤ m ∧ m ≤ n ∧ kv = .int .i64 m ∧ sv = .bool sb ∧ (sb = true ↔ stdP g sub k m) ∧ w5 = wx) (fun _ kv _ => n - (intOf kv).toNat)
            case atStart => exact ⟨k + 1, sb, by omega, by omega, by go_num, rfl, hsb, rfl⟩
            case round =>
              obtain ⟨m, sb, hm1, hm2, rfl, rfl, hsm, rfl⟩ := hrel
              by_cases hlm : m < n
              · obtain ⟨b9, o9, he9, hcm⟩ := HRD5.out m hlm
                obtain ⟨rfl, rfl⟩ : b = b9 ∧ o = o9 := by simpa using he9
                have hom := hcm m hlm 6 (by omega)
                have v3 : (m : Int) < (n : Int) := by omega
                have v4 : (0 : Int) ≤ (m : Int) := by omega
                have hom2 : w5.cell? ⟨b, o + m * 7 + 6, none⟩ = some (.int .i64 (g m).of) := hom
                clear hcm hom he9
                have hst : stdP g sub k (m + 1) ↔ stdP g sub k m ∧ (g m).of ≠ (k : Int) := by
                  unfold stdP
                  constructor
                  · rintro ⟨a, b, c⟩
                    exact ⟨⟨a, b, fun j h1 h2 => c j h1 (by omega)⟩, c m (by omega) (by omega)⟩
                  · rintro ⟨⟨a, b, c⟩, d⟩
                    refine ⟨a, b, fun j h1 h2 => ?_⟩
                    by_cases e : j = m
                    · subst e; exact d
                    · exact c j h1 (by omega)
                have HST := Lib.hid hst
                have HSM := Lib.hid hsm
                clear hst hsm hs0 hsb
                cases sb with
                | false =>
                  go_wp2_with fail
                  exact ⟨⟨m + 1, false, by omega, by omega, by go_num, rfl, by rw [HST.out, ← HSM.out]; simp, trivial⟩, by simp [intOf]; omega⟩
                | true =>
                  by_cases he : (g m).of = (k : Int)
                  · have d5 : ((g m).of != (k : Int)) = false := by simp [he]
                    have HE := Lib.hid he
                    clear he
                    go_wp2_with fail
                    exact ⟨⟨m + 1, false, by omega, by omega, by go_num, rfl, by rw [HST.out]; simp [HE.out], trivial⟩, by simp [intOf]; omega⟩
                  · have d5 : ((g m).of != (k : Int)) = true := by simp [he]
                    have HE := Lib.hid he
                    clear he
                    go_wp2_with fail
                    exact ⟨⟨m + 1, true, by omega, by omega, by go_num, rfl, by rw [HST.out]; exact ⟨fun _ => ⟨HSM.out.1 rfl, HE.out⟩, fun _ => rfl⟩, trivial⟩, by simp [intOf]; omega⟩
              · obtain rfl : m = n := by omega
                rw [stdP_owed HOK.out k hlt] at hsm
                have HSM := Lib.hid hsm
                clear hsm hs0 hsb
                have hf := (HOK.out.2 k hlt).2.1
                have hbdf := fun t : Int => sumD_bd (d := owedD g m sub) (team := t) k (fun i hi => (HOK.out.2 i (by omega)).2.1)
                obtain ⟨cn, dn, e1, e2, _, _, e5, e8, e9, e6, e7⟩ := formed_teams hf htn2
                have HEF : Hid (∀ i : Nat, eff (g k) i = (if i = cn then (g k).amt else 0) - (if i = dn then (g k).amt else 0)) := Lib.hid (fun i => by
                  unfold eff
                  rw [e1, e2]
                  by_cases e1 : i = cn <;> by_cases e2 : i = dn
                  · omega
                  · rw [if_pos (by omega), if_neg (by omega), if_pos e1, if_neg e2]
                  · rw [if_neg (by omega), if_pos (by omega), if_neg e1, if_pos e2]
                  · rw [if_neg (by omega), if_neg (by omega), if_neg e1, if_neg e2])
                have HSUM : Hid (∀ t : Int, sumD (owedD g m sub) g t (k + 1) = sumD (owedD g m sub) g t k + if owedD g m sub k = true then eff (g k) t else 0) := Lib.hid (fun t => rfl)
                cases sb with
                | false =>
                  have hd : ¬ owedD g m sub k = true := fun h => by have := HSM.out.2 h; simp at this
                  go_wp2_with fail
                  exact ⟨⟨k + 1, by omega, by go_num, HN5.out.congr (fun i _ => by show sumD _ g (i : Int) k + _ = _; rw [if_neg hd]; omega), HB5.out⟩, by simp [intOf]; omega⟩
                | true =>
                  have hd : owedD g m sub k = true := HSM.out.1 (by trivial)
                  have HD := Lib.hid hd
                  have hbc := hbdf (cn : Int)
                  have hbd := hbdf (dn : Int)
                  obtain ⟨q0, q1, q2, q3, q4, q5, q6⟩ := HPC.out
                  have x1 := HN5.out.cell cn e8
                  have x2 := HN5.out.free cn
                  rw [e1] at q3
                  rw [e2] at q2
                  have u0 : (0 : Int) ≤ (cn : Int) := by omega
                  have u1 : (cn : Int) < (tn : Int) := by omega
                  have u2 : (0 : Int) ≤ (dn : Int) := by omega
                  have u3 : (dn : Int) < (tn : Int) := by omega
                  obtain ⟨a, hae⟩ : ∃ a, (g k).amt = a := ⟨_, rfl⟩
                  rw [hae] at q4 e6 e7 HEF
                  obtain ⟨y, hy⟩ : ∃ y, sumD (owedD g m sub) g (cn : Int) k = y := ⟨_, rfl⟩
                  obtain ⟨z, hz⟩ : ∃ z, sumD (owedD g m sub) g (dn : Int) k = z := ⟨_, rfl⟩
                  have HY := Lib.hid hy
                  have HZ := Lib.hid hz
                  rw [hy] at x1 hbc
                  rw [hz] at hbd
                  have hyb : -200000000000 ≤ y ∧ y ≤ 200000000000 := by omega
                  have hzb : -200000000000 ≤ z ∧ z ≤ 200000000000 := by omega
                  obtain ⟨y1, y2⟩ := hyb
                  obtain ⟨z1, z2⟩ := hzb
                  clear hd hae hy hz hf hbdf hbc hbd e1 e2
                  go_wp2_with fail
                  go_region
                  all_goals (try go_wp2_with fail)
                  have kk : ∀ o, (w5.setCell ⟨G, cn, none⟩ (.int .i64 (y + a))).drew.cell? ⟨P, o, none⟩ = w5.cell? ⟨P, o, none⟩ := fun o => World.cell?_setCell_far w5 ⟨G, cn, none⟩ ⟨P, o, none⟩ _ hPG
                  have r2 := (kk _).trans q2
                  have r4 := (kk _).trans q4
                  have hN6 := (HN5.out.set cn e8 (y + a)).drew
                  have HB6 : Hid (Below G w3 (w5.setCell ⟨G, cn, none⟩ (.int .i64 (y + a))).drew) := Lib.hid (Below_set HB5.out (b := G) (i := cn) (Nat.le_refl G) (.int .i64 (y + a))).drew
                  obtain ⟨w6, hw6⟩ : ∃ w6, (w5.setCell ⟨G, cn, none⟩ (.int .i64 (y + a))).drew = w6 := ⟨_, rfl⟩
                  rw [hw6] at r2 r4 hN6 HB6 ⊢
                  have x3 := hN6.cell dn e9
                  have x4 := hN6.free dn
                  simp only [if_neg (show ¬ dn = cn from fun e => e5 e.symm)] at x3
                  rw [HZ.out] at x3
                  have HN6 := Lib.hid hN6
                  clear hw6 kk hN6 x1 x2 q0 q1 q2 q3 q4 q5 q6 b0 b1 b2
                  go_region
                  all_goals (try go_wp2_with fail)
                  have hN7 : NBox (w6.setCell ⟨G, dn, none⟩ (.int .i64 (z - a))).drew G tn (fun t : Nat => sumD (owedD g m sub) g (t : Int) (k + 1)) := (HN6.out.set dn e9 (z - a)).drew.congr (fun i hi => by
                    show sumD (owedD g m sub) g (i : Int) (k + 1) = _
                    rw [HSUM.out, if_pos HD.out, HEF.out i]
                    by_cases e1 : i = dn
                    · rw [if_pos e1, if_pos e1, if_neg (by omega), e1, HZ.out]
                      omega
                    · rw [if_neg e1, if_neg e1]
                      by_cases e2 : i = cn
                      · rw [if_pos e2, if_pos e2, e2, HY.out]
                        omega
                      · rw [if_neg e2, if_neg e2]
                        omega)
                  exact ⟨⟨k + 1, by omega, by go_num, hN7, (Below_set HB6.out (b := G) (i := dn) (Nat.le_refl G) (.int .i64 (z - a))).drew⟩, by simp [intOf]; omega⟩
        · obtain rfl : n = k := by omega
          have HRDF := Lib.hid hN.reads
          have HBF := Lib.hid (HB3.out.trans (hb.mono (by have := HB2.out.size; have := HGW.out; omega)))
          have HGF : Hid (w.heap.size ≤ G) := Lib.hid (by have := HB2.out.size; have := HGW.out; omega)
          clear hN hbk
          go_wp2_with fail
          refine bodyPost_ret (v := .tuple #[.slice (some ⟨G, 0, none⟩) tn tn, .int .i64 0]) (by simp [results, Try.results25, go_sem]) rfl ?_
          exact ⟨_, tn, tn, _, 0, rfl, .inl ⟨HG.out, rfl, rfl, fun i _ => rfl⟩, HRDF.out, fun a h => by cases h; exact HGF.out, HBF.out⟩
    · have d1 : decide (within sub 0 999) = false := decide_eq_false hm
      have HNO : Hid (¬ OwedGood (tn : Int) closed n g sub) := Lib.hid (fun h => hm h.2)
      clear hm
      go_wp2_with (go_at_call 30; refine (in_any _ _ _ _).mono ?_; rintro e w1 ⟨rfl, rfl⟩)
      refine bodyPost_ret (v := .tuple #[.slice none 0 0, .int .i64 270]) (by simp [results, Try.results25, go_sem]) rfl ?_
      exact ⟨none, 0, 0, fun _ => 0, 270, rfl, .inr ⟨HNO.out, rfl, rfl⟩, fun i hi => by omega, nofun, HB2.out⟩
end Go.Proofs.Ytcfplkbbgjiocaa
