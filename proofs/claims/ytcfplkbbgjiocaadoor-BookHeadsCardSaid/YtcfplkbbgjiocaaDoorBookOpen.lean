/- Package book: open, Valid. Conditions: a slice of postings that can be read. -/
import Derived.Test.YtcfplkbbgjiocaaDoorBookTakes
namespace Go.Proofs.YtcfplkbbgjiocaaDoor
open Go Go.RowKit Go.Shelf
def bkOf (g : Nat → Pst) : Nat → Nat → Bool
  | 0 => fun _ => false
  | k + 1 => bkNext (bkOf g k) (g k)
def BookOk (teams closed : Int) (n : Nat) (g : Nat → Pst) : Prop := (within teams 2 4 ∧ within closed 0 12) ∧ ∀ i, i < n → TakesOk g i (bkOf g i) (teams - 1) (g i)
theorem BookOk.small {teams closed : Int} {n : Nat} {g : Nat → Pst} (h : BookOk teams closed n g) : n ≤ 200 := by
  rcases n with _ | n
  · omega
  · have := (h.2 n (by omega)).1
    omega
theorem zero_ledger : ∃ Z : Array Value, (∀ W : World, (zeroValue 74).run Tryd.prog W = .ok (.agg Z) W) ∧ Z.size = 203 ∧ ∀ i, i < 200 → Z[3 + i]? = some (.bool false) := by
  have h : (Tryd.prog.info? 74).map (fun i => i.zero) = some (some (.agg (#[.int .i64 0, .slice none 0 0, .int .i64 0] ++ Array.replicate 200 (.bool false)))) := by kernel_rfl
  cases hi : Tryd.prog.info? 74 with
  | none => rw [hi] at h; cases h
  | some i =>
    rw [hi] at h
    simp only [Option.map_some, Option.some.injEq] at h
    refine ⟨#[.int .i64 0, .slice none 0 0, .int .i64 0] ++ Array.replicate 200 (.bool false), fun W => ?_, ?_, fun j hj => ?_⟩
    · simp [zeroValue, typeInfo, hi, h]
    · simp
    · rw [Array.getElem?_append_right (by simp), Array.getElem?_replicate]
      simp [hj]
/-- What open does. -/
def IsOpen (w : World) (teams closed : Int) (n : Nat) (g : Nat → Pst) (e : Ending) (w' : World) : Prop :=
  ∃ (q : Option Addr) (r : Bool), e = .returned (.tuple #[.pointer q, .bool r]) ∧ (r = true ↔ BookOk teams closed n g) ∧ Below w.heap.size w w' ∧
    (r = true → ∃ (B base : Nat) (v : Value), q = some ⟨B, 0, none⟩ ∧ B < base ∧ base ≤ w'.heap.size ∧ w.heap.size ≤ B ∧ LBox w' B teams v closed (bkOf g n) ∧ w'.ownsRow base 27 7 v n (flatP g n))
theorem IsOpen.no {w w' : World} {teams closed : Int} {n : Nat} {g : Nat → Pst} {q : Option Addr} (h : ¬ BookOk teams closed n g) (hb : Below w.heap.size w w') : IsOpen w teams closed n g (.returned (.tuple #[.pointer q, .bool false])) w' :=
  ⟨q, false, rfl, by simp [h], hb, by simp⟩
set_option maxRecDepth 100000 in
set_option maxHeartbeats 4000000 in
theorem open_any (teams closed : Int) (p : Option Addr) (n c : Nat) (g : Nat → Pst) (w : World) (hn : n ≤ maxLen) (hr : ReadsP w p n g) :
    Calls Tryd.prog 33 #[.agg #[.int .i64 teams, .slice p n c, .int .i64 closed]] w (IsOpen w teams closed n g) := by
  have HRD := Lib.hid hr
  clear hr
  unfold maxLen at hn
  obtain ⟨Z, hz, hzs, hzb⟩ := zero_ledger
  obtain ⟨top, htop⟩ : ∃ t, IntKind.i64.wrap (teams - 1) = t := ⟨_, rfl⟩
  have HTOP := Lib.hid htop
  have hBL : LBox ((w.alloc (.cells #[.int .i64 teams, .slice p n c, .int .i64 closed] 24)).alloc (.cells (((Z.setIfInBounds 0 (.int .i64 teams)).setIfInBounds 1 (.slice none 0 0)).setIfInBounds 2 (.int .i64 closed)) 74)) (w.heap.size + 1) teams (.slice none 0 0) closed (bkOf g 0) := by
    have h := World.alloc_heap_new (w.alloc (.cells #[.int .i64 teams, .slice p n c, .int .i64 closed] 24)) (.cells (((Z.setIfInBounds 0 (.int .i64 teams)).setIfInBounds 1 (.slice none 0 0)).setIfInBounds 2 (.int .i64 closed)) 74)
    rw [World.size_alloc] at h
    refine ⟨_, h, ?_, ?_, ?_, fun i hi => ?_⟩
    · rw [Array.getElem?_setIfInBounds_ne (by omega), Array.getElem?_setIfInBounds_ne (by omega), Array.getElem?_setIfInBounds_self_of_lt (by omega)]
    · rw [Array.getElem?_setIfInBounds_ne (by omega), Array.getElem?_setIfInBounds_self_of_lt (by simp; omega)]
    · rw [Array.getElem?_setIfInBounds_self_of_lt (by simp; omega)]
    · rw [Array.getElem?_setIfInBounds_ne (by omega), Array.getElem?_setIfInBounds_ne (by omega), Array.getElem?_setIfInBounds_ne (by omega), hzb i hi]
      rfl
  have hB0 : Below w.heap.size w ((w.alloc (.cells #[.int .i64 teams, .slice p n c, .int .i64 closed] 24)).alloc (.cells (((Z.setIfInBounds 0 (.int .i64 teams)).setIfInBounds 1 (.slice none 0 0)).setIfInBounds 2 (.int .i64 closed)) 74)) := ((Below.refl _ _).alloc (Nat.le_refl _) _).alloc (by simp) _
  have hb0 : ((w.alloc (.cells #[.int .i64 teams, .slice p n c, .int .i64 closed] 24)).alloc (.cells (((Z.setIfInBounds 0 (.int .i64 teams)).setIfInBounds 1 (.slice none 0 0)).setIfInBounds 2 (.int .i64 closed)) 74)).cell? ⟨w.heap.size, 0, none⟩ = some (.int .i64 teams) :=
    (((Below.refl (w.heap.size + 1) _).alloc (by simp) _).cell (p := ⟨w.heap.size, 0, none⟩) (by show w.heap.size < w.heap.size + 1; omega)).trans (by simp)
  have hb2 : ((w.alloc (.cells #[.int .i64 teams, .slice p n c, .int .i64 closed] 24)).alloc (.cells (((Z.setIfInBounds 0 (.int .i64 teams)).setIfInBounds 1 (.slice none 0 0)).setIfInBounds 2 (.int .i64 closed)) 74)).cell? ⟨w.heap.size, 2, none⟩ = some (.int .i64 closed) :=
    (((Below.refl (w.heap.size + 1) _).alloc (by simp) _).cell (p := ⟨w.heap.size, 2, none⟩) (by show w.heap.size < w.heap.size + 1; omega)).trans (by simp)
  have HB0 := Lib.hid hb0
  have HB2 := Lib.hid hb2
  have HBL := Lib.hid hBL
  have HBB := Lib.hid hB0
  clear hb0 hb2 hBL hB0 hzb htop
  go_enter Tryd.func33, Tryd.ntmps33
  go_wp2_with fail
  obtain ⟨w2, hw2⟩ : ∃ w2, ((w.alloc (.cells #[.int .i64 teams, .slice p n c, .int .i64 closed] 24)).alloc (.cells (((Z.setIfInBounds 0 (.int .i64 teams)).setIfInBounds 1 (.slice none 0 0)).setIfInBounds 2 (.int .i64 closed)) 74)) = w2 := ⟨_, rfl⟩
  rw [hw2] at HB0 HB2 HBL HBB ⊢
  obtain ⟨S, hS⟩ : ∃ S, w.heap.size = S := ⟨_, rfl⟩
  have HS := Lib.hid hS
  rw [hS] at HB0 HB2 HBL ⊢
  clear hw2 hz hS hzs
  have h0 := World.ownsRow_nil w2 w2.heap.size 27 7
  have hSl : S + 1 < w2.heap.size := HBL.out.lt
  obtain ⟨base, hbase⟩ : ∃ b, w2.heap.size = b := ⟨_, rfl⟩
  have HBS := Lib.hid hbase
  rw [hbase] at h0 hSl
  clear hbase
  go_loopw [17] (fun z wr => ∃ (k : Nat) (v : Value), k ≤ n ∧ z = .int .i64 k ∧ LBox wr (S + 1) teams v closed (bkOf g k) ∧ wr.ownsRow base 27 7 v k (flatP g k) ∧ Hid (∀ i, i < k → TakesOk g i (bkOf g i) top (g i)) ∧ base ≤ wr.heap.size ∧
    wr.cell? ⟨S, 0, none⟩ = some (.int .i64 teams) ∧ wr.cell? ⟨S, 2, none⟩ = some (.int .i64 closed) ∧ Hid (Below w.heap.size w wr)) (fun z _ => n - (intOf z).toNat)
  case atStart => exact ⟨0, _, by omega, rfl, HBL.out, h0, Lib.hid (fun i hi => by omega), Nat.le_of_eq HBS.out.symm, HB0.out, HB2.out, HBB⟩
  case round =>
    obtain ⟨k, v, hk, rfl, hx, hrow, HT, hbs, c0, c2, HB⟩ := hrel
    clear h0
    by_cases hlt : k < n
    · obtain ⟨b, off, rfl, hcs⟩ := HRD.out.below HB.out k hlt
      have hpc := pcells_of (hcs k hlt)
      obtain ⟨p0, p1, p2, p3, p4, p5, p6⟩ := hpc
      have v0 : (0 : Int) ≤ (k : Int) := by omega
      have v1 : (k : Int) < (n : Int) := by omega
      have hk200 : k ≤ 200 := by
        rcases k with _ | k
        · omega
        · have := (HT.out k (by omega)).1
          omega
      have HTA := Lib.hid (takes_any (S + 1) base teams closed v k g (bkOf g k) (g k) (wr.alloc (.cells (g k).cells 27)) (hx.alloc _) (hrow.alloc _) (by omega) (by rw [World.size_alloc]; omega) hk200)
      have hal : Below (S + 1) wr (wr.alloc (.cells (g k).cells 27)) := (Below.refl _ _).alloc (by omega) _
      have HAL := Lib.hid hal
      have HC0 := Lib.hid c0
      have HC2 := Lib.hid c2
      clear hcs c0 c2 hal hx hrow
      go_wp2_with fail
      refine HTA.out.mono ?_
      rintro e w3 ⟨r, rfl, hiff, hbw, hst, _, _⟩
      have hbb := HAL.out.trans hbw
      have c0 := (hbb.cell (p := ⟨S, 0, none⟩) (by show S < S + 1; omega)).trans HC0.out
      have c2 := (hbb.cell (p := ⟨S, 2, none⟩) (by show S < S + 1; omega)).trans HC2.out
      rw [HTOP.out] at hiff
      have hB3 := HB.out.trans (hbb.mono (by have := HS.out; omega))
      cases r with
      | true =>
        obtain ⟨v', hx', hrow'⟩ := hst rfl
        have hT := hiff.1 (by trivial)
        have hbs3 : base ≤ w3.heap.size := Nat.le_trans hbs hbb.size
        rw [← flatP_succ] at hrow'
        have HX := Lib.hid hx'
        have HR := Lib.hid hrow'
        clear hiff hst hbw hbb hx' hrow' p0 p1 p2 p3 p4 p5 p6
        have HT3 : Hid (∀ i, i < k + 1 → TakesOk g i (bkOf g i) top (g i)) := Lib.hid (fun i hi => by
          by_cases e : i = k
          · subst e; exact hT
          · exact HT.out i (by omega))
        clear hT
        go_wp2_with fail
        exact ⟨⟨k + 1, v', by omega, by go_num, HX.out, HR.out, HT3, hbs3, c0, c2, Lib.hid hB3⟩, by simp [intOf]; omega⟩
      | false =>
        have hno : ¬ BookOk teams closed n g := fun h => by
          have h1 := h.2 k hlt
          have h2 : top = teams - 1 := by
            rw [← HTOP.out]
            have := h.1.1
            unfold within at this
            exact IntWalk.i64_in _ (by omega)
          rw [← h2] at h1
          have := hiff.2 h1
          simp at this
        have HNO := Lib.hid hno
        clear hiff hst hno
        go_wp2_with fail
        refine bodyPost_ret (v := .tuple #[.pointer none, .bool false]) (by simp [results, Tryd.results33, go_sem]) rfl ?_
        exact IsOpen.no HNO.out hB3
    · obtain rfl : n = k := by omega
      have hfin : BookOk teams closed n g ↔ within teams 2 4 ∧ within closed 0 12 := by
        refine ⟨fun h => h.1, fun h => ⟨h, fun i hi => ?_⟩⟩
        have h1 := HT.out i hi
        have h2 : top = teams - 1 := by
          rw [← HTOP.out]
          have := h.1
          unfold within at this
          exact IntWalk.i64_in _ (by omega)
        rw [← h2]
        exact h1
      have HF := Lib.hid hfin
      have HX := Lib.hid hx
      have HR := Lib.hid hrow
      clear hfin hx hrow
      by_cases ht : within teams 2 4
      · have d1 : decide (within teams 2 4) = true := decide_eq_true ht
        have HTT := Lib.hid ht
        clear ht
        go_wp2_with (go_at_call 41; refine (isIn_any _ _ _ _).mono ?_; rintro e w1 ⟨rfl, rfl⟩)
        refine bodyPost_ret (v := .tuple #[.pointer (some ⟨S + 1, 0, none⟩), .bool (decide (within closed 0 12))]) (by simp [results, Tryd.results33, go_sem]) rfl ?_
        exact ⟨_, _, rfl, by rw [HF.out, decide_eq_true_iff]; exact ⟨fun h => ⟨HTT.out, h⟩, fun h => h.2⟩, HB.out, fun _ => ⟨S + 1, base, v, rfl, by omega, hbs, by have := HS.out; omega, HX.out, HR.out⟩⟩
      · have d1 : decide (within teams 2 4) = false := decide_eq_false ht
        have HTT := Lib.hid ht
        clear ht
        go_wp2_with (go_at_call 41; refine (isIn_any _ _ _ _).mono ?_; rintro e w1 ⟨rfl, rfl⟩)
        refine bodyPost_ret (v := .tuple #[.pointer (some ⟨S + 1, 0, none⟩), .bool false]) (by simp [results, Tryd.results33, go_sem]) rfl ?_
        exact IsOpen.no (fun h => HTT.out (HF.out.1 h).1) HB.out
/-- A bool was handed back, true where a law holds. -/
def Says (e : Ending) (p : Prop) : Prop := ∃ r : Bool, e = .returned (.bool r) ∧ (r = true ↔ p)
theorem valid_any (teams closed : Int) (p : Option Addr) (n c : Nat) (g : Nat → Pst) (w : World) (hn : n ≤ maxLen) (hr : ReadsP w p n g) :
    Calls Tryd.prog 24 #[.agg #[.int .i64 teams, .slice p n c, .int .i64 closed]] w fun e w' => Says e (BookOk teams closed n g) ∧ Below w.heap.size w w' := by
  have hB : Below w.heap.size w (w.alloc (.cells #[.int .i64 teams, .slice p n c, .int .i64 closed] 24)) := (Below.refl _ _).alloc (Nat.le_refl _) _
  have HO := Lib.hid (open_any teams closed p n c g _ hn (hr.below hB))
  clear hr
  go_enter Tryd.func24, Tryd.ntmps24
  go_wp2_with fail
  refine HO.out.mono ?_
  rintro e w1 ⟨q, r, rfl, hiff, hb, _⟩
  go_wp2_with fail
  go_ret
  exact ⟨⟨r, rfl, hiff⟩, hB.trans (hb.mono hB.size)⟩
end Go.Proofs.YtcfplkbbgjiocaaDoor
