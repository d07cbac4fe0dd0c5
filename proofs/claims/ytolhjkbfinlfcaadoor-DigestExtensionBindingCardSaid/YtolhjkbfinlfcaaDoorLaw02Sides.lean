/- The law of chapter 2: sides; DigestExtensionBinding returns true. Conditions: the table holds its words; arguments that can be read. -/
import Derived.Test.YtolhjkbfinlfcaaDoorLaw02Way
namespace Go.Proofs.YtolhjkbfinlfcaaDoor
open Go Go.RowKit
theorem sidesL_size (old : ByteArray) (P : Nat → ByteArray) (ho : old.size ≤ 60) (hP : ∀ i, (P i).size ≤ 60) : ∀ (c m n : Nat) (wh : Bool), (sidesL old P c m n wh).2.size ≤ 60
  | 0, _, _, _ => ho
  | c + 1, m, n, wh => by
    rw [sidesL]
    split
    · show (if wh = true then old else P 0).size ≤ 60
      split
      · exact ho
      · exact hP 0
    · split <;> (show 32 ≤ 60; decide)
theorem sidesL_length (old : ByteArray) (P : Nat → ByteArray) : ∀ (c m n : Nat) (wh : Bool), (sidesL old P c m n wh).1.length ≤ c
  | 0, _, _, _ => by simp [sidesL]
  | c + 1, m, n, wh => by
    rw [sidesL]
    split
    · simp
    · split
      · have := sidesL_length old P c m (leftN n) wh
        simp only [List.length_cons]
        omega
      · have := sidesL_length old P c (m - leftN n) (n - leftN n) false
        simp only [List.length_cons]
        omega
theorem sidesL_small (old : ByteArray) (P : Nat → ByteArray) (ho : old.size ≤ 60) (hP : ∀ i, (P i).size ≤ 60) : ∀ (c m n : Nat) (wh : Bool) (x : ByteArray), x ∈ (sidesL old P c m n wh).1 → x.size ≤ 4000
  | 0, _, _, _, x, h => by simp [sidesL] at h
  | c + 1, m, n, wh, x, h => by
    have hp := hP c
    rw [sidesL] at h
    split at h
    · simp at h
    · split at h
      · have hz := sidesL_size old P ho hP c m (leftN n) wh
        rcases List.mem_cons.1 h with h | h
        · rw [h, ByteArray.size_append, ByteArray.size_append]
          show 1 + _ + _ ≤ 4000
          omega
        · exact sidesL_small old P ho hP c _ _ _ x h
      · have hz := sidesL_size old P ho hP c (m - leftN n) (n - leftN n) false
        rcases List.mem_cons.1 h with h | h
        · rw [h, ByteArray.size_append, ByteArray.size_append]
          show 1 + _ + _ ≤ 4000
          omega
        · exact sidesL_small old P ho hP c _ _ _ x h
set_option maxRecDepth 100000 in
set_option maxHeartbeats 4000000 in
theorem sides_any (old : ByteArray) (P : Nat → ByteArray) (ho : old.size ≤ 60) (hP : ∀ i, (P i).size ≤ 60) : ∀ (c : Nat) (p : Option Addr) (cc m n : Nat) (wh : Bool) (w : World) (_ : c ≤ 1000) (_ : c ≤ cc) (_ : 1 ≤ m) (_ : m ≤ n) (_ : n ≤ 9223372036854775807) (_ : ReadsS w p c P) (_ : RoundOk w),
    Calls Tryd.prog 28 #[.string old, .int .i64 (m : Nat), .int .i64 (n : Nat), .slice p c cc, .bool wh] w fun e w' => WayRet (sidesL old P c m n wh) w.heap.size e w' ∧ Below w.heap.size w w' := by
  intro c
  obtain ⟨i0, hi0, hz0, hz1, hz2⟩ := infoStr
  have z3 : (⟨#[1]⟩ : ByteArray).size = 1 := rfl
  induction c with
  | zero =>
    intro p cc m n wh w hc hcc hm hmn hnb hr hT
    have HX : Hid (sidesL old P 0 m n wh = ([], old)) := Lib.hid rfl
    clear hr hT
    by_cases h1 : n ≤ m
    · have n1 : (n : Int) ≤ (m : Int) := by omega
      cases wh with
      | true =>
        go_enter Tryd.func28, Tryd.ntmps28
        go_wp2_with fail
        go_ret2
        refine ⟨?_, Below.refl _ _⟩
        rw [HX.out]
        exact ⟨_, rfl, World.ownsRow_nil _ _ _ _⟩
      | false =>
        go_enter Tryd.func28, Tryd.ntmps28
        go_wp2_with fail
        go_ret2
        refine ⟨?_, Below.refl _ _⟩
        rw [HX.out]
        exact ⟨_, rfl, World.ownsRow_nil _ _ _ _⟩
    · have n1 : ¬ (n : Int) ≤ (m : Int) := by omega
      cases wh with
      | true =>
        go_enter Tryd.func28, Tryd.ntmps28
        go_wp2_with fail
        go_ret2
        refine ⟨?_, Below.refl _ _⟩
        rw [HX.out]
        exact ⟨_, rfl, World.ownsRow_nil _ _ _ _⟩
      | false =>
        go_enter Tryd.func28, Tryd.ntmps28
        go_wp2_with fail
        go_ret2
        refine ⟨?_, Below.refl _ _⟩
        rw [HX.out]
        exact ⟨_, rfl, World.ownsRow_nil _ _ _ _⟩
  | succ c ih =>
    intro p cc m n wh w hc hcc hm hmn hnb hr hT
    have g0 : IntKind.i64.wrap (((c + 1 : Nat) : Int) - 1) = (c : Int) := by rw [IntWalk.i64_in _ (by omega)]; omega
    have d1 : ¬ ((c + 1 : Nat) : Int) = 0 := by omega
    have d4 : (c : Int) < ((c + 1 : Nat) : Int) := by omega
    have d5 : (0 : Int) < ((c + 1 : Nat) : Int) := by omega
    by_cases h1 : n ≤ m
    · have n1 : (n : Int) ≤ (m : Int) := by omega
      have HX : Hid (sidesL old P (c + 1) m n wh = ([], if wh = true then old else P 0)) := Lib.hid (by rw [sidesL, if_pos h1])
      obtain ⟨b, o, rfl, hcl⟩ := hr 0 (by omega)
      have hcell := hcl 0 (by omega)
      rw [Nat.add_zero] at hcell
      obtain ⟨x, hx⟩ : ∃ x, P 0 = x := ⟨_, rfl⟩
      rw [hx] at hcell HX
      obtain ⟨c1, hc1⟩ : ∃ q, c + 1 = q := ⟨_, rfl⟩
      rw [hc1] at g0 HX d1 d4 d5 ⊢
      clear hr hT ih hc1 hcl hx
      cases wh with
      | true =>
        go_enter Tryd.func28, Tryd.ntmps28
        go_wp2_with fail
        go_ret2
        refine ⟨?_, Below.refl _ _⟩
        rw [HX.out]
        exact ⟨_, rfl, World.ownsRow_nil _ _ _ _⟩
      | false =>
        go_enter Tryd.func28, Tryd.ntmps28
        go_wp2_with fail
        go_quiet (fail)
        go_wp2_with fail
        go_ret2
        refine ⟨?_, Below_dn (Below.refl _ _) _⟩
        rw [HX.out]
        exact ⟨_, rfl, World.ownsRow_nil _ _ _ _⟩
    · have n1 : ¬ (n : Int) ≤ (m : Int) := by omega
      have hlf := left_facts (n := n) (by omega)
      have hL := Lib.hid (fun W => law_left_any n W (by omega) (by omega))
      have hval : sidesL old P (c + 1) m n wh = (if m ≤ leftN n then ((⟨#[1]⟩ ++ (sidesL old P c m (leftN n) wh).2 ++ P c) :: (sidesL old P c m (leftN n) wh).1, nodeS (sidesL old P c m (leftN n) wh).2 (P c)) else ((⟨#[1]⟩ ++ P c ++ (sidesL old P c (m - leftN n) (n - leftN n) false).2) :: (sidesL old P c (m - leftN n) (n - leftN n) false).1, nodeS (P c) (sidesL old P c (m - leftN n) (n - leftN n) false).2)) := by rw [sidesL, if_neg h1]
      obtain ⟨k, hk⟩ : ∃ k, leftN n = k := ⟨_, rfl⟩
      rw [hk] at hlf hL hval
      obtain ⟨b, o, rfl, hcell⟩ := hr.last
      have hps := hP c
      have HT := Lib.hid hT
      have d2 : (0 : Int) ≤ (c : Int) := by omega
      have d3 : (c : Int) ≤ (cc : Int) := by omega
      by_cases hik : m ≤ k
      · rw [if_pos hik] at hval
        have e1 :  (m : Int) ≤ (k : Int) := by omega
        have HA := Lib.hid (ih (some ⟨b, o, none⟩) cc (m) (k) wh w (by omega) (by omega) (by omega) (by omega) (by omega) (hr.less (by omega)) hT)
        have hz := sidesL_size old P ho hP c (m) (k) wh
        have hlen := sidesL_length old P c (m) (k) wh
        obtain ⟨r, hrr⟩ : ∃ r, sidesL old P c (m) (k) wh = r := ⟨_, rfl⟩
        rw [hrr] at HA hval hz hlen
        obtain ⟨L, v⟩ := r
        simp only at hval hz hlen
        have HV := Lib.hid hval
        obtain ⟨x, hx⟩ : ∃ x, P c = x := ⟨_, rfl⟩
        rw [hx] at hps HV hcell
        obtain ⟨c1, hc1⟩ : ∃ q, c + 1 = q := ⟨_, rfl⟩
        rw [hc1] at g0 HV d1 d4 d5 hcc hc ⊢
        have hLl : L.length ≤ 2000 := by omega
        clear hx hr ih hc1 hrr hval hk hT hlen
        have HN := Lib.hid (fun W (h : Below w.heap.size w W) => node_any v x W (by omega) (by omega) (HT.out.below h))
        have HSZ : Hid ((⟨#[1]⟩ ++ v ++ x : ByteArray).size ≤ 4000) := Lib.hid (by rw [ByteArray.size_append, ByteArray.size_append]; omega)
        have q1 : (⟨#[1]⟩ ++ v : ByteArray).size ≤ 100 := by rw [ByteArray.size_append]; omega
        have q2 : ¬ 9223372036854775807 < 1 + (v).size := by omega
        have q3 : ¬ 9223372036854775807 < (⟨#[1]⟩ ++ v : ByteArray).size + (x).size := by omega
        go_enter Tryd.func28, Tryd.ntmps28
        go_wp2_with fail
        refine (hL.out _).mono ?_
        rintro e w' ⟨rfl, rfl⟩
        go_wp2_with fail
        refine HA.out.mono ?_
        rintro e w2 ⟨⟨lv, rfl, hown⟩, hb2⟩
        obtain ⟨pl, cl, rfl, hcl, hrd⟩ := own_readsS hown
        have HB2 := Lib.hid hb2
        have HRD := Lib.hid hrd
        have hw2 := hb2.size
        clear hown hb2 hrd HA
        obtain ⟨Y, hY⟩ : ∃ y, (⟨#[1]⟩ ++ v ++ x : ByteArray) = y := ⟨_, rfl⟩
        have P1 : Hid (Below w2.heap.size w2 (w2.alloc (.cells #[.string Y] 9))) := Lib.hid ((Below.refl _ _).alloc (Nat.le_refl _) _)
        go_wp2_with (at_builtin; refine wpList_append_reads (by rfl) (.tmp 66) (.tmp 67) 22 (by rfl) w.heap.size 9 i0 (.string ⟨#[]⟩) Tryd.underlying22 hi0 hz0 hz1 hz2 rfl (.slice (some ⟨w2.heap.size, 0, none⟩) 1 1) 1 [.string Y] (by rfl) (World.ownsRow_lit w2 #[.string Y] 1 hw2 (by decide) rfl) pl L.length cl (getS L) (by rfl) (HRD.out.below P1.out) (by decide) (by omega) (Nat.le_trans hw2 P1.out.size) ?_; intro v5 w5 hown5 hgrow5; have hB5 := P1.out.grown hgrow5 (by first | omega | (simp <;> omega)) (fun q ej => by cases ej; first | exact Nat.le_refl _ | (simp <;> omega)); have hw5 := hB5.size)
        refine (HN.out w5 (HB2.out.trans (hB5.mono hw2))).mono ?_
        rintro e w6 ⟨rfl, hb6⟩
        have HO6 := Lib.hid (own_below hown5 hb6)
        have HB6 := Lib.hid (HB2.out.trans ((hB5.trans (hb6.mono hw5)).mono hw2))
        have HY := Lib.hid hY
        clear hown5 hgrow5 hB5 hb6 hY
        go_wp2_with fail
        go_ret2
        refine ⟨?_, HB6.out⟩
        rw [HV.out, HY.out]
        refine ⟨v5, rfl, ?_⟩
        have h1 := HO6.out
        rw [newsS_eq, Nat.add_comm] at h1
        exact h1
      · rw [if_neg hik] at hval
        have e1 : ¬ (m : Int) ≤ (k : Int) := by omega
        have HA := Lib.hid (ih (some ⟨b, o, none⟩) cc (m - k) (n - k) false w (by omega) (by omega) (by omega) (by omega) (by omega) (hr.less (by omega)) hT)
        have hz := sidesL_size old P ho hP c (m - k) (n - k) false
        have hlen := sidesL_length old P c (m - k) (n - k) false
        obtain ⟨r, hrr⟩ : ∃ r, sidesL old P c (m - k) (n - k) false = r := ⟨_, rfl⟩
        rw [hrr] at HA hval hz hlen
        obtain ⟨L, v⟩ := r
        simp only at hval hz hlen
        have HV := Lib.hid hval
        obtain ⟨x, hx⟩ : ∃ x, P c = x := ⟨_, rfl⟩
        rw [hx] at hps HV hcell
        obtain ⟨c1, hc1⟩ : ∃ q, c + 1 = q := ⟨_, rfl⟩
        rw [hc1] at g0 HV d1 d4 d5 hcc hc ⊢
        obtain ⟨nk, hnk⟩ : ∃ q, n - k = q := ⟨_, rfl⟩
        obtain ⟨ik, hik2⟩ : ∃ q, m - k = q := ⟨_, rfl⟩
        rw [hnk, hik2] at HA
        have f1 : (n : Int) - (k : Int) = (nk : Int) := by omega
        have f2 : (m : Int) - (k : Int) = (ik : Int) := by omega
        have f3 : nk ≤ 9223372036854775807 := by omega
        have f4 : ik ≤ 9223372036854775807 := by omega
        have f5 : IntKind.i64.wrap (nk : Int) = (nk : Int) := by rw [IntWalk.i64_in _ (by omega)]
        have f6 : IntKind.i64.wrap (ik : Int) = (ik : Int) := by rw [IntWalk.i64_in _ (by omega)]
        have f7 : IntKind.i64.wrap ((n : Int) - (k : Int)) = (nk : Int) := by rw [f1, f5]
        have f8 : IntKind.i64.wrap ((m : Int) - (k : Int)) = (ik : Int) := by rw [f2, f6]
        clear hnk hik2
        have hLl : L.length ≤ 2000 := by omega
        clear hx hr ih hc1 hrr hval hk hT hlen
        have HN := Lib.hid (fun W (h : Below w.heap.size w W) => node_any x v W (by omega) (by omega) (HT.out.below h))
        have HSZ : Hid ((⟨#[1]⟩ ++ x ++ v : ByteArray).size ≤ 4000) := Lib.hid (by rw [ByteArray.size_append, ByteArray.size_append]; omega)
        have q1 : (⟨#[1]⟩ ++ x : ByteArray).size ≤ 100 := by rw [ByteArray.size_append]; omega
        have q2 : ¬ 9223372036854775807 < 1 + (x).size := by omega
        have q3 : ¬ 9223372036854775807 < (⟨#[1]⟩ ++ x : ByteArray).size + (v).size := by omega
        go_enter Tryd.func28, Tryd.ntmps28
        go_wp2_with fail
        refine (hL.out _).mono ?_
        rintro e w' ⟨rfl, rfl⟩
        go_wp2_with fail
        refine HA.out.mono ?_
        rintro e w2 ⟨⟨lv, rfl, hown⟩, hb2⟩
        obtain ⟨pl, cl, rfl, hcl, hrd⟩ := own_readsS hown
        have HB2 := Lib.hid hb2
        have HRD := Lib.hid hrd
        have hw2 := hb2.size
        clear hown hb2 hrd HA
        obtain ⟨Y, hY⟩ : ∃ y, (⟨#[1]⟩ ++ x ++ v : ByteArray) = y := ⟨_, rfl⟩
        have P1 : Hid (Below w2.heap.size w2 (w2.alloc (.cells #[.string Y] 9))) := Lib.hid ((Below.refl _ _).alloc (Nat.le_refl _) _)
        go_wp2_with (at_builtin; refine wpList_append_reads (by rfl) (.tmp 88) (.tmp 89) 22 (by rfl) w.heap.size 9 i0 (.string ⟨#[]⟩) Tryd.underlying22 hi0 hz0 hz1 hz2 rfl (.slice (some ⟨w2.heap.size, 0, none⟩) 1 1) 1 [.string Y] (by rfl) (World.ownsRow_lit w2 #[.string Y] 1 hw2 (by decide) rfl) pl L.length cl (getS L) (by rfl) (HRD.out.below P1.out) (by decide) (by omega) (Nat.le_trans hw2 P1.out.size) ?_; intro v5 w5 hown5 hgrow5; have hB5 := P1.out.grown hgrow5 (by first | omega | (simp <;> omega)) (fun q ej => by cases ej; first | exact Nat.le_refl _ | (simp <;> omega)); have hw5 := hB5.size)
        refine (HN.out w5 (HB2.out.trans (hB5.mono hw2))).mono ?_
        rintro e w6 ⟨rfl, hb6⟩
        have HO6 := Lib.hid (own_below hown5 hb6)
        have HB6 := Lib.hid (HB2.out.trans ((hB5.trans (hb6.mono hw5)).mono hw2))
        have HY := Lib.hid hY
        clear hown5 hgrow5 hB5 hb6 hY
        go_wp2_with fail
        go_ret2
        refine ⟨?_, HB6.out⟩
        rw [HV.out, HY.out]
        refine ⟨v5, rfl, ?_⟩
        have h1 := HO6.out
        rw [newsS_eq, Nat.add_comm] at h1
        exact h1

set_option maxRecDepth 100000 in
set_option maxHeartbeats 4000000 in
theorem extBinding_any (a : ByteArray) (p : Option Addr) (k1 c1 : Nat) (P : Nat → ByteArray) (b : ByteArray) (q : Option Addr) (k2 c2 : Nat) (Q : Nat → ByteArray) (m : Int) (root : ByteArray) (n : Int) (w : World) (hk1 : k1 ≤ 9223372036854775807) (hk2 : k2 ≤ 9223372036854775807) (hn : n ≤ 9223372036854775807) (hp : ReadsS w p k1 P) (hq : ReadsS w q k2 Q) (hT : RoundOk w) :
    Calls Tryd.prog 8 #[.string a, .slice p k1 c1, .string b, .slice q k2 c2, .int .i64 m, .string root, .int .i64 n] w fun e w' => e = .returned (.bool true) ∧ Below w.heap.size w w' := by
  have HT := Lib.hid hT
  have HLP := Lib.hid hp
  have HLQ := Lib.hid hq
  clear hp hq hT
  go_enter Tryd.func8, Tryd.ntmps8
  go_wp2_with fail
  have HB0 := Lib.hid (Below.refl w.heap.size w)
  have HC := Lib.hid (sane_any w (HT.out.below HB0.out))
  refine HC.out.mono ?_
  rintro e w1 ⟨rfl, hb1⟩
  have HB1 := Lib.hid (HB0.out.trans (hb1.mono HB0.out.size))
  have HLP_1 := Lib.hid (HLP.out.below hb1)
  have HLQ_1 := Lib.hid (HLQ.out.below hb1)
  clear hb1 HC HB0 HLP HLQ
  go_wp2_with fail
  have HC := Lib.hid (few_any p k1 c1 70 P w1 (by decide) hk1 HLP_1.out)
  refine HC.out.mono ?_
  rintro e w2 ⟨⟨p1, m1, d1, G, rfl, hm1, hd1, hrd, hG⟩, hb2⟩
  have HB2 := Lib.hid (HB1.out.trans (hb2.mono HB1.out.size))
  have HLP_2 := Lib.hid (HLP_1.out.below hb2)
  have HLQ_2 := Lib.hid (HLQ_1.out.below hb2)
  have HG_2 := Lib.hid hrd
  have HGS := Lib.hid hG
  clear hb2 HC HB1 HLP_1 HLQ_1 hrd hG
  go_wp2_with fail
  have HC := Lib.hid (few_any q k2 c2 70 Q w2 (by decide) hk2 HLQ_2.out)
  refine HC.out.mono ?_
  rintro e w3 ⟨⟨p2, m2, d2, H, rfl, hm2, hd2, hrd, hH⟩, hb3⟩
  have HB3 := Lib.hid (HB2.out.trans (hb3.mono HB2.out.size))
  have HLP_3 := Lib.hid (HLP_2.out.below hb3)
  have HLQ_3 := Lib.hid (HLQ_2.out.below hb3)
  have HG_3 := Lib.hid (HG_2.out.below hb3)
  have HH_3 := Lib.hid hrd
  have HHS := Lib.hid hH
  clear hb3 HC HB2 HLP_2 HLQ_2 HG_2 hrd hH
  go_wp2_with fail
  have HC := Lib.hid (verext_any a root m n p1 m1 d1 G w3 hn (by omega) hd1 HG_3.out (HT.out.below HB3.out))
  refine HC.out.mono ?_
  rintro e w4 ⟨rfl, hb4⟩
  have HB4 := Lib.hid (HB3.out.trans (hb4.mono HB3.out.size))
  have HLP_4 := Lib.hid (HLP_3.out.below hb4)
  have HLQ_4 := Lib.hid (HLQ_3.out.below hb4)
  have HG_4 := Lib.hid (HG_3.out.below hb4)
  have HH_4 := Lib.hid (HH_3.out.below hb4)
  clear hb4 HC HB3 HLP_3 HLQ_3 HG_3 HH_3
  go_wp2_with fail
  have HC := Lib.hid (verext_any b root m n p2 m2 d2 H w4 hn (by omega) hd2 HH_4.out (HT.out.below HB4.out))
  refine HC.out.mono ?_
  rintro e w5 ⟨rfl, hb5⟩
  have HB5 := Lib.hid (HB4.out.trans (hb5.mono HB4.out.size))
  have HLP_5 := Lib.hid (HLP_4.out.below hb5)
  have HLQ_5 := Lib.hid (HLQ_4.out.below hb5)
  have HG_5 := Lib.hid (HG_4.out.below hb5)
  have HH_5 := Lib.hid (HH_4.out.below hb5)
  clear hb5 HC HB4 HLP_4 HLQ_4 HG_4 HH_4
  by_cases hv1 : VerExtOk a m root n G m1
  · rw [decide_eq_true hv1]
    by_cases hv2 : VerExtOk b m root n H m2
    · rw [decide_eq_true hv2]
      by_cases hst : a = b
      · have e1 : (a.toList == b.toList) = true := by rw [beq_dec]; exact decide_eq_true hst
        clear hv1 hv2 hst
        go_wp2_with fail
        go_ret
        exact ⟨rfl, HB5.out⟩
      · have e1 : (a.toList == b.toList) = false := by rw [beq_dec]; exact decide_eq_false hst
        have HCB := Lib.hid (collB_true (CollF.of (verext_bind hv1 hv2 hst)))
        have hm0 : m ≠ 0 := fun h => by
          have h1 := hv1.2.2.2.2.2
          have h2 := hv2.2.2.2.2.2
          rw [if_pos h] at h1 h2
          exact hst (h1.2.trans h2.2.symm)
        have hao : a.size ≤ 60 := by have := hv1.2.2.2.1; omega
        have hbo : b.size ≤ 60 := by have := hv2.2.2.2.1; omega
        obtain ⟨n0, rfl⟩ : ∃ x : Nat, n = (x : Nat) := ⟨n.toNat, by have := hv1.1; have := hv1.2.1; omega⟩
        obtain ⟨j0, rfl⟩ : ∃ x : Nat, m = (x : Nat) := ⟨m.toNat, by have := hv1.1; omega⟩
        have hj : j0 ≤ n0 := by have := hv1.2.1; omega
        have hj1 : 1 ≤ j0 := by omega
        rw [Int.toNat_natCast, Int.toNat_natCast] at HCB
        have HA1 := Lib.hid (fun W (hb : Below w.heap.size w W) (hr : ReadsS W p1 m1 G) => sides_any a G hao HGS.out m1 p1 d1 j0 n0 true W (by omega) hd1 hj1 hj (by omega) hr (HT.out.below hb))
        have HA2 := Lib.hid (fun W (hb : Below w.heap.size w W) (hr : ReadsS W p2 m2 H) => sides_any b H hbo HHS.out m2 p2 d2 j0 n0 true W (by omega) hd2 hj1 hj (by omega) hr (HT.out.below hb))
        have HZ1 := Lib.hid (fun i => getS_le (sidesL_small a G hao HGS.out m1 j0 n0 true) i)
        have HZ2 := Lib.hid (fun i => getS_le (sidesL_small b H hbo HHS.out m2 j0 n0 true) i)
        have hl1 := sidesL_length a G m1 j0 n0 true
        have hl2 := sidesL_length b H m2 j0 n0 true
        obtain ⟨r1, hr1⟩ : ∃ r, sidesL a G m1 j0 n0 true = r := ⟨_, rfl⟩
        obtain ⟨r2, hr2⟩ : ∃ r, sidesL b H m2 j0 n0 true = r := ⟨_, rfl⟩
        rw [hr1] at HCB HA1 HZ1 hl1
        rw [hr2] at HCB HA2 HZ2 hl2
        obtain ⟨L1, v1⟩ := r1
        obtain ⟨L2, v2⟩ := r2
        have hl3 : L1.length ≤ 1000 := by have : L1.length ≤ m1 := hl1; omega
        have hl4 : L2.length ≤ 1000 := by have : L2.length ≤ m2 := hl2; omega
        clear hr1 hr2 hl1 hl2 hv1 hv2 hst hm0
        go_wp2_with fail
        refine (HA1.out w5 HB5.out HG_5.out).mono ?_
        rintro e w6 ⟨⟨u1, rfl, ho1⟩, hb6⟩
        obtain ⟨a1, b1, rfl, _, hrd1⟩ := own_readsS ho1
        have HB6 := Lib.hid (HB5.out.trans (hb6.mono HB5.out.size))
        have HH_6 := Lib.hid (HH_5.out.below hb6)
        have HR1 := Lib.hid hrd1
        clear ho1 hrd1 hb6
        go_wp2_with fail
        refine (HA2.out w6 HB6.out HH_6.out).mono ?_
        rintro e w7 ⟨⟨u2, rfl, ho2⟩, hb7⟩
        obtain ⟨a2, b2, rfl, _, hrd2⟩ := own_readsS ho2
        have HB7 := Lib.hid (HB6.out.trans (hb7.mono HB6.out.size))
        have HR2 := Lib.hid hrd2
        have HR1_7 := Lib.hid (HR1.out.below hb7)
        clear ho2 hrd2 hb7
        go_wp2_with fail
        have HCL := Lib.hid (collide_any a1 a2 L1.length L2.length b1 b2 (getS L1) (getS L2) w7 (by omega) (by omega) HZ1.out HZ2.out HR1_7.out HR2.out (HT.out.below HB7.out))
        rw [HCB.out] at HCL
        refine HCL.out.mono ?_
        rintro e w8 ⟨rfl, hb8⟩
        go_wp2_with fail
        go_ret
        exact ⟨rfl, HB7.out.trans (hb8.mono HB7.out.size)⟩
    · rw [decide_eq_false hv2]
      clear hv1 hv2
      go_wp2_with fail
      go_ret
      exact ⟨rfl, HB5.out⟩
  · rw [decide_eq_false hv1]
    clear hv1
    go_wp2_with fail
    go_ret
    exact ⟨rfl, HB5.out⟩
end Go.Proofs.YtolhjkbfinlfcaaDoor
