/- The law of chapter 2: way; DigestBinding returns true. Conditions: the table holds its words; arguments that can be read. -/
import Derived.Test.YtolhjkbfinlfcaaDoorLaw02Coll
import Derived.Test.YtolhjkbfinlfcaaDoorRefVerify
namespace Go.Proofs.YtolhjkbfinlfcaaDoor
open Go Go.RowKit
theorem wayL_size (s : ByteArray) (P : Nat → ByteArray) : ∀ (c n i : Nat), (wayL s P c n i).2.size = 32
  | 0, _, _ => rfl
  | c + 1, n, i => by
    rw [wayL]
    split
    · rfl
    · split <;> rfl
theorem wayL_length (s : ByteArray) (P : Nat → ByteArray) : ∀ (c n i : Nat), (wayL s P c n i).1.length ≤ c + 1
  | 0, _, _ => by simp [wayL]
  | c + 1, n, i => by
    rw [wayL]
    split
    · simp
    · split
      · have := wayL_length s P c (leftN n) i
        simp only [List.length_cons]
        omega
      · have := wayL_length s P c (n - leftN n) (i - leftN n)
        simp only [List.length_cons]
        omega
theorem wayL_small (s : ByteArray) (P : Nat → ByteArray) (hs : s.size ≤ 60) (hP : ∀ i, (P i).size ≤ 60) : ∀ (c n i : Nat) (x : ByteArray), x ∈ (wayL s P c n i).1 → x.size ≤ 4000
  | 0, _, _, x, h => by
    rw [wayL, List.mem_singleton] at h
    rw [h, ByteArray.size_append]
    show 1 + s.size ≤ 4000
    omega
  | c + 1, n, i, x, h => by
    have hp := hP c
    rw [wayL] at h
    split at h
    · rw [List.mem_singleton] at h
      rw [h, ByteArray.size_append]
      show 1 + s.size ≤ 4000
      omega
    · split at h
      · rcases List.mem_cons.1 h with h | h
        · rw [h, ByteArray.size_append, ByteArray.size_append, wayL_size]
          show 1 + 32 + (P c).size ≤ 4000
          omega
        · exact wayL_small s P hs hP c _ _ x h
      · rcases List.mem_cons.1 h with h | h
        · rw [h, ByteArray.size_append, ByteArray.size_append, wayL_size]
          show 1 + (P c).size + 32 ≤ 4000
          omega
        · exact wayL_small s P hs hP c _ _ x h
theorem getS_le {L : List ByteArray} {k : Nat} (h : ∀ x ∈ L, x.size ≤ k) (i : Nat) : (getS L i).size ≤ k := by
  by_cases hi : i < L.length
  · exact h _ (getS_mem hi)
  · have e : getS L i = ⟨#[]⟩ := by
      unfold getS
      rw [List.getD_eq_getElem?_getD, List.getElem?_eq_none (by omega)]
      rfl
    rw [e]
    exact Nat.zero_le _
/-- A list of strings and a string are handed back. -/
def WayRet (r : List ByteArray × ByteArray) (base : Nat) (e : Ending) (w' : World) : Prop := ∃ v, e = .returned (.tuple #[v, .string r.2]) ∧ w'.ownsRow base 9 1 v r.1.length (r.1.map strV)
set_option maxRecDepth 100000 in
set_option maxHeartbeats 4000000 in
theorem way_any (s : ByteArray) (P : Nat → ByteArray) (hs : s.size ≤ 60) (hP : ∀ i, (P i).size ≤ 60) : ∀ (c : Nat) (p : Option Addr) (cc n i : Nat) (w : World) (_ : c ≤ 1000) (_ : c ≤ cc) (_ : 1 ≤ n) (_ : i < n) (_ : n ≤ 9223372036854775807) (_ : ReadsS w p c P) (_ : RoundOk w),
    Calls Tryd.prog 26 #[.int .i64 (n : Nat), .int .i64 (i : Nat), .string s, .slice p c cc] w fun e w' => WayRet (wayL s P c n i) w.heap.size e w' ∧ Below w.heap.size w w' := by
  intro c
  obtain ⟨i0, hi0, hz0, hz1, hz2⟩ := infoStr
  have hleaf : ∀ (w : World), RoundOk w → Calls Tryd.prog 29 #[.string s] (w.alloc (.cells #[.string (⟨#[0]⟩ ++ s)] 9)) fun e w' => e = .returned (.string (leafS s)) ∧ Below w.heap.size w w' := fun w hT => by
    have hal : Below w.heap.size w (w.alloc (.cells #[.string (⟨#[0]⟩ ++ s)] 9)) := (Below.refl _ _).alloc (Nat.le_refl _) _
    exact (leaf_any s _ (by omega) (hT.below hal)).mono (fun e w' ⟨h1, h2⟩ => ⟨h1, hal.trans (h2.mono hal.size)⟩)
  have hone : ∀ (w w' : World), Below (w.alloc (.cells #[.string (⟨#[0]⟩ ++ s)] 9)).heap.size (w.alloc (.cells #[.string (⟨#[0]⟩ ++ s)] 9)) w' → w'.ownsRow w.heap.size 9 1 (.slice (some ⟨w.heap.size, 0, none⟩) 1 1) 1 [.string (⟨#[0]⟩ ++ s)] := fun w w' h =>
    own_below (World.ownsRow_lit w #[.string (⟨#[0]⟩ ++ s)] 1 (Nat.le_refl _) (by decide) rfl) h
  have hlf0 : ∀ (w : World), RoundOk w → Calls Tryd.prog 29 #[.string s] (w.alloc (.cells #[.string (⟨#[0]⟩ ++ s)] 9)) fun e w' => e = .returned (.string (leafS s)) ∧ (w'.ownsRow w.heap.size 9 1 (.slice (some ⟨w.heap.size, 0, none⟩) 1 1) 1 [.string (⟨#[0]⟩ ++ s)] ∧ Below w.heap.size w w') := fun w hT => by
    have hal : Below w.heap.size w (w.alloc (.cells #[.string (⟨#[0]⟩ ++ s)] 9)) := (Below.refl _ _).alloc (Nat.le_refl _) _
    exact (leaf_any s _ (by omega) (hT.below hal)).mono (fun e w' ⟨h1, h2⟩ => ⟨h1, hone w w' h2, hal.trans (h2.mono hal.size)⟩)
  have HLF := Lib.hid hlf0
  clear hleaf hone hlf0
  have z1 : s.size ≤ 60 := hs
  have z2 : (⟨#[0]⟩ : ByteArray).size = 1 := rfl
  have z3 : (⟨#[1]⟩ : ByteArray).size = 1 := rfl
  have z4 : ¬ 9223372036854775807 < 1 + s.size := by omega
  obtain ⟨lf, hlf⟩ : ∃ x, leafS s = x := ⟨_, rfl⟩
  have HLE : Hid (wayL s P 0 0 0 = ([⟨#[0]⟩ ++ s], lf)) := Lib.hid (by rw [wayL, hlf])
  obtain ⟨X0, hX0⟩ : ∃ x, (⟨#[0]⟩ : ByteArray) ++ s = x := ⟨_, rfl⟩
  rw [hlf, hX0] at HLF
  rw [hX0] at HLE
  have HLFE := Lib.hid hlf
  have HX0 := Lib.hid hX0
  clear hlf
  induction c with
  | zero =>
    intro p cc n i w hc hcc hn hi hnb hr hT
    have HL := Lib.hid (HLF.out w hT)
    have HX : Hid (wayL s P 0 n i = ([X0], lf)) := Lib.hid HLE.out
    clear hr hT HLF
    by_cases h1 : n = 1
    · subst h1
      go_enter Tryd.func26, Tryd.ntmps26
      go_wp2_with fail
      refine HL.out.mono ?_
      rintro e w2 ⟨rfl, hown, hb⟩
      go_wp2_with fail
      go_ret2
      refine ⟨?_, hb⟩
      rw [HX.out]
      exact ⟨_, rfl, hown⟩
    · have n1 : ¬ (n : Int) ≤ 1 := by omega
      go_enter Tryd.func26, Tryd.ntmps26
      go_wp2_with fail
      refine HL.out.mono ?_
      rintro e w2 ⟨rfl, hown, hb⟩
      go_wp2_with fail
      go_ret2
      refine ⟨?_, hb⟩
      rw [HX.out]
      exact ⟨_, rfl, hown⟩
  | succ c ih =>
    intro p cc n i w hc hcc hn hi hnb hr hT
    have g0 : IntKind.i64.wrap (((c + 1 : Nat) : Int) - 1) = (c : Int) := by rw [IntWalk.i64_in _ (by omega)]; omega
    by_cases h1 : n = 1
    · subst h1
      have HL := Lib.hid (HLF.out w hT)
      have HX : Hid (wayL s P (c + 1) 1 i = ([X0], lf)) := Lib.hid (by rw [wayL, if_pos (Nat.le_refl _), HX0.out, HLFE.out])
      obtain ⟨c1, hc1⟩ : ∃ q, c + 1 = q := ⟨_, rfl⟩
      rw [hc1] at g0 HX ⊢
      clear hr hT ih hc1 HLF
      go_enter Tryd.func26, Tryd.ntmps26
      go_wp2_with fail
      refine HL.out.mono ?_
      rintro e w2 ⟨rfl, hown, hb⟩
      go_wp2_with fail
      go_ret2
      refine ⟨?_, hb⟩
      rw [HX.out]
      exact ⟨_, rfl, hown⟩
    · have n1 : ¬ (n : Int) ≤ 1 := by omega
      have hlf := left_facts (n := n) (by omega)
      have hL := Lib.hid (fun W => law_left_any n W (by omega) (by omega))
      have hval : wayL s P (c + 1) n i = (if i < leftN n then ((⟨#[1]⟩ ++ (wayL s P c (leftN n) i).2 ++ P c) :: (wayL s P c (leftN n) i).1, nodeS (wayL s P c (leftN n) i).2 (P c)) else ((⟨#[1]⟩ ++ P c ++ (wayL s P c (n - leftN n) (i - leftN n)).2) :: (wayL s P c (n - leftN n) (i - leftN n)).1, nodeS (P c) (wayL s P c (n - leftN n) (i - leftN n)).2)) := by rw [wayL, if_neg (show ¬ n ≤ 1 by omega)]
      obtain ⟨k, hk⟩ : ∃ k, leftN n = k := ⟨_, rfl⟩
      rw [hk] at hlf hL hval
      obtain ⟨b, o, rfl, hcell⟩ := hr.last
      have hps := hP c
      have HT := Lib.hid hT
      have d1 : ¬ ((c + 1 : Nat) : Int) = 0 := by omega
      have d2 : (0 : Int) ≤ (c : Int) := by omega
      have d3 : (c : Int) ≤ (cc : Int) := by omega
      have d4 : (c : Int) < ((c + 1 : Nat) : Int) := by omega
      by_cases hik : i < k
      · rw [if_pos hik] at hval
        have e1 :  (i : Int) < (k : Int) := by omega
        have HA := Lib.hid (ih (some ⟨b, o, none⟩) cc (k) (i) w (by omega) (by omega) (by omega) (by omega) (by omega) (hr.less (by omega)) hT)
        have hz := wayL_size s P c (k) (i)
        have hlen := wayL_length s P c (k) (i)
        obtain ⟨r, hrr⟩ : ∃ r, wayL s P c (k) (i) = r := ⟨_, rfl⟩
        rw [hrr] at HA hval hz hlen
        obtain ⟨L, v⟩ := r
        simp only at hval hz hlen
        have HV := Lib.hid hval
        obtain ⟨x, hx⟩ : ∃ x, P c = x := ⟨_, rfl⟩
        rw [hx] at hps HV hcell
        obtain ⟨c1, hc1⟩ : ∃ q, c + 1 = q := ⟨_, rfl⟩
        rw [hc1] at g0 HV d1 d4 hcc hc ⊢
        have hLl : L.length ≤ 2000 := by omega
        clear hx hr ih hc1 hrr hval hk hT hlen HLF
        have HN := Lib.hid (fun W (h : Below w.heap.size w W) => node_any v x W (by omega) (by omega) (HT.out.below h))
        have HSZ : Hid ((⟨#[1]⟩ ++ v ++ x : ByteArray).size ≤ 4000) := Lib.hid (by rw [ByteArray.size_append, ByteArray.size_append]; omega)
        have q1 : (⟨#[1]⟩ ++ v : ByteArray).size ≤ 100 := by rw [ByteArray.size_append]; omega
        have q2 : ¬ 9223372036854775807 < 1 + (v).size := by omega
        have q3 : ¬ 9223372036854775807 < (⟨#[1]⟩ ++ v : ByteArray).size + (x).size := by omega
        go_enter Tryd.func26, Tryd.ntmps26
        go_wp2_with fail
        refine (hL.out _).mono ?_
        rintro e w' ⟨rfl, rfl⟩
        go_wp2_with fail
        refine HA.out.mono ?_
        rintro e w2 ⟨⟨lv, rfl, hown⟩, hb2⟩
        obtain ⟨pl, cl, rfl, hcl, hrd⟩ := own_readsS hown
        have HB2 := Lib.hid hb2
        have HRD := Lib.hid hrd
        have hw2 := hb2.size
        clear hown hb2 hrd HA
        obtain ⟨Y, hY⟩ : ∃ y, (⟨#[1]⟩ ++ v ++ x : ByteArray) = y := ⟨_, rfl⟩
        have P1 : Hid (Below w2.heap.size w2 (w2.alloc (.cells #[.string Y] 9))) := Lib.hid ((Below.refl _ _).alloc (Nat.le_refl _) _)
        go_wp2_with (at_builtin; refine wpList_append_reads (by rfl) (.tmp 57) (.tmp 58) 22 (by rfl) w.heap.size 9 i0 (.string ⟨#[]⟩) Tryd.underlying22 hi0 hz0 hz1 hz2 rfl (.slice (some ⟨w2.heap.size, 0, none⟩) 1 1) 1 [.string Y] (by rfl) (World.ownsRow_lit w2 #[.string Y] 1 hw2 (by decide) rfl) pl L.length cl (getS L) (by rfl) (HRD.out.below P1.out) (by decide) (by omega) (Nat.le_trans hw2 P1.out.size) ?_; intro v5 w5 hown5 hgrow5; have hB5 := P1.out.grown hgrow5 (by first | omega | (simp <;> omega)) (fun q ej => by cases ej; first | exact Nat.le_refl _ | (simp <;> omega)); have hw5 := hB5.size)
        refine (HN.out w5 (HB2.out.trans (hB5.mono hw2))).mono ?_
        rintro e w6 ⟨rfl, hb6⟩
        have HO6 := Lib.hid (own_below hown5 hb6)
        have HB6 := Lib.hid (HB2.out.trans ((hB5.trans (hb6.mono hw5)).mono hw2))
        have HY := Lib.hid hY
        clear hown5 hgrow5 hB5 hb6 hY
        go_wp2_with fail
        go_ret2
        refine ⟨?_, HB6.out⟩
        rw [HV.out, HY.out]
        refine ⟨v5, rfl, ?_⟩
        have h1 := HO6.out
        rw [newsS_eq, Nat.add_comm] at h1
        exact h1
      · rw [if_neg hik] at hval
        have e1 : ¬ (i : Int) < (k : Int) := by omega
        have HA := Lib.hid (ih (some ⟨b, o, none⟩) cc (n - k) (i - k) w (by omega) (by omega) (by omega) (by omega) (by omega) (hr.less (by omega)) hT)
        have hz := wayL_size s P c (n - k) (i - k)
        have hlen := wayL_length s P c (n - k) (i - k)
        obtain ⟨r, hrr⟩ : ∃ r, wayL s P c (n - k) (i - k) = r := ⟨_, rfl⟩
        rw [hrr] at HA hval hz hlen
        obtain ⟨L, v⟩ := r
        simp only at hval hz hlen
        have HV := Lib.hid hval
        obtain ⟨x, hx⟩ : ∃ x, P c = x := ⟨_, rfl⟩
        rw [hx] at hps HV hcell
        obtain ⟨c1, hc1⟩ : ∃ q, c + 1 = q := ⟨_, rfl⟩
        rw [hc1] at g0 HV d1 d4 hcc hc ⊢
        obtain ⟨nk, hnk⟩ : ∃ q, n - k = q := ⟨_, rfl⟩
        obtain ⟨ik, hik2⟩ : ∃ q, i - k = q := ⟨_, rfl⟩
        rw [hnk, hik2] at HA
        have f1 : (n : Int) - (k : Int) = (nk : Int) := by omega
        have f2 : (i : Int) - (k : Int) = (ik : Int) := by omega
        have f3 : nk ≤ 9223372036854775807 := by omega
        have f4 : ik ≤ 9223372036854775807 := by omega
        have f5 : IntKind.i64.wrap (nk : Int) = (nk : Int) := by rw [IntWalk.i64_in _ (by omega)]
        have f6 : IntKind.i64.wrap (ik : Int) = (ik : Int) := by rw [IntWalk.i64_in _ (by omega)]
        have f7 : IntKind.i64.wrap ((n : Int) - (k : Int)) = (nk : Int) := by rw [f1, f5]
        have f8 : IntKind.i64.wrap ((i : Int) - (k : Int)) = (ik : Int) := by rw [f2, f6]
        clear hnk hik2
        have hLl : L.length ≤ 2000 := by omega
        clear hx hr ih hc1 hrr hval hk hT hlen HLF
        have HN := Lib.hid (fun W (h : Below w.heap.size w W) => node_any x v W (by omega) (by omega) (HT.out.below h))
        have HSZ : Hid ((⟨#[1]⟩ ++ x ++ v : ByteArray).size ≤ 4000) := Lib.hid (by rw [ByteArray.size_append, ByteArray.size_append]; omega)
        have q1 : (⟨#[1]⟩ ++ x : ByteArray).size ≤ 100 := by rw [ByteArray.size_append]; omega
        have q2 : ¬ 9223372036854775807 < 1 + (x).size := by omega
        have q3 : ¬ 9223372036854775807 < (⟨#[1]⟩ ++ x : ByteArray).size + (v).size := by omega
        go_enter Tryd.func26, Tryd.ntmps26
        go_wp2_with fail
        refine (hL.out _).mono ?_
        rintro e w' ⟨rfl, rfl⟩
        go_wp2_with fail
        refine HA.out.mono ?_
        rintro e w2 ⟨⟨lv, rfl, hown⟩, hb2⟩
        obtain ⟨pl, cl, rfl, hcl, hrd⟩ := own_readsS hown
        have HB2 := Lib.hid hb2
        have HRD := Lib.hid hrd
        have hw2 := hb2.size
        clear hown hb2 hrd HA
        obtain ⟨Y, hY⟩ : ∃ y, (⟨#[1]⟩ ++ x ++ v : ByteArray) = y := ⟨_, rfl⟩
        have P1 : Hid (Below w2.heap.size w2 (w2.alloc (.cells #[.string Y] 9))) := Lib.hid ((Below.refl _ _).alloc (Nat.le_refl _) _)
        go_wp2_with (at_builtin; refine wpList_append_reads (by rfl) (.tmp 79) (.tmp 80) 22 (by rfl) w.heap.size 9 i0 (.string ⟨#[]⟩) Tryd.underlying22 hi0 hz0 hz1 hz2 rfl (.slice (some ⟨w2.heap.size, 0, none⟩) 1 1) 1 [.string Y] (by rfl) (World.ownsRow_lit w2 #[.string Y] 1 hw2 (by decide) rfl) pl L.length cl (getS L) (by rfl) (HRD.out.below P1.out) (by decide) (by omega) (Nat.le_trans hw2 P1.out.size) ?_; intro v5 w5 hown5 hgrow5; have hB5 := P1.out.grown hgrow5 (by first | omega | (simp <;> omega)) (fun q ej => by cases ej; first | exact Nat.le_refl _ | (simp <;> omega)); have hw5 := hB5.size)
        refine (HN.out w5 (HB2.out.trans (hB5.mono hw2))).mono ?_
        rintro e w6 ⟨rfl, hb6⟩
        have HO6 := Lib.hid (own_below hown5 hb6)
        have HB6 := Lib.hid (HB2.out.trans ((hB5.trans (hb6.mono hw5)).mono hw2))
        have HY := Lib.hid hY
        clear hown5 hgrow5 hB5 hb6 hY
        go_wp2_with fail
        go_ret2
        refine ⟨?_, HB6.out⟩
        rw [HV.out, HY.out]
        refine ⟨v5, rfl, ?_⟩
        have h1 := HO6.out
        rw [newsS_eq, Nat.add_comm] at h1
        exact h1

set_option maxRecDepth 100000 in
set_option maxHeartbeats 4000000 in
theorem binding_any (root : ByteArray) (n i : Int) (s : ByteArray) (p : Option Addr) (k1 c1 : Nat) (P : Nat → ByteArray) (t : ByteArray) (q : Option Addr) (k2 c2 : Nat) (Q : Nat → ByteArray) (w : World) (hk1 : k1 ≤ 9223372036854775807) (hk2 : k2 ≤ 9223372036854775807) (hn : n ≤ 9223372036854775807) (hi0 : -9223372036854775808 ≤ i) (hp : ReadsS w p k1 P) (hq : ReadsS w q k2 Q) (hT : RoundOk w) :
    Calls Tryd.prog 7 #[.string root, .int .i64 n, .int .i64 i, .string s, .slice p k1 c1, .string t, .slice q k2 c2] w fun e w' => e = .returned (.bool true) ∧ Below w.heap.size w w' := by
  have HT := Lib.hid hT
  have HLP := Lib.hid hp
  have HLQ := Lib.hid hq
  obtain ⟨ms, S, hs1, hs2, hs3, hs4, hs5, hs6, _⟩ := cut60_facts s
  obtain ⟨mt, T, ht1, ht2, ht3, ht4, ht5, ht6, _⟩ := cut60_facts t
  have HSS := Lib.hid hs2
  have HTS := Lib.hid ht2
  clear hp hq hT hs2 ht2
  go_enter Tryd.func7, Tryd.ntmps7
  go_wp2_with fail
  have HB0 := Lib.hid (Below.refl w.heap.size w)
  have HC := Lib.hid (sane_any w (HT.out.below HB0.out))
  refine HC.out.mono ?_
  rintro e w1 ⟨rfl, hb1⟩
  have HB1 := Lib.hid (HB0.out.trans (hb1.mono HB0.out.size))
  have HLP_1 := Lib.hid (HLP.out.below hb1)
  have HLQ_1 := Lib.hid (HLQ.out.below hb1)
  clear hb1 HC HB0 HLP HLQ
  go_wp2_with fail
  have HC := Lib.hid (few_any p k1 c1 70 P w1 (by decide) hk1 HLP_1.out)
  refine HC.out.mono ?_
  rintro e w2 ⟨⟨p1, m1, d1, G, rfl, hm1, hd1, hrd, hG⟩, hb2⟩
  have HB2 := Lib.hid (HB1.out.trans (hb2.mono HB1.out.size))
  have HLP_2 := Lib.hid (HLP_1.out.below hb2)
  have HLQ_2 := Lib.hid (HLQ_1.out.below hb2)
  have HG_2 := Lib.hid hrd
  have HGS := Lib.hid hG
  clear hb2 HC HB1 HLP_1 HLQ_1 hrd hG
  go_wp2_with fail
  have HC := Lib.hid (few_any q k2 c2 70 Q w2 (by decide) hk2 HLQ_2.out)
  refine HC.out.mono ?_
  rintro e w3 ⟨⟨p2, m2, d2, H, rfl, hm2, hd2, hrd, hH⟩, hb3⟩
  have HB3 := Lib.hid (HB2.out.trans (hb3.mono HB2.out.size))
  have HLP_3 := Lib.hid (HLP_2.out.below hb3)
  have HLQ_3 := Lib.hid (HLQ_2.out.below hb3)
  have HG_3 := Lib.hid (HG_2.out.below hb3)
  have HH_3 := Lib.hid hrd
  have HHS := Lib.hid hH
  clear hb3 HC HB2 HLP_2 HLQ_2 HG_2 hrd hH
  go_wp2_with fail
  have HC := Lib.hid (verify_any root S n i p1 m1 d1 G w3 hn hi0 (Nat.le_trans HSS.out (by decide)) (by omega) hd1 HG_3.out (HT.out.below HB3.out))
  refine HC.out.mono ?_
  rintro e w4 ⟨rfl, hb4⟩
  have HB4 := Lib.hid (HB3.out.trans (hb4.mono HB3.out.size))
  have HLP_4 := Lib.hid (HLP_3.out.below hb4)
  have HLQ_4 := Lib.hid (HLQ_3.out.below hb4)
  have HG_4 := Lib.hid (HG_3.out.below hb4)
  have HH_4 := Lib.hid (HH_3.out.below hb4)
  clear hb4 HC HB3 HLP_3 HLQ_3 HG_3 HH_3
  go_wp2_with fail
  have HC := Lib.hid (verify_any root T n i p2 m2 d2 H w4 hn hi0 (Nat.le_trans HTS.out (by decide)) (by omega) hd2 HH_4.out (HT.out.below HB4.out))
  refine HC.out.mono ?_
  rintro e w5 ⟨rfl, hb5⟩
  have HB5 := Lib.hid (HB4.out.trans (hb5.mono HB4.out.size))
  have HLP_5 := Lib.hid (HLP_4.out.below hb5)
  have HLQ_5 := Lib.hid (HLQ_4.out.below hb5)
  have HG_5 := Lib.hid (HG_4.out.below hb5)
  have HH_5 := Lib.hid (HH_4.out.below hb5)
  clear hb5 HC HB4 HLP_4 HLQ_4 HG_4 HH_4
  by_cases hv1 : VerifyOk root n i S G m1
  · rw [decide_eq_true hv1]
    by_cases hv2 : VerifyOk root n i T H m2
    · rw [decide_eq_true hv2]
      by_cases hst : S = T
      · have e1 : (S.toList == T.toList) = true := by rw [beq_dec]; exact decide_eq_true hst
        clear hv1 hv2 hst
        go_wp2_with fail
        go_ret
        exact ⟨rfl, HB5.out⟩
      · have e1 : (S.toList == T.toList) = false := by rw [beq_dec]; exact decide_eq_false hst
        have HCB := Lib.hid (collB_true (CollF.of (verify_bind hv1 hv2 hst)))
        obtain ⟨n0, rfl⟩ : ∃ x : Nat, n = (x : Nat) := ⟨n.toNat, by have := hv1.1; have := hv1.2.1; omega⟩
        obtain ⟨j0, rfl⟩ : ∃ x : Nat, i = (x : Nat) := ⟨i.toNat, by have := hv1.1; omega⟩
        have hj : j0 < n0 := by have := hv1.2.1; omega
        rw [Int.toNat_natCast, Int.toNat_natCast] at HCB
        have HA1 := Lib.hid (fun W (hb : Below w.heap.size w W) (hr : ReadsS W p1 m1 G) => way_any S G HSS.out HGS.out m1 p1 d1 n0 j0 W (by omega) hd1 (by omega) hj (by omega) hr (HT.out.below hb))
        have HA2 := Lib.hid (fun W (hb : Below w.heap.size w W) (hr : ReadsS W p2 m2 H) => way_any T H HTS.out HHS.out m2 p2 d2 n0 j0 W (by omega) hd2 (by omega) hj (by omega) hr (HT.out.below hb))
        have HZ1 := Lib.hid (fun i => getS_le (wayL_small S G HSS.out HGS.out m1 n0 j0) i)
        have HZ2 := Lib.hid (fun i => getS_le (wayL_small T H HTS.out HHS.out m2 n0 j0) i)
        have hl1 := wayL_length S G m1 n0 j0
        have hl2 := wayL_length T H m2 n0 j0
        obtain ⟨r1, hr1⟩ : ∃ r, wayL S G m1 n0 j0 = r := ⟨_, rfl⟩
        obtain ⟨r2, hr2⟩ : ∃ r, wayL T H m2 n0 j0 = r := ⟨_, rfl⟩
        rw [hr1] at HCB HA1 HZ1 hl1
        rw [hr2] at HCB HA2 HZ2 hl2
        obtain ⟨L1, v1⟩ := r1
        obtain ⟨L2, v2⟩ := r2
        have hl3 : L1.length ≤ 1000 := by have : L1.length ≤ m1 + 1 := hl1; omega
        have hl4 : L2.length ≤ 1000 := by have : L2.length ≤ m2 + 1 := hl2; omega
        clear hr1 hr2 hl1 hl2 hv1 hv2 hst
        go_wp2_with fail
        refine (HA1.out w5 HB5.out HG_5.out).mono ?_
        rintro e w6 ⟨⟨u1, rfl, ho1⟩, hb6⟩
        obtain ⟨a1, b1, rfl, _, hrd1⟩ := own_readsS ho1
        have HB6 := Lib.hid (HB5.out.trans (hb6.mono HB5.out.size))
        have HH_6 := Lib.hid (HH_5.out.below hb6)
        have HR1 := Lib.hid hrd1
        clear ho1 hrd1 hb6
        go_wp2_with fail
        refine (HA2.out w6 HB6.out HH_6.out).mono ?_
        rintro e w7 ⟨⟨u2, rfl, ho2⟩, hb7⟩
        obtain ⟨a2, b2, rfl, _, hrd2⟩ := own_readsS ho2
        have HB7 := Lib.hid (HB6.out.trans (hb7.mono HB6.out.size))
        have HR2 := Lib.hid hrd2
        have HR1_7 := Lib.hid (HR1.out.below hb7)
        clear ho2 hrd2 hb7
        go_wp2_with fail
        have HCL := Lib.hid (collide_any a1 a2 L1.length L2.length b1 b2 (getS L1) (getS L2) w7 (by omega) (by omega) HZ1.out HZ2.out HR1_7.out HR2.out (HT.out.below HB7.out))
        rw [HCB.out] at HCL
        refine HCL.out.mono ?_
        rintro e w8 ⟨rfl, hb8⟩
        go_wp2_with fail
        go_ret
        exact ⟨rfl, HB7.out.trans (hb8.mono HB7.out.size)⟩
    · rw [decide_eq_false hv2]
      clear hv1 hv2
      go_wp2_with fail
      go_ret
      exact ⟨rfl, HB5.out⟩
  · rw [decide_eq_false hv1]
    clear hv1
    go_wp2_with fail
    go_ret
    exact ⟨rfl, HB5.out⟩
end Go.Proofs.YtolhjkbfinlfcaaDoor
