/- The reference of chapter 2: value, Verify, both, VerifyExtension, Same. Conditions: a proof of at most 1000 strings that can be read; strings of at most 4000 bytes. -/
import Derived.Test.YtolhjkbfinlfcaaDoorRefExt
import Derived.Test.YtolhjkbfinlfcaaDoorDigBind
namespace Go.Proofs.YtolhjkbfinlfcaaDoor
open Go Go.RowKit
theorem ReadsS.last {W : World} {p : Option Addr} {k : Nat} {F : Nat → ByteArray} (h : ReadsS W p (k + 1) F) : ∃ b off, p = some ⟨b, off, none⟩ ∧ W.cell? ⟨b, off + k, none⟩ = some (.string (F k)) := by
  obtain ⟨b, off, hp, hc⟩ := h k (by omega)
  exact ⟨b, off, hp, hc k (by omega)⟩
/-- A value and whether it stands for what is wanted. -/
def OkIs {α : Type} (r : Option α) (v : α) (ok : Bool) : Prop := (∀ u, r = some u → v = u ∧ ok = true) ∧ (r = none → ok = false)
theorem OkIs.none {α : Type} (v : α) : OkIs none v false := ⟨fun u hu => (by cases hu), fun _ => rfl⟩
theorem OkIs.some {α : Type} (v : α) : OkIs (some v) v true := ⟨fun u hu => ⟨Option.some.inj hu, rfl⟩, fun h => by cases h⟩
theorem OkIs.map {α β : Type} (f : α → β) {r : Option α} {v : α} {ok : Bool} (h : OkIs r v ok) : OkIs (r.map f) (f v) ok := by
  refine ⟨fun u hu => ?_, fun hn => h.2 (Option.map_eq_none_iff.1 hn)⟩
  obtain ⟨z, hz, rfl⟩ := Option.map_eq_some_iff.1 hu
  obtain ⟨rfl, h2⟩ := h.1 z hz
  exact ⟨rfl, h2⟩
theorem OkIs.dec {r : Option ByteArray} {v : ByteArray} {ok : Bool} (h : OkIs r v ok) (root : ByteArray) : (ok && decide (v = root)) = decide (r = Option.some root) := by
  cases r with
  | none => rw [h.2 rfl]; rfl
  | some u =>
    obtain ⟨rfl, rfl⟩ := h.1 u rfl
    simp
/-- What value hands back. -/
def ValRet (r : Option ByteArray) (e : Ending) : Prop := ∃ (v : ByteArray) (ok : Bool), e = .returned (.tuple #[.string v, .bool ok]) ∧ v.size ≤ 32 ∧ OkIs r v ok
set_option maxRecDepth 100000 in
set_option maxHeartbeats 4000000 in
theorem ref_value_any (s : ByteArray) (P : Nat → ByteArray) (hs : s.size ≤ 4000) (hP : ∀ i, (P i).size ≤ 4000) : ∀ (c : Nat) (p : Option Addr) (cc n i : Nat) (w : World) (_ : c ≤ 1000) (_ : c ≤ cc) (_ : 1 ≤ n) (_ : i < n) (_ : n ≤ 9223372036854775807) (_ : ReadsS w p c P),
    Calls Tryd.prog 50 #[.int .i64 (n : Nat), .int .i64 (i : Nat), .string s, .slice p c cc] w fun e w' => ValRet (valueV s P c n i) e ∧ Below w.heap.size w w' := by
  intro c
  induction c with
  | zero =>
    intro p cc n i w hc hcc hn hi hnb hr
    clear hr
    by_cases h1 : n = 1
    · subst h1
      have HL := Lib.hid (ref_leaf_any s w hs)
      have HX : Hid (valueV s P 0 1 i = some (leafS s)) := Lib.hid rfl
      have HZ : Hid ((leafS s).size = 32) := Lib.hid rfl
      obtain ⟨x, hx⟩ : ∃ x, leafS s = x := ⟨_, rfl⟩
      rw [hx] at HL HX HZ
      clear hx
      go_enter Tryd.func50, Tryd.ntmps50
      go_wp2_with fail
      refine HL.out.mono ?_
      rintro e w2 ⟨rfl, hb⟩
      go_wp2_with fail
      go_ret2
      refine ⟨?_, hb⟩
      rw [HX.out]
      exact ⟨x, true, rfl, Nat.le_of_eq HZ.out, OkIs.some x⟩
    · have HX : Hid (valueV s P 0 n i = none) := Lib.hid (by rw [valueV, if_neg (by omega)])
      have n1 : ¬ (n : Int) = 1 := by omega
      go_enter Tryd.func50, Tryd.ntmps50
      go_wp2_with fail
      go_ret2
      refine ⟨?_, Below.refl _ _⟩
      rw [HX.out]
      exact ⟨⟨#[]⟩, false, rfl, by decide, OkIs.none _⟩
  | succ c ih =>
    intro p cc n i w hc hcc hn hi hnb hr
    have g0 : IntKind.i64.wrap (((c + 1 : Nat) : Int) - 1) = (c : Int) := by rw [IntWalk.i64_in _ (by omega)]; omega
    by_cases h1 : n = 1
    · subst h1
      have HL := Lib.hid (ref_leaf_any s w hs)
      have HX : Hid (valueV s P (c + 1) 1 i = none) := Lib.hid (by rw [valueV, if_pos (Nat.le_refl _)])
      have HZ : Hid ((leafS s).size = 32) := Lib.hid rfl
      obtain ⟨x, hx⟩ : ∃ x, leafS s = x := ⟨_, rfl⟩
      rw [hx] at HL HZ
      have d1 : ¬ (c : Int) < 0 := by omega
      obtain ⟨c1, hc1⟩ : ∃ q, c + 1 = q := ⟨_, rfl⟩
      rw [hc1] at g0 HX ⊢
      clear hx hr ih hc1
      go_enter Tryd.func50, Tryd.ntmps50
      go_wp2_with fail
      refine HL.out.mono ?_
      rintro e w2 ⟨rfl, hb⟩
      go_wp2_with fail
      go_ret2
      refine ⟨?_, hb⟩
      rw [HX.out]
      exact ⟨x, false, rfl, Nat.le_of_eq HZ.out, OkIs.none _⟩
    · have n1 : ¬ (n : Int) = 1 := by omega
      have hlf := left_facts (n := n) (by omega)
      have hL := Lib.hid (fun W => ref_left_any n W (by omega) (by omega))
      have hval : valueV s P (c + 1) n i = (if i < leftN n then (valueV s P c (leftN n) i).map (fun v => nodeS v (P c)) else (valueV s P c (n - leftN n) (i - leftN n)).map (fun v => nodeS (P c) v)) := by rw [valueV, if_neg (show ¬ n ≤ 1 by omega)]
      obtain ⟨k, hk⟩ : ∃ k, leftN n = k := ⟨_, rfl⟩
      rw [hk] at hlf hL hval
      obtain ⟨b, o, rfl, hcell⟩ := hr.last
      have HPS := Lib.hid (hP c)
      have d1 : ¬ (c : Int) < 0 := by omega
      have d2 : (0 : Int) ≤ (c : Int) := by omega
      have d3 : (c : Int) ≤ (cc : Int) := by omega
      have d4 : (c : Int) < ((c + 1 : Nat) : Int) := by omega
      by_cases hik : i < k
      · rw [if_pos hik] at hval
        have e1 : (i : Int) < (k : Int) := by omega
        have HA := Lib.hid (ih (some ⟨b, o, none⟩) cc k i w (by omega) (by omega) (by omega) hik (by omega) (hr.less (by omega)))
        obtain ⟨r, hrr⟩ : ∃ r, valueV s P c k i = r := ⟨_, rfl⟩
        rw [hrr] at HA hval
        have HV := Lib.hid hval
        obtain ⟨x, hx⟩ : ∃ x, P c = x := ⟨_, rfl⟩
        rw [hx] at HPS HV hcell
        obtain ⟨c1, hc1⟩ : ∃ q, c + 1 = q := ⟨_, rfl⟩
        rw [hc1] at g0 HV d4 hcc hc ⊢
        clear hx hr ih hc1 hrr hval hk
        go_enter Tryd.func50, Tryd.ntmps50
        go_wp2_with fail
        refine (hL.out _).mono ?_
        rintro e w' ⟨rfl, rfl⟩
        go_wp2_with fail
        refine HA.out.mono ?_
        rintro e w2 ⟨⟨v, ok, rfl, hvs, hv⟩, hb2⟩
        have hcell2 := (hb2.cell (p := ⟨b, o + c, none⟩) (cell_lt' hcell)).trans hcell
        have HN := Lib.hid (fun W => ref_node_any v x W (by omega) (HPS.out))
        have HVV := Lib.hid hv
        clear hv HA
        go_wp2_with fail
        refine (HN.out _).mono ?_
        rintro e w3 ⟨rfl, hb3⟩
        go_wp2_with fail
        go_ret2
        refine ⟨?_, hb2.trans (hb3.mono hb2.size)⟩
        rw [HV.out]
        exact ⟨_, ok, rfl, Nat.le_refl 32, OkIs.map (fun v => nodeS v x) HVV.out⟩
      · rw [if_neg hik] at hval
        have e1 : ¬ (i : Int) < (k : Int) := by omega
        have HA := Lib.hid (ih (some ⟨b, o, none⟩) cc (n - k) (i - k) w (by omega) (by omega) (by omega) (by omega) (by omega) (hr.less (by omega)))
        obtain ⟨r, hrr⟩ : ∃ r, valueV s P c (n - k) (i - k) = r := ⟨_, rfl⟩
        rw [hrr] at HA hval
        have HV := Lib.hid hval
        obtain ⟨x, hx⟩ : ∃ x, P c = x := ⟨_, rfl⟩
        rw [hx] at HPS HV hcell
        obtain ⟨c1, hc1⟩ : ∃ q, c + 1 = q := ⟨_, rfl⟩
        rw [hc1] at g0 HV d4 hcc hc ⊢
        obtain ⟨nk, hnk⟩ : ∃ q, n - k = q := ⟨_, rfl⟩
        obtain ⟨ik, hik2⟩ : ∃ q, i - k = q := ⟨_, rfl⟩
        rw [hnk, hik2] at HA
        have f1 : (n : Int) - (k : Int) = (nk : Int) := by omega
        have f2 : (i : Int) - (k : Int) = (ik : Int) := by omega
        have f3 : nk ≤ 9223372036854775807 := by omega
        have f4 : ik ≤ 9223372036854775807 := by omega
        have f5 : IntKind.i64.wrap (nk : Int) = (nk : Int) := by rw [IntWalk.i64_in _ (by omega)]
        have f6 : IntKind.i64.wrap (ik : Int) = (ik : Int) := by rw [IntWalk.i64_in _ (by omega)]
        have f7 : IntKind.i64.wrap ((n : Int) - (k : Int)) = (nk : Int) := by rw [f1, f5]
        have f8 : IntKind.i64.wrap ((i : Int) - (k : Int)) = (ik : Int) := by rw [f2, f6]
        clear hx hr ih hc1 hrr hval hk hnk hik2
        go_enter Tryd.func50, Tryd.ntmps50
        go_wp2_with fail
        refine (hL.out _).mono ?_
        rintro e w' ⟨rfl, rfl⟩
        go_wp2_with fail
        refine HA.out.mono ?_
        rintro e w2 ⟨⟨v, ok, rfl, hvs, hv⟩, hb2⟩
        have hcell2 := (hb2.cell (p := ⟨b, o + c, none⟩) (cell_lt' hcell)).trans hcell
        have HN := Lib.hid (fun W => ref_node_any x v W (HPS.out) (by omega))
        have HVV := Lib.hid hv
        clear hv HA
        go_wp2_with fail
        refine (HN.out _).mono ?_
        rintro e w3 ⟨rfl, hb3⟩
        go_wp2_with fail
        go_ret2
        refine ⟨?_, hb2.trans (hb3.mono hb2.size)⟩
        rw [HV.out]
        exact ⟨_, ok, rfl, Nat.le_refl 32, OkIs.map (fun v => nodeS x v) HVV.out⟩
set_option maxRecDepth 100000 in
set_option maxHeartbeats 4000000 in
theorem ref_verify_any (root s : ByteArray) (n i : Int) (p : Option Addr) (c cc : Nat) (P : Nat → ByteArray) (w : World) (hnb : n ≤ 9223372036854775807) (hib : -9223372036854775808 ≤ i) (hs : s.size ≤ 4000) (hP : ∀ i, (P i).size ≤ 4000) (hc : c ≤ 1000) (hcc : c ≤ cc) (hr : ReadsS w p c P) :
    Calls Tryd.prog 22 #[.string root, .int .i64 n, .int .i64 i, .string s, .slice p c cc] w fun e w' => e = .returned (.bool (decide (VerifyOk root n i s P c))) ∧ Below w.heap.size w w' := by
  have HD := Lib.hid (ref_digests_any p c cc P w (by omega) hr)
  by_cases h0 : i < 0
  · have HX : Hid (decide (VerifyOk root n i s P c) = false) := Lib.hid (decide_eq_false (fun h => by have := h.1; omega))
    clear hr
    go_enter Tryd.func22, Tryd.ntmps22
    go_wp2_with fail
    refine HD.out.mono ?_
    rintro e w2 ⟨rfl, rfl⟩
    go_wp2_with fail
    go_ret
    exact ⟨by rw [HX.out]; rfl, Below.refl _ _⟩
  · by_cases h1 : n ≤ i
    · have HX : Hid (decide (VerifyOk root n i s P c) = false) := Lib.hid (decide_eq_false (fun h => by have := h.2.1; omega))
      clear hr
      go_enter Tryd.func22, Tryd.ntmps22
      go_wp2_with fail
      refine HD.out.mono ?_
      rintro e w2 ⟨rfl, rfl⟩
      go_wp2_with fail
      go_ret
      exact ⟨by rw [HX.out]; rfl, Below.refl _ _⟩
    · by_cases h2 : Digs c P
      · rw [decide_eq_true h2] at HD
        obtain ⟨n0, rfl⟩ : ∃ n0 : Nat, n = (n0 : Nat) := ⟨n.toNat, by omega⟩
        obtain ⟨j0, rfl⟩ : ∃ j0 : Nat, i = (j0 : Nat) := ⟨i.toNat, by omega⟩
        have HX : Hid (decide (VerifyOk root n0 j0 s P c) = decide (valueV s P c n0 j0 = some root)) := Lib.hid (by
          rw [decide_eq_decide]
          unfold VerifyOk
          rw [Int.toNat_natCast, Int.toNat_natCast]
          exact ⟨fun h => h.2.2.2, fun h => ⟨by omega, by omega, h2, h⟩⟩)
        have HV := Lib.hid (ref_value_any s P hs hP c p cc n0 j0 w hc hcc (by omega) (by omega) (by omega) hr)
        obtain ⟨r, hrr⟩ : ∃ r, valueV s P c n0 j0 = r := ⟨_, rfl⟩
        rw [hrr] at HX HV
        have d1 : decide ((j0 : Int) < 0) = false := decide_eq_false (by omega)
        have d2 : decide (n0 ≤ j0) = false := decide_eq_false (by omega)
        have d3 : decide ((n0 : Int) ≤ (j0 : Int)) = false := decide_eq_false (by omega)
        clear hr h2 hrr
        go_enter Tryd.func22, Tryd.ntmps22
        go_wp2_with fail
        refine HD.out.mono ?_
        rintro e w2 ⟨rfl, rfl⟩
        go_wp2_with fail
        refine HV.out.mono ?_
        rintro e w2 ⟨⟨v, ok, rfl, hvs, hv⟩, hb2⟩
        have HVV : Hid ((ok && (v.toList == root.toList)) = decide (r = some root)) := Lib.hid (by rw [beq_dec]; exact hv.dec root)
        clear hv HV
        cases ok with
        | true =>
          go_wp2_with fail
          go_ret
          refine ⟨?_, hb2⟩
          rw [HX.out, ← HVV.out]
          rfl
        | false =>
          go_wp2_with fail
          go_ret
          refine ⟨?_, hb2⟩
          rw [HX.out, ← HVV.out]
          rfl
      · have HX : Hid (decide (VerifyOk root n i s P c) = false) := Lib.hid (decide_eq_false (fun h => h2 h.2.2.1))
        rw [decide_eq_false h2] at HD
        have d1 : decide (i < 0) = false := decide_eq_false (by omega)
        have d2 : decide (n ≤ i) = false := decide_eq_false (by omega)
        clear hr
        go_enter Tryd.func22, Tryd.ntmps22
        go_wp2_with fail
        refine HD.out.mono ?_
        rintro e w2 ⟨rfl, rfl⟩
        go_wp2_with fail
        go_ret
        exact ⟨by rw [HX.out]; rfl, Below.refl _ _⟩
/-- What both hands back. -/
def BothRet (r : Option (ByteArray × ByteArray)) (e : Ending) : Prop := ∃ (a b : ByteArray) (ok : Bool), e = .returned (.tuple #[.string a, .string b, .bool ok]) ∧ a.size ≤ 32 ∧ b.size ≤ 32 ∧ OkIs r (a, b) ok
set_option maxRecDepth 100000 in
set_option maxHeartbeats 4000000 in
theorem ref_both_any (old : ByteArray) (P : Nat → ByteArray) (ho : old.size ≤ 32) : ∀ (c : Nat) (p : Option Addr) (cc m n : Nat) (wh : Bool) (w : World) (_ : c ≤ 1000) (_ : c ≤ cc) (_ : 1 ≤ m) (_ : m ≤ n) (_ : n ≤ 9223372036854775807) (_ : Digs c P) (_ : ReadsS w p c P),
    Calls Tryd.prog 52 #[.string old, .int .i64 (m : Nat), .int .i64 (n : Nat), .slice p c cc, .bool wh] w fun e w' => BothRet (bothV old P c m n wh) e ∧ Below w.heap.size w w' := by
  intro c
  induction c with
  | zero =>
    intro p cc m n wh w hc hcc hm hmn hnb hD hr
    clear hr hD
    by_cases h1 : m = n
    · subst h1
      cases wh with
      | true =>
        have HX : Hid (bothV old P 0 m m true = some (old, old)) := Lib.hid (by rw [bothV, if_pos (Nat.le_refl _), if_pos rfl])
        go_enter Tryd.func52, Tryd.ntmps52
        go_wp2_with fail
        go_ret3
        refine ⟨?_, Below.refl _ _⟩
        rw [HX.out]
        exact ⟨old, old, true, rfl, ho, ho, OkIs.some _⟩
      | false =>
        have HX : Hid (bothV old P 0 m m false = none) := Lib.hid (by rw [bothV, if_pos (Nat.le_refl _), if_neg (by decide)])
        go_enter Tryd.func52, Tryd.ntmps52
        go_wp2_with fail
        go_ret3
        refine ⟨?_, Below.refl _ _⟩
        rw [HX.out]
        exact ⟨⟨#[]⟩, ⟨#[]⟩, false, rfl, by decide, by decide, OkIs.none _⟩
    · have HX : Hid (bothV old P 0 m n wh = none) := Lib.hid (by rw [bothV, if_neg (by omega)])
      have n1 : ¬ (m : Int) = (n : Int) := by omega
      have n2 : ((m : Int) == (n : Int)) = false := by simp; omega
      go_enter Tryd.func52, Tryd.ntmps52
      go_wp2_with fail
      go_ret3
      refine ⟨?_, Below.refl _ _⟩
      rw [HX.out]
      exact ⟨⟨#[]⟩, ⟨#[]⟩, false, rfl, by decide, by decide, OkIs.none _⟩
  | succ c ih =>
    intro p cc m n wh w hc hcc hm hmn hnb hD hr
    have g0 : IntKind.i64.wrap (((c + 1 : Nat) : Int) - 1) = (c : Int) := by rw [IntWalk.i64_in _ (by omega)]; omega
    have d1 : ¬ (c : Int) < 0 := by omega
    by_cases h1 : m = n
    · subst h1
      cases wh with
      | true =>
        have HX : Hid (bothV old P (c + 1) m m true = none) := Lib.hid (by rw [bothV, if_pos (Nat.le_refl _), if_pos rfl])
        obtain ⟨c1, hc1⟩ : ∃ q, c + 1 = q := ⟨_, rfl⟩
        rw [hc1] at g0 HX ⊢
        clear hr hD ih hc1
        go_enter Tryd.func52, Tryd.ntmps52
        go_wp2_with fail
        go_ret3
        refine ⟨?_, Below.refl _ _⟩
        rw [HX.out]
        exact ⟨old, old, false, rfl, ho, ho, OkIs.none _⟩
      | false =>
        by_cases hc0 : c = 0
        · subst hc0
          obtain ⟨b, o, rfl, hcell⟩ := hr.last
          have hP0 := hD 0 (by omega)
          have HX : Hid (bothV old P 1 m m false = some (P 0, P 0)) := Lib.hid (by rw [bothV, if_pos (Nat.le_refl _), if_neg (by decide), if_pos rfl])
          obtain ⟨x, hx⟩ : ∃ x, P 0 = x := ⟨_, rfl⟩
          rw [hx] at HX hcell hP0
          rw [Nat.add_zero] at hcell
          have HXZ : Hid (x.size ≤ 32) := Lib.hid (by omega)
          clear hr hD ih hx hP0
          go_enter Tryd.func52, Tryd.ntmps52
          go_wp2_with fail
          go_quiet (fail)
          go_wp2_with fail
          go_ret3
          refine ⟨?_, Below_dn (Below.refl _ _) _⟩
          rw [HX.out]
          exact ⟨x, x, true, rfl, HXZ.out, HXZ.out, OkIs.some _⟩
        · have HX : Hid (bothV old P (c + 1) m m false = none) := Lib.hid (by rw [bothV, if_pos (Nat.le_refl _), if_neg (by decide), if_neg hc0])
          obtain ⟨c1, hc1⟩ : ∃ q, c + 1 = q := ⟨_, rfl⟩
          rw [hc1] at g0 HX ⊢
          have d2 : ¬ (c : Int) = 0 := by omega
          have d3 : ((c : Int) != 0) = true := by simp; omega
          clear hr hD ih hc1
          go_enter Tryd.func52, Tryd.ntmps52
          go_wp2_with fail
          go_ret3
          refine ⟨?_, Below.refl _ _⟩
          rw [HX.out]
          exact ⟨⟨#[]⟩, ⟨#[]⟩, false, rfl, by decide, by decide, OkIs.none _⟩
    · have n1 : ¬ (m : Int) = (n : Int) := by omega
      have n2 : ((m : Int) == (n : Int)) = false := by simp; omega
      have hlf := left_facts (n := n) (by omega)
      have hL := Lib.hid (fun W => ref_left_any n W (by omega) (by omega))
      have hval : bothV old P (c + 1) m n wh = (if m ≤ leftN n then (bothV old P c m (leftN n) wh).map (fun v => (v.1, nodeS v.2 (P c))) else (bothV old P c (m - leftN n) (n - leftN n) false).map (fun v => (nodeS (P c) v.1, nodeS (P c) v.2))) := by rw [bothV, if_neg (show ¬ n ≤ m by omega)]
      obtain ⟨k, hk⟩ : ∃ k, leftN n = k := ⟨_, rfl⟩
      rw [hk] at hlf hL hval
      obtain ⟨b, o, rfl, hcell⟩ := hr.last
      have hPS := hD c (by omega)
      have hD2 : Digs c P := fun i hi => hD i (by omega)
      have d2 : (0 : Int) ≤ (c : Int) := by omega
      have d3 : (c : Int) ≤ (cc : Int) := by omega
      have d4 : (c : Int) < ((c + 1 : Nat) : Int) := by omega
      by_cases hik : m ≤ k
      · rw [if_pos hik] at hval
        have e1 : (m : Int) ≤ (k : Int) := by omega
        have HA := Lib.hid (ih (some ⟨b, o, none⟩) cc m k wh w (by omega) (by omega) hm hik (by omega) hD2 (hr.less (by omega)))
        obtain ⟨r, hrr⟩ : ∃ r, bothV old P c m k wh = r := ⟨_, rfl⟩
        rw [hrr] at HA hval
        have HV := Lib.hid hval
        obtain ⟨x, hx⟩ : ∃ x, P c = x := ⟨_, rfl⟩
        rw [hx] at hPS HV hcell
        have HPS : Hid (x.size ≤ 4000) := Lib.hid (by omega)
        obtain ⟨c1, hc1⟩ : ∃ q, c + 1 = q := ⟨_, rfl⟩
        rw [hc1] at g0 HV d4 hcc hc ⊢
        clear hx hr ih hc1 hrr hval hk hD hD2 hPS
        go_enter Tryd.func52, Tryd.ntmps52
        go_wp2_with fail
        refine (hL.out _).mono ?_
        rintro e w' ⟨rfl, rfl⟩
        go_wp2_with fail
        refine HA.out.mono ?_
        rintro e w2 ⟨⟨va, vb, ok, rfl, hva, hvb, hv⟩, hb2⟩
        have hcell2 := (hb2.cell (p := ⟨b, o + c, none⟩) (cell_lt' hcell)).trans hcell
        have HN := Lib.hid (fun W => ref_node_any vb x W (by omega) (HPS.out))
        have HVV := Lib.hid hv
        clear hv HA
        go_wp2_with fail
        refine (HN.out _).mono ?_
        rintro e w3 ⟨rfl, hb3⟩
        go_wp2_with fail
        go_ret3
        refine ⟨?_, hb2.trans (hb3.mono hb2.size)⟩
        rw [HV.out]
        exact ⟨va, _, ok, rfl, hva, Nat.le_refl 32, OkIs.map (fun v => (v.1, nodeS v.2 x)) HVV.out⟩
      · rw [if_neg hik] at hval
        have e1 : ¬ (m : Int) ≤ (k : Int) := by omega
        have HA := Lib.hid (ih (some ⟨b, o, none⟩) cc (m - k) (n - k) false w (by omega) (by omega) (by omega) (by omega) (by omega) hD2 (hr.less (by omega)))
        obtain ⟨r, hrr⟩ : ∃ r, bothV old P c (m - k) (n - k) false = r := ⟨_, rfl⟩
        rw [hrr] at HA hval
        have HV := Lib.hid hval
        obtain ⟨x, hx⟩ : ∃ x, P c = x := ⟨_, rfl⟩
        rw [hx] at hPS HV hcell
        have HPS : Hid (x.size ≤ 4000) := Lib.hid (by omega)
        obtain ⟨c1, hc1⟩ : ∃ q, c + 1 = q := ⟨_, rfl⟩
        rw [hc1] at g0 HV d4 hcc hc ⊢
        obtain ⟨nk, hnk⟩ : ∃ q, n - k = q := ⟨_, rfl⟩
        obtain ⟨ik, hik2⟩ : ∃ q, m - k = q := ⟨_, rfl⟩
        rw [hnk, hik2] at HA
        have f1 : (n : Int) - (k : Int) = (nk : Int) := by omega
        have f2 : (m : Int) - (k : Int) = (ik : Int) := by omega
        have f3 : nk ≤ 9223372036854775807 := by omega
        have f4 : ik ≤ 9223372036854775807 := by omega
        have f5 : IntKind.i64.wrap (nk : Int) = (nk : Int) := by rw [IntWalk.i64_in _ (by omega)]
        have f6 : IntKind.i64.wrap (ik : Int) = (ik : Int) := by rw [IntWalk.i64_in _ (by omega)]
        have f7 : IntKind.i64.wrap ((n : Int) - (k : Int)) = (nk : Int) := by rw [f1, f5]
        have f8 : IntKind.i64.wrap ((m : Int) - (k : Int)) = (ik : Int) := by rw [f2, f6]
        clear hx hr ih hc1 hrr hval hk hnk hik2 hD hD2 hPS
        go_enter Tryd.func52, Tryd.ntmps52
        go_wp2_with fail
        refine (hL.out _).mono ?_
        rintro e w' ⟨rfl, rfl⟩
        go_wp2_with fail
        refine HA.out.mono ?_
        rintro e w2 ⟨⟨va, vb, ok, rfl, hva, hvb, hv⟩, hb2⟩
        have hcell2 := (hb2.cell (p := ⟨b, o + c, none⟩) (cell_lt' hcell)).trans hcell
        have HN1 : Hid (∀ W, Below w.heap.size w W → Calls Tryd.prog 35 #[.string x, .string va] W fun e w' => e = .returned (.string (nodeS x va)) ∧ Below w.heap.size w w') := Lib.hid (fun W h => (ref_node_any x va W (HPS.out) (by omega)).mono (fun e w' ⟨h1, h2⟩ => ⟨h1, h.trans (h2.mono h.size)⟩))
        have HN2 : Hid (∀ W, Below w.heap.size w W → Calls Tryd.prog 35 #[.string x, .string vb] W fun e w' => e = .returned (.string (nodeS x vb)) ∧ Below w.heap.size w w') := Lib.hid (fun W h => (ref_node_any x vb W (HPS.out) (by omega)).mono (fun e w' ⟨h1, h2⟩ => ⟨h1, h.trans (h2.mono h.size)⟩))
        have hvm := OkIs.map (fun v : ByteArray × ByteArray => (nodeS x v.1, nodeS x v.2)) hv
        have HVV : Hid (OkIs (r.map (fun v => (nodeS x v.1, nodeS x v.2))) (nodeS x va, nodeS x vb) ok) := Lib.hid hvm
        clear hvm
        have HZ1 : Hid ((nodeS x va).size ≤ 32) := Lib.hid (Nat.le_refl 32)
        have HZ2 : Hid ((nodeS x vb).size ≤ 32) := Lib.hid (Nat.le_refl 32)
        obtain ⟨y1, hy1⟩ : ∃ y, nodeS x va = y := ⟨_, rfl⟩
        obtain ⟨y2, hy2⟩ : ∃ y, nodeS x vb = y := ⟨_, rfl⟩
        rw [hy1] at HN1 HVV HZ1
        rw [hy2] at HN2 HVV HZ2
        clear hv HA hy1 hy2
        go_wp2_with fail
        have HB0 := hb2.drew
        go_region_law (first
          | (refine step_call (by rfl) 35 #[.string x, .string va] ?_ (HN1.out _ (by assumption)) ?_; (focus (go_simp; done)); intro w3 hb3; have hcell3 := (hb3.cell (p := ⟨b, o + c, none⟩) (cell_lt' hcell)).trans hcell)
          | (refine step_call (by rfl) 35 #[.string x, .string vb] ?_ (HN2.out _ (by assumption)) ?_; (focus (go_simp; done)); intro w4 hb4; have hcell4 := (hb4.cell (p := ⟨b, o + c, none⟩) (cell_lt' hcell)).trans hcell))
        all_goals go_wp2_with fail
        all_goals go_ret3
        all_goals
          refine ⟨?_, by assumption⟩
          rw [HV.out]
          exact ⟨y1, y2, ok, rfl, HZ1.out, HZ2.out, HVV.out⟩
set_option maxRecDepth 100000 in
set_option maxHeartbeats 4000000 in
theorem ref_verext_any (old root : ByteArray) (m n : Int) (p : Option Addr) (c cc : Nat) (P : Nat → ByteArray) (w : World) (hnb : n ≤ 9223372036854775807) (hmb : -9223372036854775808 ≤ m) (hc : c ≤ 1000) (hcc : c ≤ cc) (hr : ReadsS w p c P) :
    Calls Tryd.prog 24 #[.string old, .int .i64 m, .string root, .int .i64 n, .slice p c cc] w fun e w' => e = .returned (.bool (decide (VerExtOk old m root n P c))) ∧ Below w.heap.size w w' := by
  have HD := Lib.hid (ref_digests_any p c cc P w (by omega) hr)
  by_cases hg : 0 ≤ m ∧ m ≤ n ∧ Digs c P ∧ old.size = 32 ∧ root.size = 32
  · obtain ⟨h0, h1, h2, h3, h4⟩ := hg
    rw [decide_eq_true h2] at HD
    have z3 : (old.size : Int) = 32 := by omega
    have z4 : (root.size : Int) = 32 := by omega
    have q1 : ¬ m < 0 := by omega
    have q2 : ¬ n < m := by omega
    have q3 : decide (m < 0) = false := decide_eq_false (by omega)
    have q4 : decide (n < m) = false := decide_eq_false (by omega)
    by_cases hm0 : m = 0
    · subst hm0
      have HX : Hid (decide (VerExtOk old 0 root n P c) = (decide (c = 0) && decide (old = dS ⟨#[]⟩))) := Lib.hid (by
        rw [← Bool.decide_and, decide_eq_decide]
        unfold VerExtOk
        rw [if_pos rfl]
        exact ⟨fun h => h.2.2.2.2.2, fun h => ⟨by omega, by omega, h2, h3, h4, h⟩⟩)
      have HS := Lib.hid (ref_sum_s ⟨#[]⟩ w (by decide))
      obtain ⟨x, hx⟩ : ∃ x, dS ⟨#[]⟩ = x := ⟨_, rfl⟩
      rw [hx] at HX HS
      clear hx hr h2
      by_cases hc0 : c = 0
      · subst hc0
        have HE : Hid ((old.toList == x.toList) = decide (old = x)) := Lib.hid (beq_dec _ _)
        go_enter Tryd.func24, Tryd.ntmps24
        go_wp2_with fail
        refine HD.out.mono ?_
        rintro e w2 ⟨rfl, rfl⟩
        go_wp2_with fail
        refine HS.out.mono ?_
        rintro e w2 ⟨rfl, hb2⟩
        go_wp2_with fail
        go_ret
        refine ⟨?_, hb2⟩
        rw [HX.out, ← HE.out]
        rfl
      · have d1 : ¬ (c : Int) = 0 := by omega
        have d2 : ((c : Int) == 0) = false := by simp; omega
        go_enter Tryd.func24, Tryd.ntmps24
        go_wp2_with fail
        refine HD.out.mono ?_
        rintro e w2 ⟨rfl, rfl⟩
        go_wp2_with fail
        go_ret
        refine ⟨?_, Below.refl _ _⟩
        rw [HX.out, decide_eq_false hc0]
        rfl
    · by_cases hmn : m = n
      · subst hmn
        have HX : Hid (decide (VerExtOk old m root m P c) = (decide (c = 0) && decide (old = root))) := Lib.hid (by
          rw [← Bool.decide_and, decide_eq_decide]
          unfold VerExtOk
          rw [if_neg hm0, if_pos rfl]
          exact ⟨fun h => h.2.2.2.2.2, fun h => ⟨by omega, by omega, h2, h3, h4, h⟩⟩)
        have q5 : (m == 0) = false := by simp; omega
        clear hr h2
        by_cases hc0 : c = 0
        · subst hc0
          have HE : Hid ((old.toList == root.toList) = decide (old = root)) := Lib.hid (beq_dec _ _)
          go_enter Tryd.func24, Tryd.ntmps24
          go_wp2_with fail
          refine HD.out.mono ?_
          rintro e w2 ⟨rfl, rfl⟩
          go_wp2_with fail
          go_ret
          refine ⟨?_, Below.refl _ _⟩
          rw [HX.out, ← HE.out]
          rfl
        · have d1 : ¬ (c : Int) = 0 := by omega
          have d2 : ((c : Int) == 0) = false := by simp; omega
          go_enter Tryd.func24, Tryd.ntmps24
          go_wp2_with fail
          refine HD.out.mono ?_
          rintro e w2 ⟨rfl, rfl⟩
          go_wp2_with fail
          go_ret
          refine ⟨?_, Below.refl _ _⟩
          rw [HX.out, decide_eq_false hc0]
          rfl
      · obtain ⟨m0, rfl⟩ : ∃ m0 : Nat, m = (m0 : Nat) := ⟨m.toNat, by omega⟩
        obtain ⟨n0, rfl⟩ : ∃ n0 : Nat, n = (n0 : Nat) := ⟨n.toNat, by omega⟩
        have HX : Hid (decide (VerExtOk old m0 root n0 P c) = decide (bothV old P c m0 n0 true = some (old, root))) := Lib.hid (by
          rw [decide_eq_decide]
          unfold VerExtOk
          rw [if_neg hm0, if_neg hmn, Int.toNat_natCast, Int.toNat_natCast]
          exact ⟨fun h => h.2.2.2.2.2, fun h => ⟨by omega, by omega, h2, h3, h4, h⟩⟩)
        have q5 : ((m0 : Int) == 0) = false := by simp; omega
        have q6 : ((m0 : Int) == (n0 : Int)) = false := by simp; omega
        have HV := Lib.hid (ref_both_any old P (by omega) c p cc m0 n0 true w hc hcc (by omega) (by omega) (by omega) h2 hr)
        obtain ⟨r, hrr⟩ : ∃ r, bothV old P c m0 n0 true = r := ⟨_, rfl⟩
        rw [hrr] at HX HV
        clear hr h2 hrr
        go_enter Tryd.func24, Tryd.ntmps24
        go_wp2_with fail
        refine HD.out.mono ?_
        rintro e w2 ⟨rfl, rfl⟩
        go_wp2_with fail
        refine HV.out.mono ?_
        rintro e w2 ⟨⟨va, vb, ok, rfl, hva, hvb, hv⟩, hb2⟩
        have HVV : Hid ((ok && ((va.toList == old.toList) && (vb.toList == root.toList))) = decide (r = some (old, root))) := Lib.hid (by
          rw [beq_dec, beq_dec, ← Bool.decide_and]
          cases r with
          | none => rw [hv.2 rfl]; rfl
          | some u =>
            obtain ⟨h, rfl⟩ := hv.1 u rfl
            rw [Bool.true_and, decide_eq_decide, ← h]
            simp)
        clear hv HV
        cases ok with
        | false =>
          go_wp2_with fail
          go_ret
          refine ⟨?_, hb2⟩
          rw [HX.out, ← HVV.out]
          rfl
        | true =>
          cases hq : (va.toList == old.toList) with
          | false =>
            have HQ := Lib.hid hq
            go_wp2_with fail
            go_ret
            refine ⟨?_, hb2⟩
            rw [HX.out, ← HVV.out, HQ.out]
            rfl
          | true =>
            have HQ := Lib.hid hq
            go_wp2_with fail
            go_ret
            refine ⟨?_, hb2⟩
            rw [HX.out, ← HVV.out, HQ.out]
            rfl
  · have HX : Hid (decide (VerExtOk old m root n P c) = false) := Lib.hid (decide_eq_false (fun h => hg ⟨h.1, h.2.1, h.2.2.1, h.2.2.2.1, h.2.2.2.2.1⟩))
    clear hr
    by_cases h0 : m < 0
    · go_enter Tryd.func24, Tryd.ntmps24
      go_wp2_with fail
      refine HD.out.mono ?_
      rintro e w2 ⟨rfl, rfl⟩
      go_wp2_with fail
      go_ret
      exact ⟨by rw [HX.out]; rfl, Below.refl _ _⟩
    · have q1 : decide (m < 0) = false := decide_eq_false h0
      by_cases h1 : n < m
      · go_enter Tryd.func24, Tryd.ntmps24
        go_wp2_with fail
        refine HD.out.mono ?_
        rintro e w2 ⟨rfl, rfl⟩
        go_wp2_with fail
        go_ret
        exact ⟨by rw [HX.out]; rfl, Below.refl _ _⟩
      · have q2 : decide (n < m) = false := decide_eq_false h1
        by_cases h2 : Digs c P
        · rw [decide_eq_true h2] at HD
          by_cases h3 : old.size = 32
          · have h4 : ¬ (root.size : Int) = 32 := fun h => hg ⟨by omega, by omega, h2, h3, by omega⟩
            have z3 : (old.size : Int) = 32 := by omega
            have z4 : ((root.size : Int) != 32) = true := by simp; omega
            clear h2 hg
            go_enter Tryd.func24, Tryd.ntmps24
            go_wp2_with fail
            refine HD.out.mono ?_
            rintro e w2 ⟨rfl, rfl⟩
            go_wp2_with fail
            go_ret
            exact ⟨by rw [HX.out]; rfl, Below.refl _ _⟩
          · have z3 : ¬ (old.size : Int) = 32 := by omega
            have z4 : ((old.size : Int) != 32) = true := by simp; omega
            clear h2 hg
            go_enter Tryd.func24, Tryd.ntmps24
            go_wp2_with fail
            refine HD.out.mono ?_
            rintro e w2 ⟨rfl, rfl⟩
            go_wp2_with fail
            go_ret
            exact ⟨by rw [HX.out]; rfl, Below.refl _ _⟩
        · rw [decide_eq_false h2] at HD
          clear h2 hg
          go_enter Tryd.func24, Tryd.ntmps24
          go_wp2_with fail
          refine HD.out.mono ?_
          rintro e w2 ⟨rfl, rfl⟩
          go_wp2_with fail
          go_ret
          exact ⟨by rw [HX.out]; rfl, Below.refl _ _⟩
/-- Two lists are equal. -/
def SameL (n m : Nat) (F G : Nat → ByteArray) : Prop := n = m ∧ ∀ i, i < n → F i = G i
instance (n m : Nat) (F G : Nat → ByteArray) : Decidable (SameL n m F G) := by unfold SameL; infer_instance
set_option maxRecDepth 100000 in
set_option maxHeartbeats 1000000 in
theorem sameS_any (p q : Option Addr) (n m cp cq : Nat) (F G : Nat → ByteArray) (w : World) (hn : n ≤ 1000000) (hm : m ≤ 1000000) (hp : ReadsS w p n F) (hq : ReadsS w q m G) :
    Calls Tryd.prog 18 #[.slice p n cp, .slice q m cq] w fun e w' => e = .returned (.bool (decide (SameL n m F G))) ∧ Below w.heap.size w w' := by
  by_cases hnm : n = m
  · subst hnm
    have HP := Lib.hid hp
    have HQ := Lib.hid hq
    clear hp hq
    go_enter Tryd.func18, Tryd.ntmps18
    go_wp2_with fail
    go_loopw [5] (fun v wr => ∃ k : Nat, k ≤ n ∧ v = .int .i64 (k : Nat) ∧ Hid (∀ i, i < k → F i = G i) ∧ Below w.heap.size w wr) (fun v _ => n - (intOf v).toNat)
    case atStart => exact ⟨0, by omega, rfl, Lib.hid (fun i h => by omega), Below.refl _ _⟩
    case round =>
      obtain ⟨k, hk, rfl, hall, hB⟩ := hrel
      by_cases hlt : k < n
      · obtain ⟨b, o, rfl, hc⟩ := HP.out k hlt
        obtain ⟨b', o', rfl, hc'⟩ := HQ.out k hlt
        have c1 := (hB.cell (p := ⟨b, o + k, none⟩) (cell_lt' (hc k hlt))).trans (hc k hlt)
        have c2 := (hB.cell (p := ⟨b', o' + k, none⟩) (cell_lt' (hc' k hlt))).trans (hc' k hlt)
        have v0 : (0 : Int) ≤ (k : Int) := by omega
        have v1 : (k : Int) < (n : Int) := by omega
        obtain ⟨x, hx⟩ : ∃ x, F k = x := ⟨_, rfl⟩
        obtain ⟨y, hy⟩ : ∃ y, G k = y := ⟨_, rfl⟩
        rw [hx] at c1
        rw [hy] at c2
        have HX := Lib.hid hx
        have HY := Lib.hid hy
        clear hc hx hc' hy
        by_cases e : x = y
        · subst e
          go_wp2_with fail
          go_quiet (fail)
          go_wp2_with fail
          refine ⟨⟨k + 1, by omega, by go_num, Lib.hid (fun i hi => ?_), Below_dn hB _⟩, by simp [intOf]; omega⟩
          by_cases hik : i = k
          · rw [hik, HX.out, HY.out]
          · exact hall.out i (by omega)
        · have HD : Hid (decide (SameL n n F G) = false) := Lib.hid (decide_eq_false (fun h => e (by rw [← HX.out, ← HY.out]; exact h.2 k hlt)))
          have e2 : (x.toList == y.toList) = false := by rw [beq_dec]; exact decide_eq_false e
          have e3 : (x.toList != y.toList) = true := by simp [bne, e2]
          go_wp2_with fail
          go_quiet (fail)
          go_wp2_with fail
          go_ret
          exact ⟨by rw [HD.out]; rfl, Below_dn hB _⟩
      · obtain rfl : n = k := by omega
        have HD : Hid (decide (SameL n n F G) = true) := Lib.hid (decide_eq_true ⟨rfl, hall.out⟩)
        go_wp2_with fail
        go_ret
        exact ⟨by rw [HD.out]; rfl, hB⟩
  · have HD : Hid (decide (SameL n m F G) = false) := Lib.hid (decide_eq_false (fun h => hnm h.1))
    have d1 : ¬ (n : Int) = (m : Int) := by omega
    have d2 : ((n : Int) != (m : Int)) = true := by simp; omega
    clear hp hq
    go_enter Tryd.func18, Tryd.ntmps18
    go_wp2_with fail
    go_ret
    exact ⟨by rw [HD.out]; rfl, Below.refl _ _⟩
end Go.Proofs.YtolhjkbfinlfcaaDoor
