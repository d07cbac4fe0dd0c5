/- Package digest: Extension. Conditions: at most 1000 strings of at most 4000 bytes each, that can be read; the table holds its words. -/
import Derived.Test.YtolhjkbfinlfcaaDoorDigProof
namespace Go.Proofs.YtolhjkbfinlfcaaDoor
open Go Go.RowKit
/-- The proof that the n entries from o on begin with m of them, from the bottom. -/
def extG (F : Nat → ByteArray) : Nat → Nat → Nat → Nat → Bool → List ByteArray
  | 0, _, _, _, _ => []
  | f + 1, o, n, m, wh => if n ≤ m then (if wh = true then [] else [rootF F o n]) else if m ≤ leftN n then extG F f o (leftN n) m wh ++ [rootF F (o + leftN n) (n - leftN n)] else extG F f (o + leftN n) (n - leftN n) (m - leftN n) false ++ [rootF F o (leftN n)]
theorem extG_fuel (F : Nat → ByteArray) : ∀ (f g o n m : Nat) (wh : Bool), 1 ≤ m → 1 ≤ n → n ≤ f → n ≤ g → extG F f o n m wh = extG F g o n m wh
  | 0, _, _, n, _, _, _, h, h', _ => by omega
  | f + 1, 0, _, n, _, _, _, h, _, h' => by omega
  | f + 1, g + 1, o, n, m, wh, hm, hn, h1, h2 => by
    unfold extG
    split
    · rfl
    · have hl := left_facts (n := n) (by omega)
      split
      · rw [extG_fuel F f g o (leftN n) m wh hm (by omega) (by omega) (by omega)]
      · rw [extG_fuel F f g (o + leftN n) (n - leftN n) (m - leftN n) false (by omega) (by omega) (by omega) (by omega)]
def extF (F : Nat → ByteArray) (o n m : Nat) (wh : Bool) : List ByteArray := extG F n o n m wh
theorem ext_end (F : Nat → ByteArray) (o : Nat) {n m : Nat} (wh : Bool) (hn : 1 ≤ n) (h : n ≤ m) : extF F o n m wh = if wh = true then [] else [rootF F o n] := by
  obtain ⟨k, rfl⟩ : ∃ k, n = k + 1 := ⟨n - 1, by omega⟩
  unfold extF
  rw [extG, if_pos h]
theorem ext_step (F : Nat → ByteArray) (o : Nat) {n m : Nat} (wh : Bool) (hm : 1 ≤ m) (h : m < n) : extF F o n m wh = if m ≤ leftN n then extF F o (leftN n) m wh ++ [rootF F (o + leftN n) (n - leftN n)] else extF F (o + leftN n) (n - leftN n) (m - leftN n) false ++ [rootF F o (leftN n)] := by
  have hl := left_facts (n := n) (by omega)
  obtain ⟨k, rfl⟩ : ∃ k, n = k + 1 := ⟨n - 1, by omega⟩
  unfold extF
  rw [extG, if_neg (by omega)]
  split
  · rw [extG_fuel F k (leftN (k + 1)) o (leftN (k + 1)) m wh hm (by omega) (by omega) (Nat.le_refl _)]
  · rw [extG_fuel F k (k + 1 - leftN (k + 1)) _ _ _ false (by omega) (by omega) (by omega) (Nat.le_refl _)]
theorem ext_length (F : Nat → ByteArray) : ∀ (n o m : Nat) (wh : Bool), 1 ≤ m → 1 ≤ n → (extF F o n m wh).length ≤ n := by
  intro n
  induction n using Nat.strongRecOn with
  | ind n ih =>
    intro o m wh hm hn
    rcases Nat.lt_or_ge m n with h | h
    · have hl := left_facts (n := n) (by omega)
      rw [ext_step F o wh hm h]
      split
      · have := ih (leftN n) (by omega) o m wh hm (by omega)
        simp
        omega
      · have := ih (n - leftN n) (by omega) (o + leftN n) (m - leftN n) false (by omega) (by omega)
        simp
        omega
    · rw [ext_end F o wh hn h]
      split <;> simp <;> omega
def extR (F : Nat → ByteArray) (n : Nat) (m : Int) : List ByteArray := if 1 ≤ m ∧ m ≤ (n : Int) then extF F 0 n m.toNat true else []
def extE (n : Nat) (m : Int) : Int := if 0 ≤ m ∧ m ≤ (n : Int) then 0 else 2
set_option maxRecDepth 100000 in
set_option maxHeartbeats 4000000 in
theorem ext_any (p : Option Addr) (n c : Nat) (F : Nat → ByteArray) (i : Int) (w : World) (hn : n ≤ 1000) (hc : n ≤ c) (hF : ∀ i, i < n → (F i).size ≤ 4000) (hr : ReadsS w p n F) (hT : RoundOk w) :
    Calls Tryd.prog 16 #[.slice p n c, .int .i64 i] w fun e w' => RetStrs (extR F n i) (extE n i) e w' ∧ Below w.heap.size w w' := by
  have HT := Lib.hid hT
  have HF := Lib.hid hF
  obtain ⟨i0, hi, hz0, hz1, hz2⟩ := infoStr
  by_cases h0 : 1 ≤ i
  · by_cases h1 : i ≤ (n : Int)
    · obtain ⟨j, rfl⟩ : ∃ j : Nat, i = (j : Nat) := ⟨i.toNat, by omega⟩
      have hjn : j ≤ n := by omega
      have hj1 : 1 ≤ j := by omega
      obtain ⟨b, off, rfl, hcl⟩ := hr 0 (by omega)
      have HC : Hid (∀ W, Below w.heap.size w W → ∀ q, q < n → W.cell? ⟨b, off + q, none⟩ = some (.string (F q))) := Lib.hid (fun W h q hq => (h.cell (p := ⟨b, off + q, none⟩) (cell_lt' (hcl q hq))).trans (hcl q hq))
      have HRES : Hid (extR F n (j : Nat) = extF F 0 n j true ∧ extE n (j : Nat) = 0) := Lib.hid ⟨by unfold extR; rw [if_pos ⟨h0, h1⟩, Int.toNat_natCast], by unfold extE; rw [if_pos ⟨by omega, h1⟩]⟩
      have d1 : decide ((j : Int) < 0) = false := decide_eq_false (by omega)
      have d2 : decide (n < j) = false := decide_eq_false (by omega)
      have d3 : decide ((n : Int) < (j : Int)) = false := decide_eq_false (by omega)
      have d4 : decide ((j : Int) = 0) = false := decide_eq_false (by omega)
      have d5 : ((j : Int) == 0) = false := by simp; omega
      have d6 : ¬ (j : Int) = 0 := by omega
      clear hT hF hr hcl
      go_enter Tryd.func16, Tryd.ntmps16
      go_wp2_with fail
      go_loopw [0, 1, 6, 7] (fun v0 v1 v6 v7 wr => ∃ (o n' c' j' P : Nat) (T : List ByteArray) (wh : Bool), v0 = .slice (some ⟨b, P, none⟩) n' c' ∧ v1 = .int .i64 (j' : Nat) ∧ v7 = .bool wh ∧ Hid (P = off + o) ∧ 1 ≤ j' ∧ j' ≤ n' ∧ n' ≤ c' ∧ o + n' ≤ n ∧ 1 ≤ n' ∧ T.length + n' ≤ n ∧
        wr.ownsRow w.heap.size 9 1 v6 T.length (T.map strV) ∧ Hid (extF F 0 n j true = extF F o n' j' wh ++ T.reverse) ∧ Below w.heap.size w wr) (fun v0 _ _ _ _ => lenV v0)
      case atStart => exact ⟨0, n, c, j, off, [], true, rfl, rfl, rfl, Lib.hid rfl, by omega, hjn, hc, by omega, by omega, by simp, World.ownsRow_nil _ _ _ _, Lib.hid (by simp), Below.refl _ _⟩
      case round =>
        obtain ⟨o, n', c', j', P, T, wh, rfl, rfl, rfl, hP, hj1', hj', hc', hon, hn1, hTn, hown, hpr, hB⟩ := hrel
        by_cases hlt : j' < n'
        · have hn2 : 2 ≤ n' := by omega
          have hlf := left_facts hn2
          have HLF := Lib.hid (fun W => left_any n' W hn2 (by omega))
          have HPT := Lib.hid (ext_step F o wh hj1' hlt)
          obtain ⟨k, hk⟩ : ∃ k, leftN n' = k := ⟨_, rfl⟩
          rw [hk] at hlf HLF HPT
          have HK := Lib.hid hk
          have v0 : (j' : Int) < (n' : Int) := by omega
          have v1 : (0 : Int) ≤ (k : Int) := by omega
          have v2 : (k : Int) ≤ (n' : Int) := by omega
          have v3 : (k : Int) ≤ (c' : Int) := by omega
          have v4 : (n' : Int) ≤ (c' : Int) := by omega
          have HB := Lib.hid hB
          have HOWN := Lib.hid hown
          clear hk hB hown
          go_wp2_with fail
          refine (HLF.out _).mono ?_
          rintro e w2 ⟨rfl, rfl⟩
          go_wp2_with fail
          go_quiet (fail)
          have HB4 := Lib.hid (Below_dn HB.out nq)
          have HO4 := Lib.hid (show (wr.drewN nq).ownsRow w.heap.size 9 1 _ T.length (T.map strV) from HOWN.out)
          obtain ⟨w4, hw4⟩ : ∃ W : World, wr.drewN nq = W := ⟨_, rfl⟩
          rw [hw4] at HB4 HO4 ⊢
          clear hw4 HB HOWN HLF
          by_cases hik : j' ≤ k
          · have HPL : Hid (extF F 0 n j true = extF F o k j' wh ++ (T ++ [rootF F (o + k) (n' - k)]).reverse) := Lib.hid (by rw [hpr.out, HPT.out, if_pos hik, List.reverse_append, List.append_assoc]; rfl)
            have hcmp : ¬ (k : Int) < (j' : Int) := by omega
            have HRT := Lib.hid (fun W (h : Below w.heap.size w W) => root_any (some ⟨b, P + k, none⟩) (n' - k) (c' - k) (fun q => F (o + k + q)) W (by omega) (fun q hq => HF.out _ (by omega)) (fun q _ => ⟨b, P + k, rfl, fun q hq => by
              rw [show P + k + q = off + (o + k + q) by have := hP.out; omega]
              exact HC.out W h (o + k + q) (by omega)⟩) (HT.out.below h))
            have HSH : Hid (rootF (fun q => F (o + k + q)) 0 (n' - k) = rootF F (o + k) (n' - k)) := Lib.hid (root_shift F (o + k) (n' - k))
            rw [HSH.out] at HRT
            obtain ⟨x, hx⟩ : ∃ x, rootF F (o + k) (n' - k) = x := ⟨_, rfl⟩
            rw [hx] at HRT HPL
            clear hx hik
            go_wp2_with fail
            refine (HRT.out w4 HB4.out).mono ?_
            rintro e w5 ⟨rfl, hb5⟩
            have HB5 := Lib.hid (HB4.out.trans (hb5.mono HB4.out.size))
            have h55 := own_below HO4.out hb5
            have hw5 := HB5.out.size
            have hTl : T.length ≤ 1000 := by omega
            clear hb5
            go_wp2_with (at_builtin; refine wpList_append_own _ rfl _ _ 22 rfl w.heap.size 9 i0 (.string ⟨#[]⟩) 1 16 Tryd.underlying22 hi hz0 hz1 hz2 rfl (by decide) _ T.length _ rfl (h55.alloc _) ⟨w5.heap.size, 0, none⟩ 1 1 [.string x] rfl rfl (cell_one_new _ _ _) (by simp [Value.oneCell']) (by unfold maxLen; omega) (by omega) (by simp; omega) ?_; intro v' w6 hown6 hgrow6 _; obtain ⟨g6, cap6, rfl⟩ := ownsRow_succ hown6; have hbb := (HB5.out.alloc hw5 (.cells #[.string x] 9)).grown hgrow6 (by simp; omega) (fun q ej => (h55.lt q ej).1))
            refine ⟨⟨o, k, c', j', P, T ++ [x], wh, rfl, rfl, rfl, hP, by omega, by omega, by omega, by omega, by omega, by simp; omega, ?_, HPL, hbb⟩, by simp [lenV]; omega⟩
            rw [List.length_append, List.map_append]
            exact hown6
          · have HPL : Hid (extF F 0 n j true = extF F (o + k) (n' - k) (j' - k) false ++ (T ++ [rootF F o k]).reverse) := Lib.hid (by rw [hpr.out, HPT.out, if_neg hik, List.reverse_append, List.append_assoc]; rfl)
            have hcmp : (k : Int) < (j' : Int) := by omega
            have g1 : IntKind.i64.wrap ((j' : Int) - (k : Int)) = ((j' - k : Nat) : Int) := by rw [IntWalk.i64_in _ (by omega)]; omega
            have HRT := Lib.hid (fun W (h : Below w.heap.size w W) => root_any (some ⟨b, P, none⟩) k c' (fun q => F (o + q)) W (by omega) (fun q hq => HF.out _ (by omega)) (fun q _ => ⟨b, P, rfl, fun q hq => by
              rw [show P + q = off + (o + q) by have := hP.out; omega]
              exact HC.out W h (o + q) (by omega)⟩) (HT.out.below h))
            have HSH : Hid (rootF (fun q => F (o + q)) 0 k = rootF F o k) := Lib.hid (root_shift F o k)
            rw [HSH.out] at HRT
            obtain ⟨x, hx⟩ : ∃ x, rootF F o k = x := ⟨_, rfl⟩
            rw [hx] at HRT HPL
            clear hx hik
            go_wp2_with fail
            refine (HRT.out w4 HB4.out).mono ?_
            rintro e w5 ⟨rfl, hb5⟩
            have HB5 := Lib.hid (HB4.out.trans (hb5.mono HB4.out.size))
            have h55 := own_below HO4.out hb5
            have hw5 := HB5.out.size
            have hTl : T.length ≤ 1000 := by omega
            clear hb5
            go_wp2_with (at_builtin; refine wpList_append_own _ rfl _ _ 22 rfl w.heap.size 9 i0 (.string ⟨#[]⟩) 1 16 Tryd.underlying22 hi hz0 hz1 hz2 rfl (by decide) _ T.length _ rfl (h55.alloc _) ⟨w5.heap.size, 0, none⟩ 1 1 [.string x] rfl rfl (cell_one_new _ _ _) (by simp [Value.oneCell']) (by unfold maxLen; omega) (by omega) (by simp; omega) ?_; intro v' w6 hown6 hgrow6 _; obtain ⟨g6, cap6, rfl⟩ := ownsRow_succ hown6; have hbb := (HB5.out.alloc hw5 (.cells #[.string x] 9)).grown hgrow6 (by simp; omega) (fun q ej => (h55.lt q ej).1))
            refine ⟨⟨o + k, n' - k, c' - k, j' - k, P + k, T ++ [x], false, rfl, rfl, rfl, Lib.hid (by have := hP.out; omega), by omega, by omega, by omega, by omega, by omega, by simp; omega, ?_, HPL, hbb⟩, by simp [lenV]; omega⟩
            rw [List.length_append, List.map_append]
            exact hown6
        · have hex : ¬ (j' : Int) < (n' : Int) := by omega
          cases wh with
          | true =>
            have HRV := Lib.hid (reverse_any w.heap.size _ T wr (by omega) hown)
            have HPR : Hid (extF F 0 n j true = T.reverse) := Lib.hid (by rw [hpr.out, ext_end F o true hn1 (by omega)]; rfl)
            have HB := Lib.hid hB
            clear hown hpr hB
            go_wp2_with fail
            refine HRV.out.mono ?_
            rintro e w2 ⟨rfl, ⟨pp, cc, rfl, hcc, hrd⟩, hb2⟩
            have HB2 := Lib.hid (HB.out.trans hb2)
            have HRD := Lib.hid hrd
            clear hrd hb2
            go_wp2_with fail
            go_ret2
            exact ⟨by rw [HRES.out.1, HRES.out.2, HPR.out]; exact ⟨pp, T.length, cc, rfl, by simp, HRD.out, hcc⟩, HB2.out⟩
          | false =>
            have HB := Lib.hid hB
            have HOWN := Lib.hid hown
            have HRT := Lib.hid (fun W (h : Below w.heap.size w W) => root_any (some ⟨b, P, none⟩) n' c' (fun q => F (o + q)) W (by omega) (fun q hq => HF.out _ (by omega)) (fun q _ => ⟨b, P, rfl, fun q hq => by
              rw [show P + q = off + (o + q) by have := hP.out; omega]
              exact HC.out W h (o + q) (by omega)⟩) (HT.out.below h))
            have HSH : Hid (rootF (fun q => F (o + q)) 0 n' = rootF F o n') := Lib.hid (root_shift F o n')
            rw [HSH.out] at HRT
            have HPR : Hid (extF F 0 n j true = (T ++ [rootF F o n']).reverse) := Lib.hid (by rw [hpr.out, ext_end F o false hn1 (by omega), List.reverse_append]; rfl)
            obtain ⟨x, hx⟩ : ∃ x, rootF F o n' = x := ⟨_, rfl⟩
            rw [hx] at HRT HPR
            obtain ⟨wo, rfl⟩ : ∃ W : World, W = wr := ⟨_, rfl⟩
            clear hx hown hpr hB
            go_wp2_with fail
            refine (HRT.out wo HB.out).mono ?_
            rintro e w5 ⟨rfl, hb5⟩
            have HB5 := Lib.hid (HB.out.trans (hb5.mono HB.out.size))
            have h55 := own_below HOWN.out hb5
            have hw5 := HB5.out.size
            have hTl : T.length ≤ 1000 := by omega
            clear hb5
            go_wp2_with (at_builtin; refine wpList_append_own _ rfl _ _ 22 rfl w.heap.size 9 i0 (.string ⟨#[]⟩) 1 16 Tryd.underlying22 hi hz0 hz1 hz2 rfl (by decide) _ T.length _ rfl (h55.alloc _) ⟨w5.heap.size, 0, none⟩ 1 1 [.string x] rfl rfl (cell_one_new _ _ _) (by simp [Value.oneCell']) (by unfold maxLen; omega) (by omega) (by simp; omega) ?_; intro v' w6 hown6 hgrow6 _; obtain ⟨g6, cap6, rfl⟩ := ownsRow_succ hown6; have hbb := (HB5.out.alloc hw5 (.cells #[.string x] 9)).grown hgrow6 (by simp; omega) (fun q ej => (h55.lt q ej).1))
            have hown7 : w6.ownsRow w.heap.size 9 1 (.slice (some ⟨g6, 0, none⟩) (T.length + 1) cap6) (T ++ [x]).length ((T ++ [x]).map strV) := by
              rw [List.length_append, List.map_append]
              exact hown6
            have HRV := Lib.hid (reverse_any w.heap.size _ (T ++ [x]) w6 (by simp; omega) hown7)
            have HB6 := Lib.hid hbb
            clear hown7 hown6 hgrow6 hbb h55
            refine HRV.out.mono ?_
            rintro e w2 ⟨rfl, ⟨pp, cc, he, hcc, hrd⟩, hb2⟩
            have HB2 := Lib.hid (HB6.out.trans hb2)
            have HRD := Lib.hid hrd
            have HCC := Lib.hid hcc
            have HE := Lib.hid he
            clear hrd hb2 he hcc
            go_wp2_with fail
            go_ret2
            refine ⟨?_, HB2.out⟩
            rw [HRES.out.1, HRES.out.2, HPR.out]
            refine ⟨pp, (T ++ [x]).length, cc, ?_, by simp, HRD.out, HCC.out⟩
            rw [← HE.out]
            rfl
    · have HRES : Hid (extR F n i = [] ∧ extE n i = 2) := Lib.hid ⟨by unfold extR; rw [if_neg (by omega)], by unfold extE; rw [if_neg (by omega)]⟩
      have h2 : (n : Int) < i := by omega
      clear hT hF hr
      go_enter Tryd.func16, Tryd.ntmps16
      go_wp2_with fail
      go_ret2
      exact ⟨by rw [HRES.out.1, HRES.out.2]; exact ⟨none, 0, 0, rfl, rfl, fun q hq => by omega, Nat.le_refl _⟩, Below.refl _ _⟩
  · by_cases h2 : i = 0
    · have HRES : Hid (extR F n i = [] ∧ extE n i = 0) := Lib.hid ⟨by unfold extR; rw [if_neg (by omega)], by unfold extE; rw [if_pos (by omega)]⟩
      subst h2
      have h3 : ¬ (n : Int) < 0 := by omega
      clear hT hF hr
      go_enter Tryd.func16, Tryd.ntmps16
      go_wp2_with fail
      go_ret2
      exact ⟨by rw [HRES.out.1, HRES.out.2]; exact ⟨none, 0, 0, rfl, rfl, fun q hq => by omega, Nat.le_refl _⟩, Below.refl _ _⟩
    · have HRES : Hid (extR F n i = [] ∧ extE n i = 2) := Lib.hid ⟨by unfold extR; rw [if_neg (by omega)], by unfold extE; rw [if_neg (by omega)]⟩
      have h3 : i < 0 := by omega
      clear hT hF hr
      go_enter Tryd.func16, Tryd.ntmps16
      go_wp2_with fail
      go_ret2
      exact ⟨by rw [HRES.out.1, HRES.out.2]; exact ⟨none, 0, 0, rfl, rfl, fun q hq => by omega, Nat.le_refl _⟩, Below.refl _ _⟩
end Go.Proofs.YtolhjkbfinlfcaaDoor
