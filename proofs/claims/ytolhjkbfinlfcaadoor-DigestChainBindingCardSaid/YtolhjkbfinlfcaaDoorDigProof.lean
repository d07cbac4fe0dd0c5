/- Package digest: Proof. Conditions: at most 1000 strings of at most 4000 bytes each, that can be read; the table holds its words. -/
import Derived.Test.YtolhjkbfinlfcaaDoorDigRev
import Derived.WalkMore
namespace Go.Proofs.YtolhjkbfinlfcaaDoor
open Go Go.RowKit
/-- The proof of entry i of the n entries from o on, from the bottom. -/
def proofG (F : Nat → ByteArray) : Nat → Nat → Nat → Nat → List ByteArray
  | 0, _, _, _ => []
  | f + 1, o, n, i => if n ≤ 1 then [] else if i < leftN n then proofG F f o (leftN n) i ++ [rootF F (o + leftN n) (n - leftN n)] else proofG F f (o + leftN n) (n - leftN n) (i - leftN n) ++ [rootF F o (leftN n)]
theorem proofG_fuel (F : Nat → ByteArray) : ∀ (f g o n i : Nat), n ≤ f → n ≤ g → proofG F f o n i = proofG F g o n i
  | 0, 0, _, _, _, _, _ => rfl
  | 0, g + 1, _, n, _, h, _ => by
    obtain rfl : n = 0 := by omega
    simp [proofG]
  | f + 1, 0, _, n, _, _, h => by
    obtain rfl : n = 0 := by omega
    simp [proofG]
  | f + 1, g + 1, o, n, i, h1, h2 => by
    unfold proofG
    split
    · rfl
    · have hl := left_facts (n := n) (by omega)
      rw [proofG_fuel F f g o (leftN n) i (by omega) (by omega), proofG_fuel F f g (o + leftN n) (n - leftN n) (i - leftN n) (by omega) (by omega)]
def proofF (F : Nat → ByteArray) (o n i : Nat) : List ByteArray := proofG F n o n i
theorem proof_one (F : Nat → ByteArray) (o i : Nat) {n : Nat} (h : n ≤ 1) : proofF F o n i = [] := by
  unfold proofF
  cases n with
  | zero => rfl
  | succ n => rw [proofG, if_pos h]
theorem proof_two (F : Nat → ByteArray) (o i : Nat) {n : Nat} (h : 2 ≤ n) : proofF F o n i = if i < leftN n then proofF F o (leftN n) i ++ [rootF F (o + leftN n) (n - leftN n)] else proofF F (o + leftN n) (n - leftN n) (i - leftN n) ++ [rootF F o (leftN n)] := by
  have hl := left_facts h
  obtain ⟨m, rfl⟩ : ∃ m, n = m + 1 := ⟨n - 1, by omega⟩
  unfold proofF
  rw [proofG, if_neg (by omega), proofG_fuel F m (leftN (m + 1)) o (leftN (m + 1)) i (by omega) (Nat.le_refl _), proofG_fuel F m (m + 1 - leftN (m + 1)) _ _ _ (by omega) (Nat.le_refl _)]
theorem proof_length (F : Nat → ByteArray) : ∀ (n o i : Nat), (proofF F o n i).length ≤ n := by
  intro n
  induction n using Nat.strongRecOn with
  | ind n ih =>
    intro o i
    rcases Nat.lt_or_ge n 2 with h | h
    · rw [proof_one F o i (by omega)]; simp
    · have hl := left_facts h
      rw [proof_two F o i h]
      split
      · have := ih (leftN n) (by omega) o i
        simp
        omega
      · have := ih (n - leftN n) (by omega) (o + leftN n) (i - leftN n)
        simp
        omega
theorem root_shift (F : Nat → ByteArray) (o n : Nat) : rootF (fun q => F (o + q)) 0 n = rootF F o n := root_congr n 0 o (fun i _ => by simp)
def proofR (F : Nat → ByteArray) (n : Nat) (i : Int) : List ByteArray := if 0 ≤ i ∧ i < (n : Int) then proofF F 0 n i.toNat else []
def proofE (n : Nat) (i : Int) : Int := if 0 ≤ i ∧ i < (n : Int) then 0 else 2
set_option maxRecDepth 100000 in
set_option maxHeartbeats 4000000 in
theorem proof_any (p : Option Addr) (n c : Nat) (F : Nat → ByteArray) (i : Int) (w : World) (hn : n ≤ 1000) (hc : n ≤ c) (hF : ∀ i, i < n → (F i).size ≤ 4000) (hr : ReadsS w p n F) (hT : RoundOk w) :
    Calls Tryd.prog 14 #[.slice p n c, .int .i64 i] w fun e w' => RetStrs (proofR F n i) (proofE n i) e w' ∧ Below w.heap.size w w' := by
  have HT := Lib.hid hT
  have HF := Lib.hid hF
  obtain ⟨i0, hi, hz0, hz1, hz2⟩ := infoStr
  by_cases h0 : 0 ≤ i
  · by_cases h1 : i < (n : Int)
    · obtain ⟨j, rfl⟩ : ∃ j : Nat, i = (j : Nat) := ⟨i.toNat, by omega⟩
      have hjn : j < n := by omega
      obtain ⟨b, off, rfl, hcl⟩ := hr 0 (by omega)
      have HC : Hid (∀ W, Below w.heap.size w W → ∀ q, q < n → W.cell? ⟨b, off + q, none⟩ = some (.string (F q))) := Lib.hid (fun W h q hq => (h.cell (p := ⟨b, off + q, none⟩) (cell_lt' (hcl q hq))).trans (hcl q hq))
      have HRES : Hid (proofR F n (j : Nat) = proofF F 0 n j ∧ proofE n (j : Nat) = 0) := Lib.hid ⟨by unfold proofR; rw [if_pos ⟨h0, h1⟩, Int.toNat_natCast], by unfold proofE; rw [if_pos ⟨h0, h1⟩]⟩
      have d1 : decide ((j : Int) < 0) = false := decide_eq_false (by omega)
      have d2 : decide (n ≤ j) = false := decide_eq_false (by omega)
      have d3 : decide ((n : Int) ≤ (j : Int)) = false := decide_eq_false (by omega)
      clear hT hF hr hcl
      go_enter Tryd.func14, Tryd.ntmps14
      go_wp2_with fail
      go_step3
      go_wp2_with fail
      go_step3
      go_wp2_with fail
      go_loopw [0, 1, 6] (fun v0 v1 v6 wr => ∃ (o n' c' j' P : Nat) (T : List ByteArray), v0 = .slice (some ⟨b, P, none⟩) n' c' ∧ v1 = .int .i64 (j' : Nat) ∧ Hid (P = off + o) ∧ 1 ≤ n' ∧ j' < n' ∧ n' ≤ c' ∧ o + n' ≤ n ∧ T.length + n' ≤ n ∧
        wr.ownsRow w.heap.size 9 1 v6 T.length (T.map strV) ∧ Hid (proofF F 0 n j = proofF F o n' j' ++ T.reverse) ∧ Below w.heap.size w wr) (fun v0 _ _ _ => lenV v0)
      case atStart => exact ⟨0, n, c, j, off, [], rfl, rfl, Lib.hid rfl, by omega, hjn, hc, by omega, by simp, World.ownsRow_nil _ _ _ _, Lib.hid (by simp), Below.refl _ _⟩
      case round =>
        obtain ⟨o, n', c', j', P, T, rfl, rfl, hP, hn1, hj', hc', hon, hTn, hown, hpr, hB⟩ := hrel
        by_cases hlt : n' = 1
        · subst hlt
          have hj0 : j' = 0 := by omega
          have HRV := Lib.hid (reverse_any w.heap.size _ T wr (by omega) hown)
          have HPR : Hid (proofF F 0 n j = T.reverse) := Lib.hid (by rw [hpr.out, proof_one F o j' (Nat.le_refl _)]; rfl)
          have HB := Lib.hid hB
          clear hown hpr hB
          go_wp2_with fail
          refine HRV.out.mono ?_
          rintro e w2 ⟨rfl, ⟨pp, cc, rfl, hcc, hrd⟩, hb2⟩
          have HB2 := Lib.hid (HB.out.trans hb2)
          have HRD := Lib.hid hrd
          clear hrd hb2
          go_wp2_with fail
          try rw [Exit.noGoto_ret]
          go_ret2
          exact ⟨by rw [HRES.out.1, HRES.out.2, HPR.out]; exact ⟨pp, T.length, cc, rfl, by simp, HRD.out, hcc⟩, HB2.out⟩
        · have hn2 : 2 ≤ n' := by omega
          have hlf := left_facts hn2
          have HLF := Lib.hid (fun W => left_any n' W hn2 (by omega))
          have HPT := Lib.hid (proof_two F o j' hn2)
          obtain ⟨k, hk⟩ : ∃ k, leftN n' = k := ⟨_, rfl⟩
          rw [hk] at hlf HLF HPT
          have HK := Lib.hid hk
          have v0 : ¬ (n' : Int) = 1 := by omega
          have v1 : (0 : Int) ≤ (k : Int) := by omega
          have v2 : (k : Int) ≤ (n' : Int) := by omega
          have v3 : (k : Int) ≤ (c' : Int) := by omega
          have v4 : (n' : Int) ≤ (c' : Int) := by omega
          have HB := Lib.hid hB
          have HOWN := Lib.hid hown
          clear hk hB hown
          go_wp2_with fail
          refine (HLF.out _).mono ?_
          rintro e w2 ⟨rfl, rfl⟩
          go_wp2_with fail
          go_quiet (fail)
          have HB4 := Lib.hid (Below_dn HB.out nq)
          have HO4 := Lib.hid (show (wr.drewN nq).ownsRow w.heap.size 9 1 _ T.length (T.map strV) from HOWN.out)
          obtain ⟨w4, hw4⟩ : ∃ W : World, wr.drewN nq = W := ⟨_, rfl⟩
          rw [hw4] at HB4 HO4 ⊢
          clear hw4 HB HOWN HLF
          by_cases hik : j' < k
          · have HPL : Hid (proofF F 0 n j = proofF F o k j' ++ (T ++ [rootF F (o + k) (n' - k)]).reverse) := Lib.hid (by rw [hpr.out, HPT.out, if_pos hik, List.reverse_append, List.append_assoc]; rfl)
            have hcmp : ¬ (k : Int) ≤ (j' : Int) := by omega
            have HRT := Lib.hid (fun W (h : Below w.heap.size w W) => root_any (some ⟨b, P + k, none⟩) (n' - k) (c' - k) (fun q => F (o + k + q)) W (by omega) (fun q hq => HF.out _ (by omega)) (fun q _ => ⟨b, P + k, rfl, fun q hq => by
              rw [show P + k + q = off + (o + k + q) by have := hP.out; omega]
              exact HC.out W h (o + k + q) (by omega)⟩) (HT.out.below h))
            have HSH : Hid (rootF (fun q => F (o + k + q)) 0 (n' - k) = rootF F (o + k) (n' - k)) := Lib.hid (root_shift F (o + k) (n' - k))
            rw [HSH.out] at HRT
            obtain ⟨x, hx⟩ : ∃ x, rootF F (o + k) (n' - k) = x := ⟨_, rfl⟩
            rw [hx] at HRT HPL
            clear hx hik
            go_wp2_with fail
            refine (HRT.out w4 HB4.out).mono ?_
            rintro e w5 ⟨rfl, hb5⟩
            have HB5 := Lib.hid (HB4.out.trans (hb5.mono HB4.out.size))
            have h55 := own_below HO4.out hb5
            have hw5 := HB5.out.size
            have hTl : T.length ≤ 1000 := by omega
            clear hb5
            go_wp2_with (at_builtin; refine wpList_append_own _ rfl _ _ 22 rfl w.heap.size 9 i0 (.string ⟨#[]⟩) 1 16 Tryd.underlying22 hi hz0 hz1 hz2 rfl (by decide) _ T.length _ rfl (h55.alloc _) ⟨w5.heap.size, 0, none⟩ 1 1 [.string x] rfl rfl (cell_one_new _ _ _) (by simp [Value.oneCell']) (by unfold maxLen; omega) (by omega) (by simp; omega) ?_; intro v' w6 hown6 hgrow6 _; obtain ⟨g6, cap6, rfl⟩ := ownsRow_succ hown6; have hbb := (HB5.out.alloc hw5 (.cells #[.string x] 9)).grown hgrow6 (by simp; omega) (fun q ej => (h55.lt q ej).1))
            refine ⟨?_, by simp [lenV]; omega⟩
            refine ⟨o, k, c', j', P, T ++ [x], rfl, rfl, hP, by omega, by omega, by omega, by omega, by simp; omega, ?_, HPL, hbb⟩
            rw [List.length_append, List.map_append]
            exact hown6
          · have HPL : Hid (proofF F 0 n j = proofF F (o + k) (n' - k) (j' - k) ++ (T ++ [rootF F o k]).reverse) := Lib.hid (by rw [hpr.out, HPT.out, if_neg hik, List.reverse_append, List.append_assoc]; rfl)
            have hcmp : (k : Int) ≤ (j' : Int) := by omega
            have g1 : IntKind.i64.wrap ((j' : Int) - (k : Int)) = ((j' - k : Nat) : Int) := by rw [IntWalk.i64_in _ (by omega)]; omega
            have HRT := Lib.hid (fun W (h : Below w.heap.size w W) => root_any (some ⟨b, P, none⟩) k c' (fun q => F (o + q)) W (by omega) (fun q hq => HF.out _ (by omega)) (fun q _ => ⟨b, P, rfl, fun q hq => by
              rw [show P + q = off + (o + q) by have := hP.out; omega]
              exact HC.out W h (o + q) (by omega)⟩) (HT.out.below h))
            have HSH : Hid (rootF (fun q => F (o + q)) 0 k = rootF F o k) := Lib.hid (root_shift F o k)
            rw [HSH.out] at HRT
            obtain ⟨x, hx⟩ : ∃ x, rootF F o k = x := ⟨_, rfl⟩
            rw [hx] at HRT HPL
            clear hx hik
            go_wp2_with fail
            refine (HRT.out w4 HB4.out).mono ?_
            rintro e w5 ⟨rfl, hb5⟩
            have HB5 := Lib.hid (HB4.out.trans (hb5.mono HB4.out.size))
            have h55 := own_below HO4.out hb5
            have hw5 := HB5.out.size
            have hTl : T.length ≤ 1000 := by omega
            clear hb5
            go_wp2_with (at_builtin; refine wpList_append_own _ rfl _ _ 22 rfl w.heap.size 9 i0 (.string ⟨#[]⟩) 1 16 Tryd.underlying22 hi hz0 hz1 hz2 rfl (by decide) _ T.length _ rfl (h55.alloc _) ⟨w5.heap.size, 0, none⟩ 1 1 [.string x] rfl rfl (cell_one_new _ _ _) (by simp [Value.oneCell']) (by unfold maxLen; omega) (by omega) (by simp; omega) ?_; intro v' w6 hown6 hgrow6 _; obtain ⟨g6, cap6, rfl⟩ := ownsRow_succ hown6; have hbb := (HB5.out.alloc hw5 (.cells #[.string x] 9)).grown hgrow6 (by simp; omega) (fun q ej => (h55.lt q ej).1))
            refine ⟨?_, by simp [lenV]; omega⟩
            refine ⟨o + k, n' - k, c' - k, j' - k, P + k, T ++ [x], rfl, rfl, Lib.hid (by have := hP.out; omega), by omega, by omega, by omega, by omega, by simp; omega, ?_, HPL, hbb⟩
            rw [List.length_append, List.map_append]
            exact hown6
    · have HRES : Hid (proofR F n i = [] ∧ proofE n i = 2) := Lib.hid ⟨by unfold proofR; rw [if_neg (by omega)], by unfold proofE; rw [if_neg (by omega)]⟩
      have h2 : (n : Int) ≤ i := by omega
      clear hT hF hr
      go_enter Tryd.func14, Tryd.ntmps14
      go_wp2_with fail
      go_step3
      go_wp2_with fail
      try rw [Exit.noGoto_ret]
      go_ret2
      exact ⟨by rw [HRES.out.1, HRES.out.2]; exact ⟨none, 0, 0, rfl, rfl, fun q hq => by omega, Nat.le_refl _⟩, Below.refl _ _⟩
  · have HRES : Hid (proofR F n i = [] ∧ proofE n i = 2) := Lib.hid ⟨by unfold proofR; rw [if_neg (by omega)], by unfold proofE; rw [if_neg (by omega)]⟩
    have h2 : i < 0 := by omega
    clear hT hF hr
    go_enter Tryd.func14, Tryd.ntmps14
    go_wp2_with fail
    go_step3
    go_wp2_with fail
    try rw [Exit.noGoto_ret]
    go_ret2
    exact ⟨by rw [HRES.out.1, HRES.out.2]; exact ⟨none, 0, 0, rfl, rfl, fun q hq => by omega, Nat.le_refl _⟩, Below.refl _ _⟩
end Go.Proofs.YtolhjkbfinlfcaaDoor
