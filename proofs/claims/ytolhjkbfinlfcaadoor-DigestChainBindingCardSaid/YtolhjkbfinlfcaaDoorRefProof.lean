/- The reference of chapter 2: Proof. Conditions: at most 1000 strings that can be read, each of at most 4000 bytes. -/
import Derived.Test.YtolhjkbfinlfcaaDoorRefTree
namespace Go.Proofs.YtolhjkbfinlfcaaDoor
open Go Go.RowKit
theorem proof_congr {F G : Nat → ByteArray} (n : Nat) : ∀ (o o' i : Nat), (∀ q, q < n → F (o + q) = G (o' + q)) → proofF F o n i = proofF G o' n i := by
  induction n using Nat.strongRecOn with
  | ind n ih =>
    intro o o' i h
    by_cases hn : n ≤ 1
    · rw [proof_one F o i hn, proof_one G o' i hn]
    · have hl := left_facts (n := n) (by omega)
      rw [proof_two F o i (by omega), proof_two G o' i (by omega)]
      by_cases hi : i < leftN n
      · rw [if_pos hi, if_pos hi, ih (leftN n) (by omega) o o' i (fun q hq => h q (by omega)), root_congr (F := F) (G := G) (n - leftN n) (o + leftN n) (o' + leftN n) (fun q hq => by rw [Nat.add_assoc, Nat.add_assoc]; exact h _ (by omega))]
      · rw [if_neg hi, if_neg hi, ih (n - leftN n) (by omega) (o + leftN n) (o' + leftN n) _ (fun q hq => by rw [Nat.add_assoc, Nat.add_assoc]; exact h _ (by omega)), root_congr (F := F) (G := G) (leftN n) o o' (fun q hq => h q (by omega))]
theorem proof_shift (F : Nat → ByteArray) (k n i : Nat) : proofF (fun q => F (k + q)) 0 n i = proofF F k n i := proof_congr n 0 k i (fun q _ => by simp)
set_option maxRecDepth 100000 in
set_option maxHeartbeats 1000000 in
theorem ref_proof_in (n : Nat) : ∀ (p : Option Addr) (c : Nat) (F : Nat → ByteArray) (i : Nat) (w : World) (_ : n ≤ 1000) (_ : n ≤ c) (_ : ∀ i, i < n → (F i).size ≤ 4000) (_ : ReadsS w p n F) (_ : i < n),
    Calls Tryd.prog 15 #[.slice p n c, .int .i64 (i : Nat)] w fun e w' => (∃ v, e = .returned (.tuple #[v, .int .i64 0]) ∧ w'.ownsRow w.heap.size 9 1 v (proofF F 0 n i).length ((proofF F 0 n i).map strV)) ∧ Below w.heap.size w w' := by
  induction n using Nat.strongRecOn with
  | ind n ih =>
    intro p c F i w hn hc hF hr hin
    obtain ⟨i0, hi, hz0, hz1, hz2⟩ := infoStr
    have d1 : decide ((i : Int) < 0) = false := decide_eq_false (by omega)
    have d2 : decide (n ≤ i) = false := decide_eq_false (by omega)
    have d3 : decide ((n : Int) ≤ (i : Int)) = false := decide_eq_false (by omega)
    have d4 : ¬ (i : Int) < 0 := by omega
    have d5 : ¬ (n : Int) ≤ (i : Int) := by omega
    by_cases h1 : n = 1
    · subst h1
      have HX : Hid (proofF F 0 1 i = []) := Lib.hid (proof_one F 0 i (Nat.le_refl _))
      clear ih hF hr
      go_enter Tryd.func15, Tryd.ntmps15
      go_wp2_with fail
      go_ret2
      exact ⟨⟨_, rfl, by rw [HX.out]; exact World.ownsRow_nil _ _ _ _⟩, Below.refl _ _⟩
    · have hlf := left_facts (n := n) (by omega)
      have hL := Lib.hid (fun W => ref_left_any n W (by omega) (by omega))
      have hproof := proof_two F 0 i (n := n) (by omega)
      obtain ⟨k, hk⟩ : ∃ k, leftN n = k := ⟨_, rfl⟩
      rw [hk] at hlf hL hproof
      rw [Nat.zero_add] at hproof
      obtain ⟨b, o, rfl, hr2⟩ := hr.slice (show k < n by omega)
      have n1 : ¬ (n : Int) = 1 := by omega
      have k0 : (k : Int) ≤ (n : Int) := by omega
      have k1 : (k : Int) ≤ (c : Int) := by omega
      have hck : ¬ c = k := by omega
      by_cases hik : i < k
      · rw [if_pos hik] at hproof
        have c1 : (i : Int) < (k : Int) := by omega
        have HA := Lib.hid (ih k (by omega) (some ⟨b, o, none⟩) c F i w (by omega) (by omega) (fun i hi => hF i (by omega)) (hr.less (by omega)) hik)
        have HB := Lib.hid (fun W (h : Below w.heap.size w W) => ref_root_any (n - k) (some ⟨b, o + k, none⟩) (c - k) (fun i => F (k + i)) W (by omega) (by omega) (fun i hi => hF _ (by omega)) (hr2.below h))
        obtain ⟨L, hL1⟩ : ∃ L, proofF F 0 k i = L := ⟨_, rfl⟩
        have hLL : L.length ≤ 1000 := by rw [← hL1]; have := proof_length F k 0 i; omega
        obtain ⟨x, hx⟩ : ∃ x, rootF F k (n - k) = x := ⟨_, rfl⟩
        simp only [root_shift, hx] at HB
        rw [hL1] at HA
        rw [hL1, hx] at hproof
        have HP := Lib.hid hproof
        clear ih hF hr hr2 hproof hk hL1 hx hlf
        go_enter Tryd.func15, Tryd.ntmps15
        go_wp2_with fail
        refine (hL.out _).mono ?_
        rintro e w' ⟨rfl, rfl⟩
        go_wp2_with fail
        refine HA.out.mono ?_
        rintro e w2 ⟨⟨v, rfl, hown⟩, hb2⟩
        have HB2 := Lib.hid hb2
        have HOWN := Lib.hid hown
        clear hb2 hown HA
        go_wp2_with fail
        refine (HB.out w2 HB2.out).mono ?_
        rintro e w3 ⟨rfl, hb3⟩
        have h33 := own_below HOWN.out hb3
        have HB3 := Lib.hid (HB2.out.trans (hb3.mono HB2.out.size))
        have hw3 := HB3.out.size
        clear hb3 HB2 HOWN HB
        go_wp2_with (at_builtin; refine wpList_append_own _ rfl _ _ 22 rfl w.heap.size 9 i0 (.string ⟨#[]⟩) 1 16 Tryd.underlying22 hi hz0 hz1 hz2 rfl (by decide) _ L.length _ rfl (h33.alloc _) ⟨w3.heap.size, 0, none⟩ 1 1 [.string x] rfl rfl (cell_one_new _ _ _) (by simp [Value.oneCell']) (by unfold maxLen; omega) (by omega) (by simp; omega) ?_; intro v' w6 hown6 hgrow6 _; obtain ⟨g6, cap6, rfl⟩ := ownsRow_succ hown6; have hbb := (HB3.out.alloc hw3 (.cells #[.string x] 9)).grown hgrow6 (by simp; omega) (fun q ej => (h33.lt q ej).1))
        go_ret2
        refine ⟨⟨_, rfl, ?_⟩, hbb⟩
        rw [HP.out, List.length_append, List.map_append]
        exact hown6
      · rw [if_neg hik] at hproof
        have c1 : (k : Int) ≤ (i : Int) := by omega
        have c2 : ¬ (i : Int) < (k : Int) := by omega
        have g1 : IntKind.i64.wrap ((i : Int) - (k : Int)) = ((i - k : Nat) : Int) := by rw [IntWalk.i64_in _ (by omega)]; omega
        have HA := Lib.hid (ih (n - k) (by omega) (some ⟨b, o + k, none⟩) (c - k) (fun i => F (k + i)) (i - k) w (by omega) (by omega) (fun i hi => hF _ (by omega)) hr2 (by omega))
        have HB := Lib.hid (fun W (h : Below w.heap.size w W) => ref_root_any k (some ⟨b, o, none⟩) c F W (by omega) (by omega) (fun i hi => hF i (by omega)) ((hr.less (show k ≤ n by omega)).below h))
        rw [proof_shift] at HA
        obtain ⟨L, hL1⟩ : ∃ L, proofF F k (n - k) (i - k) = L := ⟨_, rfl⟩
        have hLL : L.length ≤ 1000 := by rw [← hL1]; have := proof_length F (n - k) k (i - k); omega
        obtain ⟨x, hx⟩ : ∃ x, rootF F 0 k = x := ⟨_, rfl⟩
        simp only [hx] at HB
        rw [hL1] at HA
        rw [hL1, hx] at hproof
        have HP := Lib.hid hproof
        clear ih hF hr hr2 hproof hk hL1 hx hlf
        go_enter Tryd.func15, Tryd.ntmps15
        go_wp2_with fail
        refine (hL.out _).mono ?_
        rintro e w' ⟨rfl, rfl⟩
        go_wp2_with fail
        refine HA.out.mono ?_
        rintro e w2 ⟨⟨v, rfl, hown⟩, hb2⟩
        have HB2 := Lib.hid hb2
        have HOWN := Lib.hid hown
        clear hb2 hown HA
        go_wp2_with fail
        refine (HB.out w2 HB2.out).mono ?_
        rintro e w3 ⟨rfl, hb3⟩
        have h33 := own_below HOWN.out hb3
        have HB3 := Lib.hid (HB2.out.trans (hb3.mono HB2.out.size))
        have hw3 := HB3.out.size
        clear hb3 HB2 HOWN HB
        go_wp2_with (at_builtin; refine wpList_append_own _ rfl _ _ 22 rfl w.heap.size 9 i0 (.string ⟨#[]⟩) 1 16 Tryd.underlying22 hi hz0 hz1 hz2 rfl (by decide) _ L.length _ rfl (h33.alloc _) ⟨w3.heap.size, 0, none⟩ 1 1 [.string x] rfl rfl (cell_one_new _ _ _) (by simp [Value.oneCell']) (by unfold maxLen; omega) (by omega) (by simp; omega) ?_; intro v' w6 hown6 hgrow6 _; obtain ⟨g6, cap6, rfl⟩ := ownsRow_succ hown6; have hbb := (HB3.out.alloc hw3 (.cells #[.string x] 9)).grown hgrow6 (by simp; omega) (fun q ej => (h33.lt q ej).1))
        go_ret2
        refine ⟨⟨_, rfl, ?_⟩, hbb⟩
        rw [HP.out, List.length_append, List.map_append]
        exact hown6
theorem ref_proof_any (p : Option Addr) (n c : Nat) (F : Nat → ByteArray) (i : Int) (w : World) (hn : n ≤ 1000) (hc : n ≤ c) (hF : ∀ i, i < n → (F i).size ≤ 4000) (hr : ReadsS w p n F) :
    Calls Tryd.prog 15 #[.slice p n c, .int .i64 i] w fun e w' => RetStrs (proofR F n i) (proofE n i) e w' ∧ Below w.heap.size w w' := by
  by_cases h0 : 0 ≤ i ∧ i < (n : Int)
  · obtain ⟨j, rfl⟩ : ∃ j : Nat, i = (j : Nat) := ⟨i.toNat, by omega⟩
    refine (ref_proof_in n p c F j w hn hc hF hr (by omega)).mono ?_
    rintro e w' ⟨⟨v, rfl, hown⟩, hb⟩
    obtain ⟨q, cq, rfl, hcq, hrd⟩ := own_readsS hown
    have e1 : proofR F n (j : Nat) = proofF F 0 n j := by unfold proofR; rw [if_pos h0, Int.toNat_natCast]
    have e2 : proofE n (j : Nat) = 0 := by unfold proofE; rw [if_pos h0]
    rw [e1, e2]
    exact ⟨⟨q, _, cq, rfl, rfl, hrd, hcq⟩, hb⟩
  · have HX : Hid (proofR F n i = [] ∧ proofE n i = 2) := Lib.hid ⟨by unfold proofR; rw [if_neg h0], by unfold proofE; rw [if_neg h0]⟩
    clear hr hF
    by_cases h1 : i < 0
    · go_enter Tryd.func15, Tryd.ntmps15
      go_wp2_with fail
      go_ret2
      exact ⟨by rw [HX.out.1, HX.out.2]; exact ⟨none, 0, 0, rfl, rfl, fun i hi => by omega, Nat.le_refl _⟩, Below.refl _ _⟩
    · have h2 : (n : Int) ≤ i := by omega
      go_enter Tryd.func15, Tryd.ntmps15
      go_wp2_with fail
      go_ret2
      exact ⟨by rw [HX.out.1, HX.out.2]; exact ⟨none, 0, 0, rfl, rfl, fun i hi => by omega, Nat.le_refl _⟩, Below.refl _ _⟩
end Go.Proofs.YtolhjkbfinlfcaaDoor
