/- The reference of chapter 2: Root. Conditions: at most 1000 strings that can be read, each of at most 4000 bytes. -/
import Derived.Test.YtolhjkbfinlfcaaDoorDigVerExt
namespace Go.Proofs.YtolhjkbfinlfcaaDoor
open Go Go.RowKit
theorem ReadsS.slice {W : World} {p : Option Addr} {n k : Nat} {F : Nat → ByteArray} (h : ReadsS W p n F) (hk : k < n) : ∃ b off, p = some ⟨b, off, none⟩ ∧ ReadsS W (some ⟨b, off + k, none⟩) (n - k) (fun i => F (k + i)) := by
  obtain ⟨b, off, hp, hc⟩ := h 0 (by omega)
  exact ⟨b, off, hp, fun i _ => ⟨b, off + k, rfl, fun j hj => by rw [Nat.add_assoc]; exact hc (k + j) (by omega)⟩⟩
set_option maxRecDepth 100000 in
set_option maxHeartbeats 400000 in
theorem ref_root_any (n : Nat) : ∀ (p : Option Addr) (c : Nat) (F : Nat → ByteArray) (w : World) (_ : n ≤ 1000) (_ : n ≤ c) (_ : ∀ i, i < n → (F i).size ≤ 4000) (_ : ReadsS w p n F),
    Calls Tryd.prog 20 #[.slice p n c] w fun e w' => e = .returned (.string (rootF F 0 n)) ∧ Below w.heap.size w w' := by
  induction n using Nat.strongRecOn with
  | ind n ih =>
    intro p c F w hn hc hF hr
    by_cases h0 : n = 0
    · subst h0
      have HS := Lib.hid (ref_sum_s ⟨#[]⟩ w (by decide))
      go_enter Tryd.func20, Tryd.ntmps20
      go_wp2_with fail
      refine HS.out.mono ?_
      rintro e w2 ⟨rfl, hb⟩
      go_wp2_with fail
      go_ret
      exact ⟨rfl, hb⟩
    · by_cases h1 : n = 1
      · subst h1
        obtain ⟨b, o, rfl, hcell⟩ := hr 0 (by omega)
        have e0 := hcell 0 (by omega)
        rw [Nat.add_zero] at e0
        have HS := Lib.hid (ref_leaf_any (F 0) w (hF 0 (by omega)))
        obtain ⟨x, hx⟩ : ∃ x, F 0 = x := ⟨_, rfl⟩
        have HX : Hid (rootF F 0 1 = leafS x) := Lib.hid (by rw [root_one, hx])
        rw [hx] at e0 HS
        clear hx hcell ih hF hr
        go_enter Tryd.func20, Tryd.ntmps20
        go_wp2_with fail
        refine HS.out.mono ?_
        rintro e w2 ⟨rfl, hb⟩
        go_wp2_with fail
        go_ret
        exact ⟨by rw [HX.out]; rfl, hb⟩
      · have hlf := left_facts (n := n) (by omega)
        have hL := Lib.hid (fun W => ref_left_any n W (by omega) (by omega))
        have hroot := root_two F 0 (n := n) (by omega)
        obtain ⟨k, hk⟩ : ∃ k, leftN n = k := ⟨_, rfl⟩
        rw [hk] at hlf hL hroot
        rw [Nat.zero_add] at hroot
        have HA := Lib.hid (ih k (by omega))
        have HB := Lib.hid (ih (n - k) (by omega))
        have HF := Lib.hid hF
        obtain ⟨b, o, rfl, hr2⟩ := hr.slice (show k < n by omega)
        have HR1 := Lib.hid (hr.less (show k ≤ n by omega))
        have HR2 := Lib.hid hr2
        have HROOT := Lib.hid hroot
        have n0 : ¬ (n : Int) = 0 := by omega
        have n1 : ¬ (n : Int) = 1 := by omega
        have k0 : (k : Int) ≤ (n : Int) := by omega
        have k1 : (k : Int) ≤ (c : Int) := by omega
        clear ih hF hr hr2 hroot hk
        have HL1 : Hid (∀ W, Below w.heap.size w W → Calls Tryd.prog 20 #[.slice (some ⟨b, o, none⟩) k c] W fun e w' => e = .returned (.string (rootF F 0 k)) ∧ Below w.heap.size w w') := Lib.hid (fun W h => (HA.out (some ⟨b, o, none⟩) c F W (by omega) (by omega) (fun i hi => HF.out i (by omega)) (HR1.out.below h)).mono (fun e w' ⟨h1, h2⟩ => ⟨h1, h.trans (h2.mono h.size)⟩))
        have HL2 : Hid (∀ W, Below w.heap.size w W → Calls Tryd.prog 20 #[.slice (some ⟨b, o + k, none⟩) (n - k) (c - k)] W fun e w' => e = .returned (.string (rootF F k (n - k))) ∧ Below w.heap.size w w') := Lib.hid (fun W h => (HB.out (some ⟨b, o + k, none⟩) (c - k) (fun i => F (k + i)) W (by omega) (by omega) (fun i hi => HF.out _ (by omega)) (HR2.out.below h)).mono (fun e w' ⟨h1, h2⟩ => ⟨by rw [h1]; congr 2; exact root_shift .., h.trans (h2.mono h.size)⟩))
        have HN : Hid (∀ W, Below w.heap.size w W → Calls Tryd.prog 35 #[.string (rootF F 0 k), .string (rootF F k (n - k))] W fun e w' => e = .returned (.string (nodeS (rootF F 0 k) (rootF F k (n - k)))) ∧ Below w.heap.size w w') := Lib.hid (fun W h => (ref_node_any (rootF F 0 k) (rootF F k (n - k)) W (by rw [root_size]; decide) (by rw [root_size]; decide)).mono (fun e w' ⟨h1, h2⟩ => ⟨h1, h.trans (h2.mono h.size)⟩))
        rw [HROOT.out]
        obtain ⟨x1, hx1⟩ : ∃ x, rootF F 0 k = x := ⟨_, rfl⟩
        obtain ⟨x2, hx2⟩ : ∃ x, rootF F k (n - k) = x := ⟨_, rfl⟩
        rw [hx1] at HL1
        rw [hx2] at HL2
        rw [hx1, hx2] at HN ⊢
        obtain ⟨x3, hx3⟩ : ∃ x, nodeS x1 x2 = x := ⟨_, rfl⟩
        rw [hx3] at HN ⊢
        clear hx1 hx2 hx3 HROOT HA HB HR1 HR2 HF
        go_enter Tryd.func20, Tryd.ntmps20
        go_wp2_with fail
        refine (hL.out _).mono ?_
        rintro e w' ⟨rfl, rfl⟩
        have HB0 := Below.refl w.heap.size w
        go_wp2_with fail
        have HB1 := HB0.drew
        have hck : ¬ c = k := by omega
        go_region_law (first
          | (refine step_call (by rfl) 35 #[.string x1, .string x2] ?_ (HN.out _ (by assumption)) ?_; (focus (go_simp; done)); intro w4 hb4)
          | (refine step_call (by rfl) 20 #[.slice (some ⟨b, o, none⟩) k c] ?_ (HL1.out _ (by assumption)) ?_; (focus (go_simp; done)); intro w2 hb2)
          | (refine step_call (by rfl) 20 #[.slice (some ⟨b, o + k, none⟩) (n - k) (c - k)] ?_ (HL2.out _ (by assumption)) ?_; (focus (go_simp; done)); intro w3 hb3))
        all_goals go_wp2_with fail
        all_goals go_ret
        all_goals exact ⟨rfl, by assumption⟩
end Go.Proofs.YtolhjkbfinlfcaaDoor
