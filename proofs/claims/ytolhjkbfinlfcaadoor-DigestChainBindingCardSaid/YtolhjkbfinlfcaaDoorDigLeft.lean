/- Package digest: left, isDigest, all, take; the reference's Left, Digests; the law's left. Conditions: numbers of 64 bits; lists that can be read. -/
import Derived.Test.YtolhjkbfinlfcaaDoorDigSpec
import Derived.Lib.ItoaNum
import Derived.Lib.BitFns
namespace Go.Proofs.YtolhjkbfinlfcaaDoor
open Go Go.RowKit
theorem bitLen_left {n : Nat} (h1 : 2 ≤ n) (h2 : n ≤ 9223372036854775807) : 1 ≤ Lib.bitLen (n - 1) ∧ Lib.bitLen (n - 1) ≤ 63 ∧ 2 ^ (Lib.bitLen (n - 1) - 1) = leftN n := by
  have hb := Lib.bitLenAux_bounds 64 (n - 1) (by omega) (by omega)
  have hl : Lib.bitLen (n - 1) ≤ 63 := Lib.bitLen_le _ _ (by decide) (by omega)
  have hd : Lib.bitLen (n - 1) = Lib.bitLenAux 64 (n - 1) := rfl
  rw [← hd] at hb
  obtain ⟨b1, b2, b3⟩ := hb
  refine ⟨b1, hl, ?_⟩
  obtain ⟨j, hj⟩ : ∃ j, Lib.bitLen (n - 1) = j + 1 := ⟨Lib.bitLen (n - 1) - 1, by omega⟩
  rw [hj] at b2 b3 ⊢
  rw [Nat.add_sub_cancel] at b2 ⊢
  rw [Nat.pow_succ] at b3
  exact (left_unique (by omega) (by omega)).symm
set_option maxRecDepth 100000 in
theorem left_any (n : Nat) (w : World) (h1 : 2 ≤ n) (h2 : n ≤ 9223372036854775807) :
    Calls Tryd.prog 40 #[.int .i64 (n : Int)] w fun e w' => e = .returned (.int .i64 (leftN n : Nat)) ∧ w = w' := by
  obtain ⟨b1, b2, b3⟩ := bitLen_left h1 h2
  have g1 : IntKind.i64.wrap ((n : Int) - 1) = ((n - 1 : Nat) : Int) := by rw [IntWalk.i64_in _ (by omega)]; omega
  have g2 : IntKind.u64.wrap ((n - 1 : Nat) : Int) = ((n - 1 : Nat) : Int) := by rw [IntKind.wrap_u64]; omega
  have HC := Lib.hid (Tryd.bits_Len ((n - 1 : Nat) : Int) w (by omega) (by omega))
  rw [Int.toNat_natCast] at HC
  obtain ⟨L, hL⟩ : ∃ L, Lib.bitLen (n - 1) = L := ⟨_, rfl⟩
  rw [hL] at HC b1 b2 b3
  obtain ⟨m, hm⟩ : ∃ m : Nat, n - 1 = m := ⟨_, rfl⟩
  rw [hm] at g1 g2 HC
  obtain ⟨q, hq⟩ : ∃ q : Nat, L - 1 = q := ⟨_, rfl⟩
  rw [hq] at b3
  have g3 : IntKind.i64.wrap ((L : Int) - 1) = (q : Int) := by rw [IntWalk.i64_in _ (by omega)]; omega
  have q1 : (0 : Int) ≤ (q : Int) := by omega
  have hmin : min q 64 = q := Nat.min_eq_left (by omega)
  have hl := left_facts h1
  have g4 : IntKind.i64.wrap ((2 : Int) ^ q) = ((leftN n : Nat) : Int) := by
    rw [← b3, Int.natCast_pow]
    refine IntWalk.i64_in _ ?_
    have h3 : ((2 ^ q : Nat) : Int) = (2 : Int) ^ q := Int.natCast_pow 2 q
    show _ ∧ ((2 : Nat) : Int) ^ q ≤ _
    rw [show (((2 : Nat) : Int)) = 2 from rfl, ← h3, b3]
    omega
  have HB := Lib.hid b3
  clear b3 hL hl
  go_enter Tryd.func40, Tryd.ntmps40
  go_wp2_with fail
  refine HC.out.mono ?_
  rintro e w' ⟨rfl, rfl⟩
  go_wp2_with fail
  go_ret
  exact ⟨rfl, rfl⟩
set_option maxHeartbeats 1000000 in
theorem ref_left_any (n : Nat) (w : World) (h1 : 2 ≤ n) (h2 : n ≤ 9223372036854775807) :
    Calls Tryd.prog 42 #[.int .i64 (n : Int)] w fun e w' => e = .returned (.int .i64 (leftN n : Nat)) ∧ w = w' := by
  go_enter Tryd.func42, Tryd.ntmps42
  go_wp2_with fail
  go_loopw [3] (fun v wr => ∃ k : Nat, v = .int .i64 (k : Nat) ∧ k < n ∧ 1 ≤ k ∧ Hid (∃ j, k = 2 ^ j) ∧ w = wr) (fun v _ => n - (intOf v).toNat)
  case atStart => exact ⟨1, rfl, by omega, by omega, Lib.hid ⟨0, rfl⟩, rfl⟩
  case round =>
    obtain ⟨k, rfl, hk, hk1, hj, rfl⟩ := hrel
    have g1 : IntKind.i64.wrap ((n : Int) - (k : Int)) = (n : Int) - (k : Int) := IntWalk.i64_in _ (by omega)
    by_cases hlt : (k : Int) < (n : Int) - (k : Int)
    · have g2 : IntKind.i64.wrap (2 * (k : Int)) = ((2 * k : Nat) : Int) := by rw [IntWalk.i64_in _ (by omega)]; omega
      go_wp2_with fail
      refine ⟨⟨2 * k, by go_num, by omega, by omega, Lib.hid ?_, trivial⟩, by simp [intOf]; omega⟩
      obtain ⟨j, rfl⟩ := hj.out
      exact ⟨j + 1, by rw [Nat.pow_succ]; omega⟩
    · have HL : Hid (leftN n = k) := Lib.hid (by
        obtain ⟨j, rfl⟩ := hj.out
        exact left_unique hk (by omega))
      go_wp2_with fail
      go_ret
      exact ⟨by rw [HL.out]; rfl, rfl⟩
set_option maxHeartbeats 1000000 in
theorem law_left_any (n : Nat) (w : World) (h1 : 2 ≤ n) (h2 : n ≤ 9223372036854775807) :
    Calls Tryd.prog 31 #[.int .i64 (n : Int)] w fun e w' => e = .returned (.int .i64 (leftN n : Nat)) ∧ w = w' := by
  go_enter Tryd.func31, Tryd.ntmps31
  go_wp2_with fail
  go_loopw [3] (fun v wr => ∃ k : Nat, v = .int .i64 (k : Nat) ∧ k < n ∧ 1 ≤ k ∧ Hid (∃ j, k = 2 ^ j) ∧ w = wr) (fun v _ => n - (intOf v).toNat)
  case atStart => exact ⟨1, rfl, by omega, by omega, Lib.hid ⟨0, rfl⟩, rfl⟩
  case round =>
    obtain ⟨k, rfl, hk, hk1, hj, rfl⟩ := hrel
    have g1 : IntKind.i64.wrap ((n : Int) - (k : Int)) = (n : Int) - (k : Int) := IntWalk.i64_in _ (by omega)
    by_cases hlt : (k : Int) < (n : Int) - (k : Int)
    · have g2 : IntKind.i64.wrap (2 * (k : Int)) = ((2 * k : Nat) : Int) := by rw [IntWalk.i64_in _ (by omega)]; omega
      go_wp2_with fail
      refine ⟨⟨2 * k, by go_num, by omega, by omega, Lib.hid ?_, trivial⟩, by simp [intOf]; omega⟩
      obtain ⟨j, rfl⟩ := hj.out
      exact ⟨j + 1, by rw [Nat.pow_succ]; omega⟩
    · have HL : Hid (leftN n = k) := Lib.hid (by
        obtain ⟨j, rfl⟩ := hj.out
        exact left_unique hk (by omega))
      go_wp2_with fail
      go_ret
      exact ⟨by rw [HL.out]; rfl, rfl⟩
/-- Strings that can be read. -/
def ReadsS (W : World) (p : Option Addr) (n : Nat) (F : Nat → ByteArray) : Prop :=
  ∀ i, i < n → ∃ b off, p = some ⟨b, off, none⟩ ∧ ∀ j, j < n → W.cell? ⟨b, off + j, none⟩ = some (.string (F j))
theorem ReadsS.below {W W' : World} {p : Option Addr} {n : Nat} {F : Nat → ByteArray} (h : ReadsS W p n F) (hb : Below W.heap.size W W') : ReadsS W' p n F := fun i hi => by
  obtain ⟨b, off, hp, hc⟩ := h i hi
  exact ⟨b, off, hp, fun j hj => (hb.cell (p := ⟨b, off + j, none⟩) (cell_lt' (hc j hj))).trans (hc j hj)⟩
theorem ReadsS.less {W : World} {p : Option Addr} {n m : Nat} {F : Nat → ByteArray} (h : ReadsS W p n F) (hm : m ≤ n) : ReadsS W p m F := fun i hi => by
  obtain ⟨b, off, hp, hc⟩ := h i (by omega)
  exact ⟨b, off, hp, fun j hj => hc j (by omega)⟩
theorem ReadsS.congr {W : World} {p : Option Addr} {n : Nat} {F G : Nat → ByteArray} (h : ReadsS W p n F) (e : ∀ i, i < n → F i = G i) : ReadsS W p n G := fun i hi => by
  obtain ⟨b, off, hp, hc⟩ := h i hi
  exact ⟨b, off, hp, fun j hj => by rw [hc j hj, e j hj]⟩
theorem reads_none (W : World) (F : Nat → ByteArray) : ReadsS W none 0 F := fun i hi => by omega
theorem isDigest_any (s : ByteArray) (w : World) : Calls Tryd.prog 51 #[.string s] w fun e w' => e = .returned (.bool (decide (s.size = 32))) ∧ w = w' := by
  have hd : decide ((s.size : Int) = 32) = decide (s.size = 32) := decide_eq_decide.2 (by omega)
  have HD := Lib.hid hd
  clear hd
  go_enter Tryd.func51, Tryd.ntmps51
  go_wp2
  go_ret
  exact ⟨by rw [← HD.out]; rfl, rfl⟩
theorem all1_any (s : ByteArray) (w : World) : Calls Tryd.prog 61 #[.string s] w fun e w' => e = .returned (.bool (!decide (s.size = 32))) ∧ w = w' := by
  go_enter Tryd.func61, Tryd.ntmps61
  go_wp2_with fail
  refine (isDigest_any s w).mono ?_
  rintro e w' ⟨rfl, rfl⟩
  go_wp2_with fail
  go_ret
  exact ⟨rfl, rfl⟩
set_option maxHeartbeats 1000000 in
theorem index_any (p : Option Addr) (n c : Nat) (F : Nat → ByteArray) (w : World) (hn : n ≤ 1000000) (hr : ReadsS w p n F) :
    Calls Tryd.prog 73 #[.slice p n c, .func (.func 61) #[] #[]] w fun e w' => (∃ z : Int, e = .returned (.int .i64 z) ∧ (0 ≤ z ↔ ¬ ∀ i, i < n → (F i).size = 32)) ∧ w = w' := by
  have HR := Lib.hid hr
  clear hr
  go_enter Tryd.func73, Tryd.ntmps73
  go_wp2_with fail
  go_loopw [8] (fun v wr => ∃ k : Nat, k ≤ n ∧ v = .int .i64 (k : Nat) ∧ Hid (∀ i, i < k → (F i).size = 32) ∧ w = wr) (fun v _ => n - (intOf v).toNat)
  case atStart => exact ⟨0, by omega, rfl, Lib.hid (fun i h => by omega), rfl⟩
  case round =>
    obtain ⟨k, hk, rfl, hall, rfl⟩ := hrel
    by_cases hlt : k < n
    · obtain ⟨b, o, rfl, hc⟩ := HR.out k hlt
      have c1 := hc k hlt
      have v0 : (0 : Int) ≤ (k : Int) := by omega
      have v1 : (k : Int) < (n : Int) := by omega
      have HA := Lib.hid (all1_any (F k) w)
      obtain ⟨x, hx⟩ : ∃ x, F k = x := ⟨_, rfl⟩
      rw [hx] at c1 HA
      have HX := Lib.hid hx
      clear hc hx
      by_cases e : x.size = 32
      · rw [decide_eq_true e] at HA
        have HE := Lib.hid e
        clear e
        go_wp2_with fail
        refine HA.out.mono ?_
        rintro e w' ⟨rfl, rfl⟩
        go_wp2_with fail
        exact ⟨⟨k + 1, by omega, by go_num, Lib.hid (fun i hi => by
          by_cases e : i = k
          · rw [e, HX.out, HE.out]
          · exact hall.out i (by omega)), trivial⟩, by simp [intOf]; omega⟩
      · rw [decide_eq_false e] at HA
        have HE := Lib.hid e
        clear e
        go_wp2_with fail
        refine HA.out.mono ?_
        rintro e w' ⟨rfl, rfl⟩
        go_wp2_with fail
        go_ret
        exact ⟨⟨_, rfl, fun _ h => HE.out (by rw [← HX.out]; exact h k hlt), fun _ => v0⟩, rfl⟩
    · obtain rfl : n = k := by omega
      go_wp2_with fail
      go_ret
      exact ⟨⟨_, rfl, fun h => absurd h (by decide), fun h => absurd hall.out h⟩, rfl⟩
theorem contains_any (p : Option Addr) (n c : Nat) (F : Nat → ByteArray) (w : World) (hn : n ≤ 1000000) (hr : ReadsS w p n F) :
    Calls Tryd.prog 62 #[.slice p n c, .func (.func 61) #[] #[]] w fun e w' => (∃ b : Bool, e = .returned (.bool b) ∧ (b = true ↔ ¬ ∀ i, i < n → (F i).size = 32)) ∧ w = w' := by
  have HI := Lib.hid (index_any p n c F w hn hr)
  clear hr
  go_enter Tryd.func62, Tryd.ntmps62
  go_wp2_with fail
  refine HI.out.mono ?_
  rintro e w' ⟨⟨z, rfl, hz⟩, rfl⟩
  have HZ := Lib.hid hz
  clear hz
  go_wp2_with fail
  go_ret
  exact ⟨⟨decide (0 ≤ z), rfl, by rw [decide_eq_true_iff]; exact HZ.out⟩, rfl⟩
/-- Whether all are digests. -/
def Digs (n : Nat) (F : Nat → ByteArray) : Prop := ∀ i, i < n → (F i).size = 32
instance (n : Nat) (F : Nat → ByteArray) : Decidable (Digs n F) := by unfold Digs; infer_instance
theorem all_any (p : Option Addr) (n c : Nat) (F : Nat → ByteArray) (w : World) (hn : n ≤ 1000000) (hr : ReadsS w p n F) :
    Calls Tryd.prog 45 #[.slice p n c] w fun e w' => e = .returned (.bool (decide (Digs n F))) ∧ w = w' := by
  have HI := Lib.hid (contains_any p n c F w hn hr)
  clear hr
  go_enter Tryd.func45, Tryd.ntmps45
  go_wp2_with fail
  refine HI.out.mono ?_
  rintro e w' ⟨⟨b, rfl, hb⟩, rfl⟩
  have HB : Hid ((!b) = decide (Digs n F)) := Lib.hid (by
    cases b with
    | true => exact (decide_eq_false (hb.1 rfl)).symm
    | false => exact (decide_eq_true (Classical.byContradiction fun h => by have := hb.2 h; cases this)).symm)
  clear hb
  go_wp2_with fail
  go_ret
  exact ⟨by rw [← HB.out]; rfl, rfl⟩
set_option maxHeartbeats 1000000 in
theorem ref_digests_any (p : Option Addr) (n c : Nat) (F : Nat → ByteArray) (w : World) (hn : n ≤ 1000000) (hr : ReadsS w p n F) :
    Calls Tryd.prog 49 #[.slice p n c] w fun e w' => e = .returned (.bool (decide (Digs n F))) ∧ w = w' := by
  have HR := Lib.hid hr
  clear hr
  go_enter Tryd.func49, Tryd.ntmps49
  go_wp2_with fail
  go_loopw [3] (fun v wr => ∃ k : Nat, k ≤ n ∧ v = .int .i64 (k : Nat) ∧ Hid (∀ i, i < k → (F i).size = 32) ∧ w = wr) (fun v _ => n - (intOf v).toNat)
  case atStart => exact ⟨0, by omega, rfl, Lib.hid (fun i h => by omega), rfl⟩
  case round =>
    obtain ⟨k, hk, rfl, hall, rfl⟩ := hrel
    by_cases hlt : k < n
    · obtain ⟨b, o, rfl, hc⟩ := HR.out k hlt
      have c1 := hc k hlt
      have v0 : (0 : Int) ≤ (k : Int) := by omega
      have v1 : (k : Int) < (n : Int) := by omega
      obtain ⟨x, hx⟩ : ∃ x, F k = x := ⟨_, rfl⟩
      rw [hx] at c1
      have HX := Lib.hid hx
      clear hc hx
      by_cases e : (x.size : Int) = 32
      · go_wp2_with fail
        exact ⟨⟨k + 1, by omega, by go_num, Lib.hid (fun i hi => by
          by_cases e2 : i = k
          · rw [e2, HX.out]; omega
          · exact hall.out i (by omega)), trivial⟩, by simp [intOf]; omega⟩
      · have HD : Hid (decide (Digs n F) = false) := Lib.hid (decide_eq_false (fun h => e (by have := h k hlt; rw [HX.out] at this; omega)))
        go_wp2_with fail
        go_ret
        exact ⟨by rw [HD.out]; rfl, rfl⟩
    · obtain rfl : n = k := by omega
      have HD : Hid (decide (Digs n F) = true) := Lib.hid (decide_eq_true hall.out)
      go_wp2_with fail
      go_ret
      exact ⟨by rw [HD.out]; rfl, rfl⟩
set_option maxHeartbeats 1000000 in
theorem take_any (p : Option Addr) (n c : Nat) (F : Nat → ByteArray) (w : World) (hn : n ≤ 1000000) (hc : n ≤ c) (hr : ReadsS w p n F) :
    Calls Tryd.prog 46 #[.slice p n c] w fun e w' => (n = 0 ∧ e = .returned (.tuple #[.string ⟨#[]⟩, .slice none 0 0, .bool false]) ∨ ∃ k, n = k + 1 ∧ e = .returned (.tuple #[.string (F k), .slice p k c, .bool true])) ∧ Below w.heap.size w w' := by
  cases n with
  | zero =>
    clear hr
    go_enter Tryd.func46, Tryd.ntmps46
    go_wp2_with fail
    go_ret3
    exact ⟨.inl ⟨by first | rfl | trivial, rfl⟩, Below.refl _ _⟩
  | succ k =>
    obtain ⟨b, o, rfl, hcl⟩ := hr k (by omega)
    have c1 := hcl k (by omega)
    have g1 : IntKind.i64.wrap (((k + 1 : Nat) : Int) - 1) = (k : Int) := by rw [IntWalk.i64_in _ (by omega)]; omega
    obtain ⟨m, hm⟩ : ∃ m, k + 1 = m := ⟨_, rfl⟩
    rw [hm] at g1 hc ⊢
    have v0 : (0 : Int) ≤ (k : Int) := by omega
    have v1 : (k : Int) < (m : Int) := by omega
    have v2 : (k : Int) ≤ (c : Int) := by omega
    have v3 : ¬ (m : Int) = 0 := by omega
    clear hcl hr
    have HM := Lib.hid hm
    clear hm
    go_enter Tryd.func46, Tryd.ntmps46
    go_wp2_with fail
    go_quiet (fail)
    go_wp2_with fail
    go_ret3
    exact ⟨.inr ⟨k, HM.out.symm, rfl⟩, Below_dn (Below.refl _ _) _⟩
end Go.Proofs.YtolhjkbfinlfcaaDoor
