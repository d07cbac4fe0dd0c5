/- Package digest: words turned. Conditions: words of 32 bits; from 1 to 31 bits. -/
import Derived.Test.YtcfplkbbgjiocaaDoorProg
import Derived.Test.YtcfplkbbgjiocaaDoorShaSpec
import Derived.WalkKit
import Derived.IntWalk
import Derived.Lib.Hide
import Derived.Deep.QuietTactic
import Derived.BigQuiet
import Derived.LoopNIn
namespace Go.Proofs.YtcfplkbbgjiocaaDoor
open Go Go.RowKit
theorem cast_div (x n : Nat) : ((x / 2 ^ n : Nat) : Int) = (x : Int) / 2 ^ n := by
  rw [Int.natCast_ediv, Int.natCast_pow]
  rfl
theorem cast_mul (x n : Nat) : ((x * 2 ^ n % 4294967296 : Nat) : Int) = (x : Int) * 2 ^ n % 4294967296 := by
  rw [Int.natCast_emod, Int.natCast_mul, Int.natCast_pow]
  rfl
theorem rotr_or {x n : Nat} (hx : x < 4294967296) : bits .or .u32 ((x : Int) / 2 ^ n) ((x : Int) * 2 ^ (32 - n) % 4294967296) = ((rotr n x : Nat) : Int) := by
  have h := bitsN32_or (x / 2 ^ n) (x * 2 ^ (32 - n) % 4294967296) (Nat.lt_of_le_of_lt (Nat.div_le_self _ _) hx) (Nat.mod_lt _ (by decide))
  rw [cast_div, cast_mul] at h
  exact h
theorem rotr_or' {x n : Nat} (hx : x < 4294967296) : bits .or .u32 ((x : Int) * 2 ^ (32 - n) % 4294967296) ((x : Int) / 2 ^ n) = ((rotr n x : Nat) : Int) := by
  have h := bitsN32_or (x * 2 ^ (32 - n) % 4294967296) (x / 2 ^ n) (Nat.mod_lt _ (by decide)) (Nat.lt_of_le_of_lt (Nat.div_le_self _ _) hx)
  rw [cast_div, cast_mul] at h
  rw [h, Nat.or_comm]
  rfl
theorem and31_u64 (y : Nat) (hy : y < 18446744073709551616) : bits .and .u64 (y : Int) 31 = ((y % 32 : Nat) : Int) := by
  have h := bitsN64_and y 31 (by omega) (by decide)
  have e : y &&& 31 = y % 32 := Nat.and_two_pow_sub_one_eq_mod y 5
  rw [e] at h
  exact h
set_option maxRecDepth 100000 in
theorem rotl_any (x n : Nat) (w : World) (hx : x < 4294967296) (h1 : 1 ≤ n) (h2 : n ≤ 31) :
    Calls Tryd.prog 79 #[.int .u32 (x : Int), .int .i64 (-(n : Int))] w fun e w' => e = .returned (.int .u32 (rotr n x : Nat)) ∧ w = w' := by
  have e1 : IntKind.u64.wrap (-(n : Int)) = ((18446744073709551616 - n : Nat) : Int) := by rw [IntKind.wrap_u64]; omega
  have e2 : bits .and .u64 ((18446744073709551616 - n : Nat) : Int) 31 = ((32 - n : Nat) : Int) := by
    rw [and31_u64 _ (by omega)]
    omega
  obtain ⟨a, ha⟩ : ∃ a, 18446744073709551616 - n = a := ⟨_, rfl⟩
  rw [ha] at e1 e2
  obtain ⟨m, hm⟩ : ∃ m, 32 - n = m := ⟨_, rfl⟩
  rw [hm] at e2
  have e3 : IntKind.u64.wrap (32 - (m : Int)) = (n : Int) := by rw [IntKind.wrap_u64]; omega
  go_enter Tryd.func79, Tryd.ntmps79
  go_wp2
  have e4 := rotr_or' (n := n) hx
  rw [hm] at e4
  go_ret
  exact ⟨by rw [← e4]; rfl, rfl⟩
set_option maxRecDepth 100000 in
theorem rotated_any (x n : Nat) (w : World) (hx : x < 4294967296) (h1 : 1 ≤ n) (h2 : n ≤ 31) :
    Calls Tryd.prog 58 #[.int .u32 (x : Int), .int .i64 (n : Int)] w fun e w' => e = .returned (.int .u32 (rotr n x : Nat)) ∧ ∃ k, w' = w.drewN k := by
  obtain ⟨m, hm⟩ : ∃ m, 32 - n = m := ⟨_, rfl⟩
  have e3 : IntKind.i64.wrap (32 - (n : Int)) = (m : Int) := by rw [IntWalk.i64_in _ (by omega)]; omega
  have e5 : (0 : Int) ≤ (n : Int) := by omega
  have e6 : (0 : Int) ≤ (m : Int) := by omega
  go_enter Tryd.func58, Tryd.ntmps58
  go_wp2
  go_quiet (fail)
  go_wp2
  have e4 := rotr_or (n := n) hx
  rw [hm] at e4
  go_ret
  exact ⟨by rw [← e4]; rfl, nq, rfl⟩
def xorF (f : Nat → Nat) : Nat → Nat
  | 0 => 0
  | k + 1 => xorF f k ^^^ f k
theorem xorF_lt {f : Nat → Nat} : ∀ n, (∀ i, i < n → f i < 4294967296) → xorF f n < 4294967296
  | 0, _ => show 0 < 4294967296 by decide
  | n + 1, h => Nat.xor_lt_two_pow (n := 32) (xorF_lt n fun i hi => h i (by omega)) (h n (by omega))
set_option maxRecDepth 100000 in
theorem mixed_any (x b off n c : Nat) (f : Nat → Nat) (w : World) (hx : x < 4294967296) (hn : n ≤ 1000) (hf : ∀ i, i < n → 1 ≤ f i ∧ f i ≤ 31) (hc : ∀ i, i < n → w.cell? ⟨b, off + i, none⟩ = some (.int .i64 (f i : Nat))) :
    Calls Tryd.prog 78 #[.int .u32 (x : Int), .slice (some ⟨b, off, none⟩) n c] w fun e w' => e = .returned (.int .u32 (xorF (fun i => rotr (f i) x) n : Nat)) ∧ w = w' := by
  have HF := Lib.hid hf
  have HC := Lib.hid hc
  clear hf hc
  go_enter Tryd.func78, Tryd.ntmps78
  go_wp2
  go_loop [5, 10] (fun z i => ∃ k : Nat, k ≤ n ∧ i = .int .i64 k ∧ z = .int .u32 (xorF (fun i => rotr (f i) x) k : Nat)) (fun _ i => n - (intOf i).toNat)
  case atStart => exact ⟨0, by omega, rfl, rfl⟩
  case round =>
    obtain ⟨k, hk, rfl, rfl⟩ := hrel
    by_cases hlt : k < n
    · have v0 : (0 : Int) ≤ (k : Int) := by omega
      have v1 : (k : Int) < (n : Int) := by omega
      have hck := HC.out k hlt
      obtain ⟨h1, h2⟩ := HF.out k hlt
      have hxl := xorF_lt (f := fun i => rotr (f i) x) k (fun i _ => rotr_lt hx)
      have hst : Hid (xorF (fun i => rotr (f i) x) (k + 1) = xorF (fun i => rotr (f i) x) k ^^^ rotr (f k) x) := Lib.hid rfl
      obtain ⟨m, hm⟩ : ∃ m, f k = m := ⟨_, rfl⟩
      obtain ⟨z, hz⟩ : ∃ z, xorF (fun i => rotr (f i) x) k = z := ⟨_, rfl⟩
      rw [hm] at hck h1 h2 hst
      rw [hz] at hxl hst ⊢
      have g1 : IntKind.i64.wrap (-(m : Int)) = -(m : Int) := IntWalk.i64_in _ (by omega)
      have g2 := bitsN32_xor z (rotr m x) hxl (rotr_lt hx)
      obtain ⟨r, hr⟩ : ∃ r, rotr m x = r := ⟨_, rfl⟩
      have HR := Lib.hid (rotl_any x m)
      rw [hr] at g2 hst HR
      clear hm hz hr
      go_wp2_with fail
      refine (HR.out _ hx h1 h2).mono ?_
      rintro e w1 ⟨rfl, rfl⟩
      go_wp2
      go_round
      case rel => exact ⟨k + 1, by omega, by go_num, by rw [hst.out]⟩
      case measure => simp [intOf]; omega
    · obtain rfl : k = n := by omega
      go_wp2
      go_ret
      exact ⟨rfl, rfl⟩
theorem mixed2_any (x b o c p q : Nat) (w : World) (hx : x < 4294967296) (hp : 1 ≤ p ∧ p ≤ 31) (hq : 1 ≤ q ∧ q ≤ 31) (h0 : w.cell? ⟨b, o, none⟩ = some (.int .i64 (p : Nat))) (h1 : w.cell? ⟨b, o + 1, none⟩ = some (.int .i64 (q : Nat))) :
    Calls Tryd.prog 78 #[.int .u32 (x : Int), .slice (some ⟨b, o, none⟩) 2 c] w fun e w' => e = .returned (.int .u32 (rotr p x ^^^ rotr q x : Nat)) ∧ w = w' := by
  refine (mixed_any x b o 2 c (fun i => if i = 0 then p else q) w hx (by omega) (fun i hi => ?_) (fun i hi => ?_)).mono fun e w' ⟨h1, h2⟩ => ⟨?_, h2⟩
  · rcases (show i = 0 ∨ i = 1 by omega) with rfl | rfl
    · exact hp
    · exact hq
  · rcases (show i = 0 ∨ i = 1 by omega) with rfl | rfl
    · exact h0
    · exact h1
  · rw [h1]
    show _ = Ending.returned (.int .u32 ((rotr p x ^^^ rotr q x : Nat) : Int))
    rw [show xorF (fun i => rotr (if i = 0 then p else q) x) 2 = rotr p x ^^^ rotr q x from by show 0 ^^^ rotr p x ^^^ rotr q x = _; rw [Nat.zero_xor]]
theorem mixed3_any (x b o c p q r : Nat) (w : World) (hx : x < 4294967296) (hp : 1 ≤ p ∧ p ≤ 31) (hq : 1 ≤ q ∧ q ≤ 31) (hr : 1 ≤ r ∧ r ≤ 31) (h0 : w.cell? ⟨b, o, none⟩ = some (.int .i64 (p : Nat))) (h1 : w.cell? ⟨b, o + 1, none⟩ = some (.int .i64 (q : Nat))) (h2 : w.cell? ⟨b, o + 2, none⟩ = some (.int .i64 (r : Nat))) :
    Calls Tryd.prog 78 #[.int .u32 (x : Int), .slice (some ⟨b, o, none⟩) 3 c] w fun e w' => e = .returned (.int .u32 (rotr p x ^^^ rotr q x ^^^ rotr r x : Nat)) ∧ w = w' := by
  refine (mixed_any x b o 3 c (fun i => if i = 0 then p else if i = 1 then q else r) w hx (by omega) (fun i hi => ?_) (fun i hi => ?_)).mono fun e w' ⟨h1, h2⟩ => ⟨?_, h2⟩
  · rcases (show i = 0 ∨ i = 1 ∨ i = 2 by omega) with rfl | rfl | rfl
    · exact hp
    · exact hq
    · exact hr
  · rcases (show i = 0 ∨ i = 1 ∨ i = 2 by omega) with rfl | rfl | rfl
    · exact h0
    · exact h1
    · exact h2
  · rw [h1]
    rw [show xorF (fun i => rotr (if i = 0 then p else if i = 1 then q else r) x) 3 = rotr p x ^^^ rotr q x ^^^ rotr r x from by show 0 ^^^ rotr p x ^^^ rotr q x ^^^ rotr r x = _; rw [Nat.zero_xor]]
end Go.Proofs.YtcfplkbbgjiocaaDoor
