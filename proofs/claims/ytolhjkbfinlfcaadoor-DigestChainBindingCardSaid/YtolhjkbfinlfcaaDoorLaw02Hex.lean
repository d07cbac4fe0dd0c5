/- The law of chapter 2: hex, sane. -/
import Derived.Test.YtolhjkbfinlfcaaDoorDigVerExt
namespace Go.Proofs.YtolhjkbfinlfcaaDoor
open Go Go.RowKit
def digs16 : ByteArray := ⟨#[48, 49, 50, 51, 52, 53, 54, 55, 56, 57, 97, 98, 99, 100, 101, 102]⟩
def hexF (s : ByteArray) : Nat → ByteArray
  | 0 => ⟨#[]⟩
  | i + 1 => hexF s i ++ digs16.extract ((s.data.getD i 0).toNat / 16) ((s.data.getD i 0).toNat / 16 + 1) ++ digs16.extract ((s.data.getD i 0).toNat % 16) ((s.data.getD i 0).toNat % 16 + 1)
theorem hexF_size (s : ByteArray) : ∀ i, (hexF s i).size ≤ 32 * i
  | 0 => by show (ByteArray.mk #[]).size ≤ 0; decide
  | i + 1 => by
    have h := hexF_size s i
    have : digs16.size = 16 := rfl
    rw [hexF, ByteArray.size_append, ByteArray.size_append, ByteArray.size_extract, ByteArray.size_extract]
    omega
set_option maxRecDepth 100000 in
set_option maxHeartbeats 2000000 in
theorem hex_any (s : ByteArray) (w : World) (hs : s.size ≤ 4000) :
    Calls Tryd.prog 39 #[.string s] w fun e w' => e = .returned (.string (hexF s s.size)) ∧ Below w.heap.size w w' := by
  go_enter Tryd.func39, Tryd.ntmps39
  go_wp2_with fail
  go_loopw [3, 4] (fun v3 v4 wr => ∃ i : Nat, v3 = .string (hexF s i) ∧ v4 = .int .i64 (i : Nat) ∧ i ≤ s.size ∧ Below w.heap.size w wr) (fun _ v4 _ => s.size - (intOf v4).toNat)
  case atStart => exact ⟨0, rfl, rfl, by omega, Below.refl _ _⟩
  case round =>
    obtain ⟨i, rfl, rfl, hi, hB⟩ := hrel
    by_cases hlt : i < s.size
    · have h0 : (i : Int) < (s.size : Int) := by omega
      have g0 : (0 : Int) ≤ (i : Int) := by omega
      have hst : hexF s (i + 1) = hexF s i ++ digs16.extract ((s[i]'hlt).toNat / 16) ((s[i]'hlt).toNat / 16 + 1) ++ digs16.extract ((s[i]'hlt).toNat % 16) ((s[i]'hlt).toNat % 16 + 1) := by
        have e : s.data.getD i 0 = s[i]'hlt := by
          have h' : i < s.data.size := hlt
          rw [Array.getD_eq_getD_getElem?, Array.getElem?_eq_getElem h']
          rfl
        rw [hexF, e]
      have hb := (s[i]'hlt).toNat_lt
      obtain ⟨q, hq⟩ : ∃ q, (s[i]'hlt).toNat / 16 = q := ⟨_, rfl⟩
      obtain ⟨r, hr⟩ : ∃ r, (s[i]'hlt).toNat % 16 = r := ⟨_, rfl⟩
      rw [hq, hr] at hst
      have HST := Lib.hid hst
      have hq0 : IntKind.u8.wrap (((s[i]'hlt).toNat : Int) / 16) = (q : Int) := by rw [IntWalk.u8_in _ (by omega)]; omega
      have hr0 : IntKind.u8.wrap (((s[i]'hlt).toNat : Int) % 16) = (r : Int) := by rw [IntWalk.u8_in _ (by omega)]; omega
      have hq00 : ((s[i]'hlt).toNat : Int) / 16 = (q : Int) := by omega
      have hr00 : ((s[i]'hlt).toNat : Int) % 16 = (r : Int) := by omega
      have hq9 : q < 16 := by omega
      have hr9 : r < 16 := by omega
      obtain ⟨q1, hq1⟩ : ∃ q1, q + 1 = q1 := ⟨_, rfl⟩
      obtain ⟨r1, hr1⟩ : ∃ r1, r + 1 = r1 := ⟨_, rfl⟩
      rw [hq1, hr1] at HST
      have hu1 : IntKind.u8.wrap ((q : Int) + 1) = (q1 : Int) := by rw [IntWalk.u8_in _ (by omega)]; omega
      have hu2 : IntKind.u8.wrap ((r : Int) + 1) = (r1 : Int) := by rw [IntWalk.u8_in _ (by omega)]; omega
      have hu10 : (q : Int) + 1 = (q1 : Int) := by omega
      have hu20 : (r : Int) + 1 = (r1 : Int) := by omega
      have b1 : (q : Int) ≤ (q1 : Int) := by omega
      have b2 : (q1 : Int) ≤ 16 := by omega
      have b3 : (0 : Int) ≤ (q : Int) := by omega
      have b4 : q ≤ q1 := by omega
      have b5 : q1 ≤ 16 := by omega
      have c1 : (r : Int) ≤ (r1 : Int) := by omega
      have c2 : (r1 : Int) ≤ 16 := by omega
      have c3 : (0 : Int) ≤ (r : Int) := by omega
      have c4 : r ≤ r1 := by omega
      have c5 : r1 ≤ 16 := by omega
      obtain ⟨E1, hE1⟩ : ∃ E, digs16.extract q q1 = E := ⟨_, rfl⟩
      obtain ⟨E2, hE2⟩ : ∃ E, digs16.extract r r1 = E := ⟨_, rfl⟩
      have z1 : E1.size ≤ 16 := by rw [← hE1, ByteArray.size_extract]; have : digs16.size = 16 := rfl; omega
      have z2 : E2.size ≤ 16 := by rw [← hE2, ByteArray.size_extract]; have : digs16.size = 16 := rfl; omega
      rw [hE1, hE2] at HST
      have hE1 : (⟨#[48, 49, 50, 51, 52, 53, 54, 55, 56, 57, 97, 98, 99, 100, 101, 102]⟩ : ByteArray).extract q q1 = E1 := hE1
      have hE2 : (⟨#[48, 49, 50, 51, 52, 53, 54, 55, 56, 57, 97, 98, 99, 100, 101, 102]⟩ : ByteArray).extract r r1 = E2 := hE2
      have z3 : (hexF s i).size ≤ 32 * i := hexF_size s i
      have z4 : (hexF s i ++ E1).size ≤ 32 * i + 16 := by rw [ByteArray.size_append]; omega
      have z5 : ¬ 9223372036854775807 < (hexF s i).size + E1.size := by omega
      have z6 : ¬ 9223372036854775807 < (hexF s i ++ E1).size + E2.size := by omega
      clear hst hq1 hr1 hq hr
      go_wp2_with fail
      go_quiet (fail)
      go_wp2_with fail
      have hd := Below_dn hB nq
      refine ⟨⟨i + 1, by rw [HST.out], by simp, by omega, hd⟩, by simp [intOf]; omega⟩
    · obtain rfl : i = s.size := by omega
      go_wp2_with fail
      go_ret
      exact ⟨rfl, hB⟩
def p3 : Nat → ByteArray := fun i => if i = 0 then ⟨#[97]⟩ else if i = 1 then ⟨#[98]⟩ else ⟨#[99]⟩
theorem san_sum0 : hexF (dS ⟨#[]⟩) 32 = "e3b0c44298fc1c149afbf4c8996fb92427ae41e4649b934ca495991b7852b855".toUTF8 := by decide +kernel
theorem san_sum1 : hexF (dS ⟨#[97, 98, 99]⟩) 32 = "ba7816bf8f01cfea414140de5dae2223b00361a396177a9cb410ff61f20015ad".toUTF8 := by decide +kernel
theorem san_v1 : VerifyOk (rootF p3 0 3) 3 2 ⟨#[99]⟩ (getS (proofR p3 3 2)) 1 := by decide +kernel
theorem san_v2 : ¬ VerifyOk (rootF p3 0 3) 3 2 ⟨#[100]⟩ (getS (proofR p3 3 2)) 1 := by decide +kernel
theorem san_x1 : VerExtOk (rootF p3 0 1) 1 (rootF p3 0 3) 3 (getS (extR p3 3 1)) 2 := by decide +kernel
theorem san_x2 : ¬ VerExtOk (rootF p3 0 2) 1 (rootF p3 0 3) 3 (getS (extR p3 3 1)) 2 := by decide +kernel
theorem san_l1 : (proofR p3 3 2).length = 1 := by decide +kernel
theorem san_l2 : (extR p3 3 1).length = 2 := by decide +kernel
end Go.Proofs.YtolhjkbfinlfcaaDoor
