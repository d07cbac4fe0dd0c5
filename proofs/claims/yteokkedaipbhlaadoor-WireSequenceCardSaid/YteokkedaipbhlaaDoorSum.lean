/- Package wire: Sum returns the checksum. Conditions: the table holds its sixteen words; the string is no longer than a string may be. -/
import Derived.Test.YteokkedaipbhlaaDoorProg
import Derived.Test.YteokkedaipbhlaaDoorCrcSpec
import Derived.WalkKit
import Derived.IntWalk
import Derived.Lib.Hide
namespace Go.Proofs.YteokkedaipbhlaaDoor
open Go Go.RowKit
/-- The table's words in memory. -/
def TabOk (W : World) : Prop := ∀ i, i < 16 → W.cell? ⟨0, i, none⟩ = some (.int .u32 ((crcTab i : Nat) : Int))
/-- Before byte k. -/
def SumInv (s : ByteArray) (k r : Nat) : Prop := r < 2 ^ 32 ∧ (s.data.toList.drop k).foldl crcByte r = crcReg s.data.toList
theorem drop_byte_at (s : ByteArray) (i : Nat) (h : i < s.size) : s.data.toList.drop i = s[i] :: s.data.toList.drop (i + 1) := by
  rw [List.drop_eq_getElem_cons (by simpa using h)]
  rfl
theorem SumInv.step {s : ByteArray} {k r : Nat} (h : SumInv s k r) (hk : k < s.size) : SumInv s (k + 1) (crcByte r s[k]) := by
  refine ⟨crcByte_lt h.1 _, ?_⟩
  have e := h.2
  rw [drop_byte_at s k hk] at e
  exact e
theorem SumInv.done {s : ByteArray} {k r : Nat} (h : SumInv s k r) (hk : ¬ k < s.size) : r = crcReg s.data.toList := by
  rw [← h.2, List.drop_eq_nil_of_le (by simp; omega)]; rfl
set_option maxRecDepth 100000 in
set_option maxHeartbeats 1000000 in
theorem sum_any (s : ByteArray) (w : World) (hs : s.size ≤ maxLen) (hT : TabOk w) :
    Calls Tryd.prog 21 #[.string s] w fun e w' => e = .returned (.int .i64 (crc s.data.toList : Nat)) ∧ w = w' := by
  unfold maxLen at hs
  go_enter Tryd.func21, Tryd.ntmps21
  go_wp2
  go_loop [3, 7] (fun z i => ∃ (k r : Nat), k ≤ s.size ∧ SumInv s k r ∧ i = .int .i64 k ∧ z = .int .u32 r) (fun _ i => s.size - (intOf i).toNat)
  case atStart => exact ⟨0, 4294967295, by omega, ⟨by decide, rfl⟩, rfl, rfl⟩
  case round =>
    obtain ⟨k, r, hk, hinv, rfl, rfl⟩ := hrel
    have HI := Lib.hid hinv
    have hr := hinv.1
    clear hinv
    by_cases hlt : k < s.size
    · have hst := HI.out.step hlt
      obtain ⟨c, hc⟩ : ∃ c, s[k].toNat = c := ⟨_, rfl⟩
      have hc2 : c < 256 := by have := s[k].toNat_lt; omega
      unfold crcByte at hst
      rw [hc] at hst
      have hl1 : r ^^^ c < 2 ^ 32 := Nat.xor_lt_two_pow hr (by omega)
      have e1 : bits .xor .u32 (r : Int) (c : Int) = ((r ^^^ c : Nat) : Int) := bitsN32_xor r c hr (by omega)
      obtain ⟨r1, hr1⟩ : ∃ r1, r ^^^ c = r1 := ⟨_, rfl⟩
      rw [hr1] at hst hl1 e1
      have hl2 : crc4 r1 < 2 ^ 32 := crc4_lt hl1
      have hl3 : crc4 (crc4 r1) < 2 ^ 32 := crc4_lt hl2
      have a1 := and15_u32 r1 hl1
      have t1 := hT (r1 % 16) (by omega)
      have b1 : bits .xor .u32 ((r1 / 16 : Nat) : Int) ((crcTab (r1 % 16) : Nat) : Int) = ((crc4 r1 : Nat) : Int) := bitsN32_xor _ _ (by omega) (crcTab_lt _)
      obtain ⟨r2, hr2⟩ : ∃ r2, crc4 r1 = r2 := ⟨_, rfl⟩
      rw [hr2] at hst hl2 hl3 b1
      have a2 := and15_u32 r2 hl2
      have t2 := hT (r2 % 16) (by omega)
      have b2 : bits .xor .u32 ((r2 / 16 : Nat) : Int) ((crcTab (r2 % 16) : Nat) : Int) = ((crc4 r2 : Nat) : Int) := bitsN32_xor _ _ (by omega) (crcTab_lt _)
      obtain ⟨r3, hr3⟩ : ∃ r3, crc4 r2 = r3 := ⟨_, rfl⟩
      rw [hr3] at hst hl3 b2
      obtain ⟨q1, hq1⟩ : ∃ q1, crcTab (r1 % 16) = q1 := ⟨_, rfl⟩
      obtain ⟨q2, hq2⟩ : ∃ q2, crcTab (r2 % 16) = q2 := ⟨_, rfl⟩
      rw [hq1] at t1 b1
      rw [hq2] at t2 b2
      have HST := Lib.hid hst
      clear hst hr1 hr2 hr3 hq1 hq2 hT
      push_cast at b1 b2
      go_wp2
      go_round
      case rel => exact ⟨k + 1, r3, by omega, HST.out, by go_num, rfl⟩
      case measure => simp [intOf]; omega
    · have HF := Lib.hid (HI.out.done hlt)
      clear hT
      go_wp2
      go_ret
      refine ⟨?_, rfl⟩
      show Ending.returned (Value.int .i64 (wrap64 (bits .xor .u32 IntKind.u32.max (r : Int)))) = _
      rw [not_u32 r (by omega), wrap64_nat _ (by omega), HF.out]
      rfl
set_option maxRecDepth 100000 in
set_option maxHeartbeats 1000000 in
theorem refSum_any (s : ByteArray) (w : World) (hs : s.size ≤ maxLen) :
    Calls Tryd.prog 22 #[.string s] w fun e w' => e = .returned (.int .i64 (crc s.data.toList : Nat)) ∧ w = w' := by
  unfold maxLen at hs
  go_enter Tryd.func22, Tryd.ntmps22
  go_wp2
  go_loop [3, 4] (fun z i => ∃ (k r : Nat), k ≤ s.size ∧ SumInv s k r ∧ i = .int .i64 k ∧ z = .int .u32 r) (fun _ i => s.size - (intOf i).toNat)
  case atStart => exact ⟨0, 4294967295, by omega, ⟨by decide, rfl⟩, rfl, rfl⟩
  case round =>
    obtain ⟨k, r, hk, hinv, rfl, rfl⟩ := hrel
    have HI := Lib.hid hinv
    have hr := hinv.1
    clear hinv
    by_cases hlt : k < s.size
    · have hst := HI.out.step hlt
      rw [← crcN_8] at hst
      obtain ⟨c, hc⟩ : ∃ c, s[k].toNat = c := ⟨_, rfl⟩
      have hc2 : c < 256 := by have := s[k].toNat_lt; omega
      rw [hc] at hst
      have hl1 : r ^^^ c < 2 ^ 32 := Nat.xor_lt_two_pow hr (by omega)
      have e1 : bits .xor .u32 (r : Int) (c : Int) = ((r ^^^ c : Nat) : Int) := bitsN32_xor r c hr (by omega)
      obtain ⟨r1, hr1⟩ : ∃ r1, r ^^^ c = r1 := ⟨_, rfl⟩
      rw [hr1] at hst hl1 e1
      have HST := Lib.hid hst
      clear hst hr1
      go_wp2
      go_loop [3, 5] (fun z i => ∃ (j q : Nat), j ≤ 8 ∧ q < 2 ^ 32 ∧ Hid (crcN (8 - j) q = crcN 8 r1) ∧ i = .int .i64 j ∧ z = .int .u32 q) (fun _ i => 8 - (intOf i).toNat)
      case atStart => exact ⟨0, r1, by omega, hl1, rfl, rfl, rfl⟩
      case round =>
        obtain ⟨j, q, hj, hq, HJ, rfl, rfl⟩ := hrel
        by_cases h8 : j < 8
        · have hn : crcN (8 - (j + 1)) (crc1 q) = crcN 8 r1 := by rw [← HJ.out, show 8 - j = (8 - (j + 1)) + 1 by omega]; rfl
          have HN := Lib.hid hn
          clear hn
          have hq1 := crc1_lt hq
          by_cases ho : q % 2 = 1
          · have ho1 : ((q : Int) % 2 == 1) = true := by simp; omega
            have e2 : bits .xor .u32 ((q : Int) / 2) 2197175160 = ((crc1 q : Nat) : Int) := by
              have := bitsN32_xor (q / 2) 2197175160 (by omega) (by decide)
              unfold crc1
              rw [if_pos ho]
              exact this
            obtain ⟨q2, hq2⟩ : ∃ q2, crc1 q = q2 := ⟨_, rfl⟩
            have HO := Lib.hid ho
            rw [hq2] at e2 hq1
            rw [hq2] at HN
            clear hq2 ho
            go_wp2
            go_round
            case rel => exact ⟨j + 1, q2, by omega, hq1, HN, by go_num, rfl⟩
            case measure => simp [intOf]; omega
          · have ho1 : ((q : Int) % 2 == 1) = false := by simp; omega
            have hq2 : crc1 q = q / 2 := by unfold crc1; rw [if_neg ho]
            rw [hq2] at HN hq1
            clear hq2
            go_wp2
            go_round
            case rel => exact ⟨j + 1, q / 2, by omega, hq1, HN, by go_num, by go_num⟩
            case measure => simp [intOf]; omega
        · have hj8 : j = 8 := by omega
          subst hj8
          have hF : q = crcN 8 r1 := HJ.out
          have HF := Lib.hid hF
          clear hF
          go_wp2
          go_round
          case rel => exact ⟨k + 1, q, by omega, by rw [HF.out]; exact HST.out, by go_num, rfl⟩
          case measure => simp [intOf]; omega
    · have HF := Lib.hid (HI.out.done hlt)
      go_wp2
      go_ret
      refine ⟨?_, rfl⟩
      show Ending.returned (Value.int .i64 (wrap64 (bits .xor .u32 IntKind.u32.max (r : Int)))) = _
      rw [not_u32 r (by omega), wrap64_nat _ (by omega), HF.out]
      rfl
end Go.Proofs.YteokkedaipbhlaaDoor
