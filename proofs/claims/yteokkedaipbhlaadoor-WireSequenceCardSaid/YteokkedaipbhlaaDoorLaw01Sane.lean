/- The statements' fixed examples hold; NumberFrom and pick return their numbers. Condition: the checksum's table holds its words. -/
import Derived.Test.YteokkedaipbhlaaDoorString
import Derived.Test.YteokkedaipbhlaaDoorPutString
import Derived.Test.YteokkedaipbhlaaDoorSum
namespace Go.Proofs.YteokkedaipbhlaaDoor
open Go Go.RowKit
theorem TabOk.below {n : Nat} {w w' : World} (h : TabOk w) (hB : Below n w w') (hn : 0 < n) : TabOk w' := fun i hi => (hB.cell (p := ⟨0, i, none⟩) hn).trans (h i hi)
theorem putInt_c1 (w : World) : Calls Tryd.prog 12 #[.int .i64 (-64)] w fun e w' => e = .returned (.tuple #[.string ⟨#[127]⟩, .int .i64 0]) ∧ Below w.heap.size w w' := by
  have h := putInt_ok (-64) (by decide) (by decide) w
  rwa [show vbytes (zig (-64)) = [127] by decide] at h
theorem putInt_c2 (w : World) : Calls Tryd.prog 12 #[.int .i64 64] w fun e w' => e = .returned (.tuple #[.string ⟨#[128, 1]⟩, .int .i64 0]) ∧ Below w.heap.size w w' := by
  have h := putInt_ok 64 (by decide) (by decide) w
  rwa [show vbytes (zig 64) = [128, 1] by decide] at h
theorem int_c1 (w : World) : Calls Tryd.prog 15 #[.string ⟨#[97, 172, 2, 98]⟩, .int .i64 1] w fun e w' => e = .returned (.tuple #[.int .i64 150, .int .i64 3, .int .i64 0]) ∧ w = w' := by
  have h := int_any ⟨#[97, 172, 2, 98]⟩ 1 w (by decide)
  rwa [show wInt ⟨#[97, 172, 2, 98]⟩ 1 = .tuple #[.int .i64 150, .int .i64 3, .int .i64 0] by kernel_rfl] at h
theorem int_c2 (w : World) : Calls Tryd.prog 15 #[.string ⟨#[128, 0]⟩, .int .i64 0] w fun e w' => e = .returned (.tuple #[.int .i64 0, .int .i64 0, .int .i64 10]) ∧ w = w' := by
  have h := int_any ⟨#[128, 0]⟩ 0 w (by decide)
  rwa [show wInt ⟨#[128, 0]⟩ 0 = .tuple #[.int .i64 0, .int .i64 0, .int .i64 10] by kernel_rfl] at h
theorem int_c3 (w : World) : Calls Tryd.prog 15 #[.string ⟨#[]⟩, .int .i64 1] w fun e w' => e = .returned (.tuple #[.int .i64 0, .int .i64 0, .int .i64 2]) ∧ w = w' := by
  have h := int_any ⟨#[]⟩ 1 w (by decide)
  rwa [show wInt ⟨#[]⟩ 1 = .tuple #[.int .i64 0, .int .i64 0, .int .i64 2] by kernel_rfl] at h
theorem putString_c1 (w : World) : Calls Tryd.prog 19 #[.string ⟨#[97, 98]⟩] w fun e w' => e = .returned (.tuple #[.string ⟨#[4, 97, 98]⟩, .int .i64 0]) ∧ Below w.heap.size w w' := by
  have h := putString_any ⟨#[97, 98]⟩ w (by decide)
  rwa [show putS ⟨#[97, 98]⟩ = .tuple #[.string ⟨#[4, 97, 98]⟩, .int .i64 0] by kernel_rfl] at h
theorem string_c1 (w : World) : Calls Tryd.prog 17 #[.string ⟨#[4, 97, 98, 99]⟩, .int .i64 0] w fun e w' => e = .returned (.tuple #[.string ⟨#[97, 98]⟩, .int .i64 3, .int .i64 0]) ∧ w = w' := by
  have h := string_any ⟨#[4, 97, 98, 99]⟩ 0 w (by decide)
  rwa [show wString ⟨#[4, 97, 98, 99]⟩ 0 = .tuple #[.string ⟨#[97, 98]⟩, .int .i64 3, .int .i64 0] by kernel_rfl] at h
theorem string_c2 (w : World) : Calls Tryd.prog 17 #[.string ⟨#[4, 97]⟩, .int .i64 0] w fun e w' => e = .returned (.tuple #[.string ⟨#[]⟩, .int .i64 0, .int .i64 10]) ∧ w = w' := by
  have h := string_any ⟨#[4, 97]⟩ 0 w (by decide)
  rwa [show wString ⟨#[4, 97]⟩ 0 = .tuple #[.string ⟨#[]⟩, .int .i64 0, .int .i64 10] by kernel_rfl] at h
theorem sum_c1 (w : World) (hT : TabOk w) : Calls Tryd.prog 21 #[.string ⟨#[49, 50, 51, 52, 53, 54, 55, 56, 57]⟩] w fun e w' => e = .returned (.int .i64 3808858755) ∧ w = w' := by
  have h := sum_any ⟨#[49, 50, 51, 52, 53, 54, 55, 56, 57]⟩ w (by decide) hT
  rwa [show (crc (⟨#[49, 50, 51, 52, 53, 54, 55, 56, 57]⟩ : ByteArray).data.toList) = 3808858755 by decide] at h
set_option maxRecDepth 100000 in
set_option maxHeartbeats 1000000 in
theorem sane_any (w : World) (hT : TabOk w) (hn : 0 < w.heap.size) : Calls Tryd.prog 10 #[] w fun e w' => e = .returned (.bool true) ∧ Below w.heap.size w w' := by
  have HT := Lib.hid hT
  clear hT
  go_enter Tryd.func10, Tryd.ntmps10
  go_wp2_with fail
  refine (putInt_c1 _).mono ?_
  rintro e w1 ⟨rfl, hB1⟩
  go_wp2_with fail
  refine (putInt_c2 _).mono ?_
  rintro e w2 ⟨rfl, hB2⟩
  go_wp2_with fail
  refine (int_c1 _).mono ?_
  rintro e w' ⟨rfl, rfl⟩
  go_wp2_with fail
  refine (int_c2 _).mono ?_
  rintro e w' ⟨rfl, rfl⟩
  go_wp2_with fail
  refine (putString_c1 _).mono ?_
  rintro e w3 ⟨rfl, hB3⟩
  go_wp2_with fail
  refine (string_c1 _).mono ?_
  rintro e w' ⟨rfl, rfl⟩
  go_wp2_with fail
  refine (string_c2 _).mono ?_
  rintro e w' ⟨rfl, rfl⟩
  go_wp2_with fail
  refine (putInt_bad _ (.inr (by decide)) _).mono ?_
  rintro e w' ⟨rfl, rfl⟩
  go_wp2_with fail
  refine (int_c3 _).mono ?_
  rintro e w' ⟨rfl, rfl⟩
  have hB : Below w.heap.size w w3 := (hB1.trans (hB2.mono hB1.size)).trans (hB3.mono (Nat.le_trans hB1.size hB2.size))
  have HT3 := Lib.hid (HT.out.below hB hn)
  go_wp2_with fail
  refine (sum_c1 _ HT3.out).mono ?_
  rintro e w' ⟨rfl, rfl⟩
  go_wp2
  go_ret
  exact ⟨rfl, hB⟩
end Go.Proofs.YteokkedaipbhlaaDoor
