/- WireMatchesReference returns true. Conditions: the checksum's table holds its words; numbers of 64 bits. -/
import Derived.Test.YteokkedaipbhlaaDoorLaw01Sane
import Derived.Test.YteokkedaipbhlaaDoorLaw01Num
import Derived.Test.YteokkedaipbhlaaDoorRefString
namespace Go.Proofs.YteokkedaipbhlaaDoor
open Go Go.RowKit
theorem putInt_both (n : Int) (h1 : -9223372036854775808 ≤ n) (h2 : n ≤ 9223372036854775807) : ∃ (T : ByteArray) (x : Int),
    (∀ w, Calls Tryd.prog 12 #[.int .i64 n] w fun e w' => e = .returned (.tuple #[.string T, .int .i64 x]) ∧ Below w.heap.size w w') ∧
    (∀ w, Calls Tryd.prog 13 #[.int .i64 n] w fun e w' => e = .returned (.tuple #[.string T, .int .i64 x]) ∧ Below w.heap.size w w') := by
  by_cases h : n < -4611686018427387903 ∨ 4611686018427387903 < n
  · exact ⟨_, _, fun w => (putInt_bad n h w).mono fun e w' ⟨he, hw⟩ => ⟨he, hw ▸ Below.refl _ _⟩, fun w => (refPutInt_bad n h w).mono fun e w' ⟨he, hw⟩ => ⟨he, hw ▸ Below.refl _ _⟩⟩
  · exact ⟨_, _, putInt_ok n (by omega) (by omega), refPutInt_ok n (by omega) (by omega)⟩
theorem int_both (s : ByteArray) (k : Int) (hs : s.size ≤ maxLen) : ∃ (a b c : Int),
    (∀ w, Calls Tryd.prog 15 #[.string s, .int .i64 k] w fun e w' => e = .returned (.tuple #[.int .i64 a, .int .i64 b, .int .i64 c]) ∧ w = w') ∧
    (∀ w, Calls Tryd.prog 16 #[.string s, .int .i64 k] w fun e w' => e = .returned (.tuple #[.int .i64 a, .int .i64 b, .int .i64 c]) ∧ Below w.heap.size w w') := by
  have hf : ∃ a b c, wInt s k = .tuple #[.int .i64 a, .int .i64 b, .int .i64 c] := by
    unfold wInt
    split
    · exact ⟨_, _, _, rfl⟩
    · cases intDec (s.data.toList.drop k.toNat) with
      | none => exact ⟨_, _, _, rfl⟩
      | some p => exact ⟨_, _, _, rfl⟩
  obtain ⟨a, b, c, hf⟩ := hf
  refine ⟨a, b, c, fun w => ?_, fun w => ?_⟩
  · rw [← hf]; exact int_any s k w hs
  · rw [← hf]; exact refInt_any s k w hs
theorem string_both (s : ByteArray) (k : Int) (hs : s.size ≤ maxLen) : ∃ (a : ByteArray) (b c : Int),
    (∀ w, Calls Tryd.prog 17 #[.string s, .int .i64 k] w fun e w' => e = .returned (.tuple #[.string a, .int .i64 b, .int .i64 c]) ∧ w = w') ∧
    (∀ w, Calls Tryd.prog 18 #[.string s, .int .i64 k] w fun e w' => e = .returned (.tuple #[.string a, .int .i64 b, .int .i64 c]) ∧ Below w.heap.size w w') := by
  have hf : ∃ a b c, wString s k = .tuple #[.string a, .int .i64 b, .int .i64 c] := by
    unfold wString
    split
    · exact ⟨_, _, _, rfl⟩
    · cases intDec (s.data.toList.drop k.toNat) with
      | none => exact ⟨_, _, _, rfl⟩
      | some p =>
        obtain ⟨n, j⟩ := p
        unfold strVal
        simp only
        split <;> exact ⟨_, _, _, rfl⟩
  obtain ⟨a, b, c, hf⟩ := hf
  refine ⟨a, b, c, fun w => ?_, fun w => ?_⟩
  · rw [← hf]; exact string_any s k w hs
  · rw [← hf]; exact refString_any s k w hs
theorem putString_both (s : ByteArray) (hs : s.size ≤ maxLen) : ∃ (a : ByteArray) (b : Int),
    (∀ w, Calls Tryd.prog 19 #[.string s] w fun e w' => e = .returned (.tuple #[.string a, .int .i64 b]) ∧ Below w.heap.size w w') ∧
    (∀ w, Calls Tryd.prog 20 #[.string s] w fun e w' => e = .returned (.tuple #[.string a, .int .i64 b]) ∧ Below w.heap.size w w') := by
  have hf : ∃ a b, putS s = .tuple #[.string a, .int .i64 b] := by
    unfold putS
    split <;> exact ⟨_, _, rfl⟩
  obtain ⟨a, b, hf⟩ := hf
  refine ⟨a, b, fun w => ?_, fun w => ?_⟩
  · rw [← hf]; exact putString_any s w hs
  · rw [← hf]; exact refPutString_any s w hs
set_option maxRecDepth 100000 in
set_option maxHeartbeats 1000000 in
theorem wireMatches_any (n : Int) (s : ByteArray) (a : Int) (w : World) (n1 : -9223372036854775808 ≤ n) (n2 : n ≤ 9223372036854775807) (a1 : -9223372036854775808 ≤ a) (a2 : a ≤ 9223372036854775807)
    (hs : s.size ≤ maxLen) (hT : TabOk w) (hn : 0 < w.heap.size) :
    Calls Tryd.prog 3 #[.int .i64 n, .string s, .int .i64 a] w fun e w' => e = .returned (.bool true) ∧ Below w.heap.size w w' := by
  have HT := Lib.hid hT
  have hnb := numF_bd n
  have hs' := hs
  unfold maxLen at hs'
  clear hT
  go_enter Tryd.func3, Tryd.ntmps3
  go_wp2_with fail
  refine (sane_any _ HT.out hn).mono ?_
  rintro e w1 ⟨rfl, hB1⟩
  obtain ⟨PT, PX, hP1, hP2⟩ := putInt_both n n1 n2
  obtain ⟨QT, QX, hQ1, hQ2⟩ := putInt_both (numF n) (by omega) (by omega)
  have HP1 := Lib.hid hP1
  have HP2 := Lib.hid hP2
  have HQ1 := Lib.hid hQ1
  have HQ2 := Lib.hid hQ2
  clear hP1 hP2 hQ1 hQ2
  by_cases h300 : s.size ≤ 300
  case' pos =>
    go_wp2_with fail
    have hF : s.size ≤ maxLen := hs
    have hF3 : s.size ≤ 300 := h300
    obtain ⟨F, hFs0⟩ : ∃ F : ByteArray, F = s := ⟨s, rfl⟩
    subst hFs0
  case' neg =>
    go_wp2_with fail
    have hF : (s.extract 0 300).size ≤ maxLen := by simp [maxLen]; omega
    have hF3 : (s.extract 0 300).size ≤ 300 := by simp; omega
    generalize s.extract 0 300 = F at *
  all_goals
    have hFs := hF
    unfold maxLen at hFs
    refine (numberFrom_any n _ n1 n2).mono ?_
    rintro e w2 ⟨rfl, hB2⟩
    go_wp2_with fail
    have c0 : (w2.alloc (.cells #[.int .i64 n, .int .i64 (numF n)] 3)).cell? ⟨w2.heap.size, 0, none⟩ = some (.int .i64 n) := by simp
    have c1 : (w2.alloc (.cells #[.int .i64 n, .int .i64 (numF n)] 3)).cell? ⟨w2.heap.size, 1, none⟩ = some (.int .i64 (numF n)) := by simp
    have hBW : Below w.heap.size w (w2.alloc (.cells #[.int .i64 n, .int .i64 (numF n)] 3)) := (hB1.trans (hB2.mono hB1.size)).alloc (Nat.le_trans hB1.size hB2.size) _
    have hsz : w2.heap.size < (w2.alloc (.cells #[.int .i64 n, .int .i64 (numF n)] 3)).heap.size := by simp
    generalize (w2.alloc (.cells #[.int .i64 n, .int .i64 (numF n)] 3)) = W0 at *
    obtain ⟨B0, hB0⟩ : ∃ B0, w2.heap.size = B0 := ⟨_, rfl⟩
    rw [hB0] at c0 c1 hsz ⊢
    clear hB0
    have C0 := Lib.hid c0
    have C1 := Lib.hid c1
    clear c0 c1
    go_loopw [44] (fun i wr => ∃ k : Nat, k ≤ 2 ∧ i = .int .i64 k ∧ Below W0.heap.size W0 wr) (fun i _ => 2 - (intOf i).toNat)
    case atStart => exact ⟨0, by omega, rfl, Below.refl _ _⟩
    case round =>
      obtain ⟨k, hk, rfl, hBr⟩ := hrel
      have hcase : k = 0 ∨ k = 1 ∨ k = 2 := by omega
      rcases hcase with rfl | rfl | rfl
      · have hc : wr.cell? ⟨B0, 0, none⟩ = some (.int .i64 n) := (hBr.cell (p := ⟨B0, 0, none⟩) hsz).trans C0.out
        go_wp2_with fail
        refine (HP1.out _).mono ?_
        rintro e w3 ⟨rfl, hB3⟩
        go_wp2_with fail
        refine (HP2.out _).mono ?_
        rintro e w4 ⟨rfl, hB4⟩
        go_wp2
        go_roundw
        case rel => exact ⟨1, by omega, rfl, (hBr.trans (hB3.mono hBr.size)).trans (hB4.mono (Nat.le_trans hBr.size hB3.size))⟩
        case measure => simp [intOf]
      · have hc : wr.cell? ⟨B0, 1, none⟩ = some (.int .i64 (numF n)) := (hBr.cell (p := ⟨B0, 1, none⟩) hsz).trans C1.out
        go_wp2_with fail
        refine (HQ1.out _).mono ?_
        rintro e w3 ⟨rfl, hB3⟩
        go_wp2_with fail
        refine (HQ2.out _).mono ?_
        rintro e w4 ⟨rfl, hB4⟩
        go_wp2
        go_roundw
        case rel => exact ⟨2, by omega, rfl, (hBr.trans (hB3.mono hBr.size)).trans (hB4.mono (Nat.le_trans hBr.size hB3.size))⟩
        case measure => simp [intOf]
      · have hpk := pickI_bd a ((F.size : Int) + 2) (by omega)
        have HT1 := Lib.hid (HT.out.below ((hBW.trans (hBr.mono hBW.size))) hn)
        have hBX : Below w.heap.size w wr := hBW.trans (hBr.mono hBW.size)
        go_wp2_with fail
        refine (pick_any a _ _ a1 a2 (by omega) (by omega)).mono ?_
        rintro e w' ⟨rfl, rfl⟩
        obtain ⟨pk, hpkk⟩ : ∃ pk, pickI a ((F.size : Int) + 2) = pk := ⟨_, rfl⟩
        rw [hpkk] at hpk ⊢
        clear hpkk
        obtain ⟨ia, ib, ic, hI1, hI2⟩ := int_both F a hF
        obtain ⟨ja, jb, jc, hJ1, hJ2⟩ := int_both F pk hF
        obtain ⟨sa, sb, sc, hS1, hS2⟩ := string_both F a hF
        obtain ⟨ta, tb, tc, hT1, hT2⟩ := string_both F pk hF
        obtain ⟨ua, ub, hU1, hU2⟩ := putString_both F hF
        have HI1 := Lib.hid hI1
        have HI2 := Lib.hid hI2
        have HJ1 := Lib.hid hJ1
        have HJ2 := Lib.hid hJ2
        have HS1 := Lib.hid hS1
        have HS2 := Lib.hid hS2
        have HTT1 := Lib.hid hT1
        have HTT2 := Lib.hid hT2
        have HU1 := Lib.hid hU1
        have HU2 := Lib.hid hU2
        clear hI1 hI2 hJ1 hJ2 hS1 hS2 hT1 hT2 hU1 hU2
        go_wp2_with fail
        have c0 : (wr.alloc (.cells #[.int .i64 a, .int .i64 pk] 3)).cell? ⟨wr.heap.size, 0, none⟩ = some (.int .i64 a) := by simp
        have c1 : (wr.alloc (.cells #[.int .i64 a, .int .i64 pk] 3)).cell? ⟨wr.heap.size, 1, none⟩ = some (.int .i64 pk) := by simp
        have hBW2 : Below w.heap.size w (wr.alloc (.cells #[.int .i64 a, .int .i64 pk] 3)) := hBX.alloc hBX.size _
        have hsz2 : wr.heap.size < (wr.alloc (.cells #[.int .i64 a, .int .i64 pk] 3)).heap.size := by simp
        generalize (wr.alloc (.cells #[.int .i64 a, .int .i64 pk] 3)) = W2 at *
        obtain ⟨B2, hB2'⟩ : ∃ B2, wr.heap.size = B2 := ⟨_, rfl⟩
        rw [hB2'] at c0 c1 hsz2 ⊢
        clear hB2'
        have D0 := Lib.hid c0
        have D1 := Lib.hid c1
        clear c0 c1
        obtain ⟨wq, rfl⟩ : ∃ wq : World, wr = wq := ⟨_, rfl⟩
        go_loopw [75] (fun i wv => ∃ k : Nat, k ≤ 2 ∧ i = .int .i64 k ∧ Below W2.heap.size W2 wv) (fun i _ => 2 - (intOf i).toNat)
        case atStart => exact ⟨0, by omega, rfl, Below.refl _ _⟩
        case round =>
          obtain ⟨k, hk, rfl, hBv⟩ := hrel
          have hcase : k = 0 ∨ k = 1 ∨ k = 2 := by omega
          rcases hcase with rfl | rfl | rfl
          · have hc : wr.cell? ⟨B2, 0, none⟩ = some (.int .i64 a) := (hBv.cell (p := ⟨B2, 0, none⟩) hsz2).trans D0.out
            go_wp2_with fail
            refine (HI1.out _).mono ?_
            rintro e w' ⟨rfl, rfl⟩
            go_wp2_with fail
            refine (HI2.out _).mono ?_
            rintro e w3 ⟨rfl, hB3⟩
            go_wp2_with fail
            refine (HS1.out _).mono ?_
            rintro e w' ⟨rfl, rfl⟩
            go_wp2_with fail
            refine (HS2.out _).mono ?_
            rintro e w4 ⟨rfl, hB4⟩
            go_wp2
            go_roundw
            case rel => exact ⟨1, by omega, rfl, (hBv.trans (hB3.mono hBv.size)).trans (hB4.mono (Nat.le_trans hBv.size hB3.size))⟩
            case measure => simp [intOf]
          · have hc : wr.cell? ⟨B2, 1, none⟩ = some (.int .i64 pk) := (hBv.cell (p := ⟨B2, 1, none⟩) hsz2).trans D1.out
            go_wp2_with fail
            refine (HJ1.out _).mono ?_
            rintro e w' ⟨rfl, rfl⟩
            go_wp2_with fail
            refine (HJ2.out _).mono ?_
            rintro e w3 ⟨rfl, hB3⟩
            go_wp2_with fail
            refine (HTT1.out _).mono ?_
            rintro e w' ⟨rfl, rfl⟩
            go_wp2_with fail
            refine (HTT2.out _).mono ?_
            rintro e w4 ⟨rfl, hB4⟩
            go_wp2
            go_roundw
            case rel => exact ⟨2, by omega, rfl, (hBv.trans (hB3.mono hBv.size)).trans (hB4.mono (Nat.le_trans hBv.size hB3.size))⟩
            case measure => simp [intOf]
          · have hBY : Below w.heap.size w wr := hBW2.trans (hBv.mono hBW2.size)
            go_wp2_with fail
            refine (HU1.out _).mono ?_
            rintro e w5 ⟨rfl, hB5⟩
            go_wp2_with fail
            refine (HU2.out _).mono ?_
            rintro e w6 ⟨rfl, hB6⟩
            have hBZ : Below w.heap.size w w6 := (hBY.trans (hB5.mono hBY.size)).trans (hB6.mono (Nat.le_trans hBY.size hB5.size))
            have HT6 := Lib.hid (HT.out.below hBZ hn)
            go_wp2_with fail
            refine (sum_any F _ hF HT6.out).mono ?_
            rintro e w' ⟨rfl, rfl⟩
            go_wp2_with fail
            refine (refSum_any F _ hF).mono ?_
            rintro e w' ⟨rfl, rfl⟩
            go_wp2
            go_ret
            exact ⟨rfl, hBZ⟩
end Go.Proofs.YteokkedaipbhlaaDoor
