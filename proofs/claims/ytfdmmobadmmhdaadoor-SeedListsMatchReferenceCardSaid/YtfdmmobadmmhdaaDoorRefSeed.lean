/- The reference of chapter 6: named, Raw, Reduce, Draw. Condition: a string no longer than a string may be. -/
import Derived.Test.YtfdmmobadmmhdaaDoorRefSum
import Derived.Test.YtfdmmobadmmhdaaDoorLaw06Drawn
namespace Go.Proofs.YtfdmmobadmmhdaaDoor
open Go Go.RowKit
theorem ref_named_any (s : ByteArray) (i : Int) (w : World) :
    Calls Tryd.prog 31 #[.string s, .int .i64 i] w fun e w' => e = .returned (.bool (decide (Named s i))) ∧ w = w' := by
  by_cases h1 : 1 ≤ (s.size : Int)
  · by_cases h2 : (s.size : Int) ≤ 40
    · by_cases h3 : 0 ≤ i
      · by_cases h4 : i ≤ 4611686018427387903
        · have hn : Hid (decide (Named s i) = true) := Lib.hid (decide_eq_true ⟨by omega, by omega, h3, h4⟩)
          go_enter Tryd.func31, Tryd.ntmps31
          go_wp2
          go_ret
          exact ⟨by rw [hn.out]; rfl, rfl⟩
        · have hn : Hid (decide (Named s i) = false) := Lib.hid (decide_eq_false (fun h => h4 h.2.2.2))
          go_enter Tryd.func31, Tryd.ntmps31
          go_wp2
          go_ret
          exact ⟨by rw [hn.out]; rfl, rfl⟩
      · have hn : Hid (decide (Named s i) = false) := Lib.hid (decide_eq_false (fun h => h3 h.2.2.1))
        go_enter Tryd.func31, Tryd.ntmps31
        go_wp2
        go_ret
        exact ⟨by rw [hn.out]; rfl, rfl⟩
    · have hn : Hid (decide (Named s i) = false) := Lib.hid (decide_eq_false (fun h => h2 (by have := h.2.1; omega)))
      go_enter Tryd.func31, Tryd.ntmps31
      go_wp2
      go_ret
      exact ⟨by rw [hn.out]; rfl, rfl⟩
  · have hn : Hid (decide (Named s i) = false) := Lib.hid (decide_eq_false (fun h => h1 (by have := h.1; omega)))
    go_enter Tryd.func31, Tryd.ntmps31
    go_wp2
    go_ret
    exact ⟨by rw [hn.out]; rfl, rfl⟩
theorem ref_reduce_any (raw below : Int) (w : World) :
    Calls Tryd.prog 16 #[.int .i64 raw, .int .i64 below] w fun e w' => e = .returned (.tuple #[.int .i64 (reduceF raw below), .bool (reduceB raw below)]) ∧ w = w' := by
  by_cases h1 : 1 ≤ below
  · by_cases h2 : below ≤ 4611686018427387903
    · by_cases h3 : 0 ≤ raw
      · obtain ⟨hl, _, _, hl3, _⟩ := lim_facts below h1 h2
        have hlim : lim below = 4611686018427387904 / below * below := rfl
        have hb0 : ¬ below = 0 := by omega
        have hq0 : 0 ≤ 4611686018427387904 / below := Int.ediv_nonneg (by decide) (by omega)
        have hq1 : 4611686018427387904 / below ≤ 4611686018427387904 := Int.ediv_le_self _ (by decide)
        have t0 : (4611686018427387904 : Int).tdiv below = 4611686018427387904 / below := Int.tdiv_eq_ediv_of_nonneg (by decide)
        have t2 : raw.tmod below = raw % below := Int.tmod_eq_emod_of_nonneg h3
        have HT : Hid (Takes raw below ↔ raw < lim below) := Lib.hid (by rw [hl]; exact ⟨fun h => h.2.2, fun h => ⟨⟨h1, h2⟩, h3, h⟩⟩)
        obtain ⟨d, hd⟩ : ∃ d, 4611686018427387904 / below = d := ⟨_, rfl⟩
        rw [hd] at hlim hq0 hq1 t0
        have g0 : IntKind.i64.wrap d = d := IntWalk.i64_in _ (by omega)
        have hlw : -9223372036854775808 ≤ lim below ∧ lim below ≤ 9223372036854775807 := by
          have := (lim_facts below h1 h2).2.2.1
          omega
        have g1 : IntKind.i64.wrap (d * below) = lim below := by rw [← hlim]; exact IntWalk.i64_in _ hlw
        obtain ⟨L, hL⟩ : ∃ L, lim below = L := ⟨_, rfl⟩
        rw [hL] at HT g1
        obtain ⟨q, hq⟩ : ∃ q, raw % below = q := ⟨_, rfl⟩
        have hqb := Int.emod_nonneg raw hb0
        have hqc := Int.emod_lt_of_pos raw (show 0 < below by omega)
        rw [hq] at t2 hqb hqc
        have g2 : IntKind.i64.wrap q = q := IntWalk.i64_in _ (by omega)
        have HQ := Lib.hid hq
        have n1 : ¬ below < 1 := by omega
        have n2 : ¬ (4611686018427387903 : Int) < below := by omega
        have n3 : ¬ raw < 0 := by omega
        clear hl hl3 hlim hd hL hlw hq hq0 hq1
        by_cases h4 : raw < L
        · have n4 : ¬ L ≤ raw := by omega
          have HY : Hid (Takes raw below) := Lib.hid (HT.out.2 h4)
          go_enter Tryd.func16, Tryd.ntmps16
          go_wp2
          go_ret2
          exact ⟨by rw [show reduceF raw below = q from (if_pos HY.out).trans HQ.out, show reduceB raw below = true from decide_eq_true HY.out]; rfl, rfl⟩
        · have n4 : L ≤ raw := by omega
          have HY : Hid (¬ Takes raw below) := Lib.hid (fun h => h4 (HT.out.1 h))
          go_enter Tryd.func16, Tryd.ntmps16
          go_wp2
          go_ret2
          exact ⟨by rw [show reduceF raw below = 0 from if_neg HY.out, show reduceB raw below = false from decide_eq_false HY.out]; rfl, rfl⟩
      · have HT : Hid (¬ Takes raw below) := Lib.hid (fun h => h3 h.2.1)
        have n1 : ¬ below < 1 := by omega
        have n2 : ¬ (4611686018427387903 : Int) < below := by omega
        have n3 : raw < 0 := by omega
        go_enter Tryd.func16, Tryd.ntmps16
        go_wp2
        go_ret2
        exact ⟨by rw [show reduceF raw below = 0 from if_neg HT.out, show reduceB raw below = false from decide_eq_false HT.out]; rfl, rfl⟩
    · have HT : Hid (¬ Takes raw below) := Lib.hid (fun h => h2 h.1.2)
      have n1 : ¬ below < 1 := by omega
      have n2 : (4611686018427387903 : Int) < below := by omega
      go_enter Tryd.func16, Tryd.ntmps16
      go_wp2
      go_ret2
      exact ⟨by rw [show reduceF raw below = 0 from if_neg HT.out, show reduceB raw below = false from decide_eq_false HT.out]; rfl, rfl⟩
  · have HT : Hid (¬ Takes raw below) := Lib.hid (fun h => h1 h.1.1)
    have n1 : below < 1 := by omega
    go_enter Tryd.func16, Tryd.ntmps16
    go_wp2
    go_ret2
    exact ⟨by rw [show reduceF raw below = 0 from if_neg HT.out, show reduceB raw below = false from decide_eq_false HT.out]; rfl, rfl⟩
theorem getD_at (D : ByteArray) (k : Nat) (h : k < D.size) : (D.data.toList.getD k 0) = D[k]'h := by
  have h' : k < D.data.size := h
  simp [List.getD_eq_getElem?_getD]
  rw [Array.getElem?_eq_getElem h']
  rfl
theorem be_step (D : ByteArray) (k : Nat) (h : k < D.size) (hk : k < 7) :
    IntKind.i64.wrap (IntKind.i64.wrap (256 * (be D.data.toList k : Int)) + IntKind.i64.wrap ((D[k]'h).toNat : Int)) = (be D.data.toList (k + 1) : Int) := by
  have hb := UInt8.toNat_lt (D[k]'h)
  have e : be D.data.toList (k + 1) = be D.data.toList k * 256 + (D[k]'h).toNat := by
    show be D.data.toList k * 256 + (D.data.toList.getD k 0).toNat = _
    rw [getD_at D k h]
  have hl := be_lt D.data.toList k
  have hl2 : be D.data.toList k < 281474976710656 := Nat.lt_of_lt_of_le hl (by rw [show (281474976710656 : Nat) = 256 ^ 6 by decide]; exact Nat.pow_le_pow_right (by decide) (by omega))
  obtain ⟨n, hn⟩ : ∃ n, be D.data.toList k = n := ⟨_, rfl⟩
  obtain ⟨b, hbb⟩ : ∃ b, (D[k]'h).toNat = b := ⟨_, rfl⟩
  rw [e, hn, hbb]
  rw [hn] at hl2
  rw [hbb] at hb
  rw [IntWalk.i64_in (b : Int) (by omega), IntWalk.i64_in (256 * (n : Int)) (by omega), IntWalk.i64_in _ (by omega)]
  omega
theorem be_last (D : ByteArray) (h : 7 < D.size) :
    IntKind.i64.wrap (IntKind.i64.wrap (64 * (be D.data.toList 7 : Int)) + IntKind.i64.wrap (Int.tdiv (IntKind.i64.wrap ((D[7]'h).toNat : Int)) 4)) = ((be D.data.toList 8 / 4 : Nat) : Int) := by
  have hb := UInt8.toNat_lt (D[7]'h)
  have e : be D.data.toList 8 = be D.data.toList 7 * 256 + (D[7]'h).toNat := by
    show be D.data.toList 7 * 256 + (D.data.toList.getD 7 0).toNat = _
    rw [getD_at D 7 h]
  have hl2 : be D.data.toList 7 < 72057594037927936 := be_lt D.data.toList 7
  obtain ⟨n, hn⟩ : ∃ n, be D.data.toList 7 = n := ⟨_, rfl⟩
  obtain ⟨b, hbb⟩ : ∃ b, (D[7]'h).toNat = b := ⟨_, rfl⟩
  rw [e, hn, hbb]
  rw [hn] at hl2
  rw [hbb] at hb
  rw [IntWalk.i64_in (b : Int) (by omega), Int.tdiv_eq_ediv_of_nonneg (by omega), IntWalk.i64_in ((b : Int) / 4) (by omega), IntWalk.i64_in (64 * (n : Int)) (by omega), IntWalk.i64_in _ (by omega)]
  omega
set_option maxRecDepth 100000 in
set_option maxHeartbeats 4000000 in
theorem ref_raw_any (s : ByteArray) (i j : Int) (w : World) :
    Calls Tryd.prog 14 #[.string s, .int .i64 i, .int .i64 j] w fun e w' => e = .returned (.tuple #[.int .i64 (rawV s i j), .int .i64 (rawE s i j)]) ∧ Below w.heap.size w w' := by
  have HN := Lib.hid (ref_named_any s i)
  by_cases hn : Named s i
  · by_cases hj : 0 ≤ j
    · by_cases hj2 : j < 64
      · have HOK : Hid (RawOk s i j) := Lib.hid ⟨hn, hj, hj2⟩
        have HSZ : Hid (s.size ≤ 40) := Lib.hid hn.2.1
        have HI : Hid (0 ≤ i ∧ i ≤ 4611686018427387903) := Lib.hid hn.2.2
        have hd : decide (Named s i) = true := decide_eq_true hn
        rw [hd] at HN
        clear hn hd
        have hps : putS s = .tuple #[.string (accS s i j 0), .int .i64 0] := if_neg (by have := HSZ.out; omega)
        have HPS := Lib.hid (fun W => refPutString_any s W (by have := HSZ.out; unfold maxLen; omega))
        rw [hps] at HPS
        have HPI := Lib.hid (fun W => refPutInt_ok i (by have := HI.out; omega) (by have := HI.out; omega) W)
        have HPJ := Lib.hid (fun W => refPutInt_ok j (by omega) (by omega) W)
        obtain ⟨A, hA⟩ : ∃ A, accS s i j 0 = A := ⟨_, rfl⟩
        obtain ⟨B, hB⟩ : ∃ B : ByteArray, (⟨(vbytes (zig i)).toArray⟩ : ByteArray) = B := ⟨_, rfl⟩
        obtain ⟨C, hC⟩ : ∃ C : ByteArray, (⟨(vbytes (zig j)).toArray⟩ : ByteArray) = C := ⟨_, rfl⟩
        have hsa : A.size ≤ 1000 := by rw [← hA]; exact accS_size s i j HSZ.out 0
        have hsb : B.size ≤ 10 := by rw [← hB]; exact vbytes_le _
        have hsc : C.size ≤ 10 := by rw [← hC]; exact vbytes_le _
        have HBY : Hid ((A ++ B ++ C).data.toList = rawBytes s i j) := Lib.hid (by rw [← hA, ← hB, ← hC]; exact accS_bytes s i j)
        rw [hA] at HPS
        rw [hB] at HPI
        rw [hC] at HPJ
        clear hps hA hB hC
        go_enter Tryd.func14, Tryd.ntmps14
        go_wp2_with fail
        refine (HN.out _).mono ?_
        rintro e w1 ⟨rfl, rfl⟩
        go_wp2_with fail
        refine (HPS.out _).mono ?_
        rintro e w2 ⟨rfl, hb2⟩
        have HB2 := Lib.hid hb2
        clear hb2
        go_wp2_with fail
        refine (HPI.out _).mono ?_
        rintro e w3 ⟨rfl, hb3⟩
        have HB3 := Lib.hid (HB2.out.trans (hb3.mono HB2.out.size))
        clear hb3 HB2
        go_wp2_with fail
        refine (HPJ.out _).mono ?_
        rintro e w4 ⟨rfl, hb4⟩
        have HB4 := Lib.hid (HB3.out.trans (hb4.mono HB3.out.size))
        clear hb4 HB3
        go_wp2_with fail
        refine (ref_sum_any _ _ (by rw [ByteArray.size_append, ByteArray.size_append]; omega)).mono ?_
        rintro e w5 ⟨⟨D, rfl, hD⟩, hb5⟩
        have hDs : D.size = 32 := by rw [size_of_list, hD]; exact sha_length _
        have HB5 := Lib.hid (HB4.out.trans (hb5.mono HB4.out.size))
        have HRN : Hid (rawN s i j = be D.data.toList 8 / 4) := Lib.hid (by unfold rawN; rw [hD, HBY.out])
        clear hD hb5 HB4
        go_wp2_with fail
        go_loopw [15, 16] (fun v15 v16 wr => ∃ k : Nat, k ≤ 7 ∧ v16 = .int .i64 (k : Nat) ∧ v15 = .int .i64 (be D.data.toList k : Nat) ∧ w5 = wr) (fun _ v16 _ => 7 - (intOf v16).toNat)
        case atStart => exact ⟨0, by omega, rfl, rfl, rfl⟩
        case round =>
          obtain ⟨k, hk, rfl, rfl, rfl⟩ := hrel
          by_cases hlt : k < 7
          · have m0 : (0 : Int) ≤ (k : Int) := by omega
            have m1 : (k : Int) < 32 := by omega
            have m2 : (k : Int) < 7 := by omega
            have HST := Lib.hid (be_step D k (by omega) hlt)
            go_wp2_with fail
            exact ⟨⟨k + 1, by omega, by go_num, congrArg (Value.int .i64) (by have h := HST.out; simp only [IntWalk.i64_left] at h; exact h), trivial⟩, by simp [intOf]; omega⟩
          · obtain rfl : k = 7 := by omega
            have m1 : (7 : Int) < (D.size : Int) := by omega
            have HST := Lib.hid (be_last D (by omega))
            go_wp2_with fail
            go_ret2
            refine ⟨?_, HB5.out⟩
            have h := HST.out
            simp only [IntWalk.i64_left] at h
            rw [show rawV s i j = (rawN s i j : Int) from if_pos HOK.out, show rawE s i j = 0 from if_pos HOK.out, HRN.out, ← h]
            rfl
      · have HOK : Hid (¬ RawOk s i j) := Lib.hid (fun h => hj2 h.2.2)
        have hd : decide (Named s i) = true := decide_eq_true hn
        rw [hd] at HN
        clear hn hd
        go_enter Tryd.func14, Tryd.ntmps14
        go_wp2_with fail
        refine (HN.out _).mono ?_
        rintro e w1 ⟨rfl, rfl⟩
        go_wp2
        go_ret2
        exact ⟨by rw [show rawV s i j = 0 from if_neg HOK.out, show rawE s i j = 60 from if_neg HOK.out]; rfl, Below.refl _ _⟩
    · have HOK : Hid (¬ RawOk s i j) := Lib.hid (fun h => hj h.2.1)
      have hd : decide (Named s i) = true := decide_eq_true hn
      rw [hd] at HN
      clear hn hd
      go_enter Tryd.func14, Tryd.ntmps14
      go_wp2_with fail
      refine (HN.out _).mono ?_
      rintro e w1 ⟨rfl, rfl⟩
      go_wp2
      go_ret2
      exact ⟨by rw [show rawV s i j = 0 from if_neg HOK.out, show rawE s i j = 60 from if_neg HOK.out]; rfl, Below.refl _ _⟩
  · have HOK : Hid (¬ RawOk s i j) := Lib.hid (fun h => hn h.1)
    have hd : decide (Named s i) = false := decide_eq_false hn
    rw [hd] at HN
    clear hn hd
    go_enter Tryd.func14, Tryd.ntmps14
    go_wp2_with fail
    refine (HN.out _).mono ?_
    rintro e w1 ⟨rfl, rfl⟩
    go_wp2
    go_ret2
    exact ⟨by rw [show rawV s i j = 0 from if_neg HOK.out, show rawE s i j = 60 from if_neg HOK.out]; rfl, Below.refl _ _⟩
set_option maxRecDepth 100000 in
set_option maxHeartbeats 4000000 in
theorem ref_draw_any (s : ByteArray) (i below : Int) (w : World) :
    Calls Tryd.prog 18 #[.string s, .int .i64 i, .int .i64 below] w fun e w' => e = .returned (.tuple #[.int .i64 (drawV s i below), .int .i64 (drawE s i below)]) ∧ Below w.heap.size w w' := by
  go_enter Tryd.func18, Tryd.ntmps18
  go_wp2_with fail
  go_loopw [8] (fun v5 wr => ∃ j : Nat, j ≤ 64 ∧ v5 = .int .i64 (j : Nat) ∧ Hid (Named s i → ∀ j', j' < j → reduceB (rawN s i (j' : Int) : Nat) below = false) ∧ Below w.heap.size w wr) (fun v5 _ => 64 - (intOf v5).toNat)
  case atStart => exact ⟨0, by omega, rfl, Lib.hid (fun _ j' h => by omega), Below.refl _ _⟩
  case round =>
    obtain ⟨j, hj, rfl, hall, hb⟩ := hrel
    by_cases hlt : j < 64
    · have l0 : (0 : Int) ≤ (j : Int) := by omega
      have l1 : (j : Int) < 64 := by omega
      have HR := Lib.hid (ref_raw_any s i (j : Int) wr)
      have HBW := Lib.hid hb
      clear hb
      by_cases hn : Named s i
      · have hok : RawOk s i (j : Int) := ⟨hn, l0, l1⟩
        rw [show rawV s i (j : Int) = (rawN s i (j : Int) : Int) from if_pos hok, show rawE s i (j : Int) = 0 from if_pos hok] at HR
        have HNM := Lib.hid hn
        obtain ⟨rn, hrn⟩ : ∃ r, rawN s i (j : Int) = r := ⟨_, rfl⟩
        have HRD := Lib.hid (fun W => ref_reduce_any (rn : Int) below W)
        rw [hrn] at HR
        have HRN := Lib.hid hrn
        clear hn hok hrn
        cases hac : reduceB (rn : Int) below with
        | true =>
          have hdo : drawO s i below = some (reduceF (rn : Int) below) := by
            unfold drawO
            rw [if_pos HNM.out]
            have h := drawAt_some (s := s) (i := i) (below := below) (n := j) (by rw [HRN.out]; exact hac) 64 0 (by omega) (by omega) (fun k _ h => hall.out HNM.out k h)
            rwa [HRN.out] at h
          obtain ⟨fv, hfv⟩ : ∃ f, reduceF (rn : Int) below = f := ⟨_, rfl⟩
          rw [hfv] at hdo HRD
          rw [hac] at HRD
          have HV : Hid (drawV s i below = fv ∧ drawE s i below = 0) := Lib.hid ⟨by rw [drawV, hdo]; rfl, by rw [drawE, hdo]; rfl⟩
          clear hdo hfv hac
          go_wp2_with fail
          refine HR.out.mono ?_
          rintro e w2 ⟨rfl, hb2⟩
          have HB2 := Lib.hid (HBW.out.trans (hb2.mono HBW.out.size))
          clear hb2
          go_wp2_with fail
          refine (HRD.out _).mono ?_
          rintro e w3 ⟨rfl, rfl⟩
          go_wp2_with fail
          go_ret2
          exact ⟨by rw [HV.out.1, HV.out.2]; rfl, HB2.out⟩
        | false =>
          have HALL : Hid (Named s i → ∀ j', j' < j + 1 → reduceB (rawN s i (j' : Int) : Nat) below = false) := Lib.hid (fun hn j' h => by
            by_cases e : j' = j
            · rw [e, HRN.out]; exact hac
            · exact hall.out hn j' (by omega))
          obtain ⟨fv, hfv⟩ : ∃ f, reduceF (rn : Int) below = f := ⟨_, rfl⟩
          rw [hfv, hac] at HRD
          clear hac hfv
          go_wp2_with fail
          refine HR.out.mono ?_
          rintro e w2 ⟨rfl, hb2⟩
          have HB2 := Lib.hid (HBW.out.trans (hb2.mono HBW.out.size))
          clear hb2
          go_wp2_with fail
          refine (HRD.out _).mono ?_
          rintro e w3 ⟨rfl, rfl⟩
          go_wp2_with fail
          exact ⟨⟨j + 1, by omega, by go_num, HALL, HB2.out⟩, by simp [intOf]; omega⟩
      · have hok : ¬ RawOk s i (j : Int) := fun h => hn h.1
        rw [show rawV s i (j : Int) = 0 from if_neg hok, show rawE s i (j : Int) = 60 from if_neg hok] at HR
        have hno : drawO s i below = none := if_neg hn
        have HV : Hid (drawV s i below = 0 ∧ drawE s i below = 60) := Lib.hid ⟨by rw [drawV, hno]; rfl, by rw [drawE, hno]; rfl⟩
        clear hn hok hno
        go_wp2_with fail
        refine HR.out.mono ?_
        rintro e w2 ⟨rfl, hb2⟩
        have HB2 := Lib.hid (HBW.out.trans (hb2.mono HBW.out.size))
        clear hb2
        go_wp2_with fail
        go_ret2
        exact ⟨by rw [HV.out.1, HV.out.2]; rfl, HB2.out⟩
    · obtain rfl : j = 64 := by omega
      have hno : drawO s i below = none := by
        unfold drawO
        split
        · next hn => exact drawAt_none 64 0 fun k _ h => hall.out hn k (by omega)
        · rfl
      have HV : Hid (drawV s i below = 0 ∧ drawE s i below = 60) := Lib.hid ⟨by rw [drawV, hno]; rfl, by rw [drawE, hno]; rfl⟩
      clear hno
      go_wp2
      go_ret2
      exact ⟨by rw [HV.out.1, HV.out.2]; rfl, hb⟩
end Go.Proofs.YtfdmmobadmmhdaaDoor
