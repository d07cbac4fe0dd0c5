/- The law of chapter 6: SeedDrawn returns true. Conditions: integers in range; the table holds its words. -/
import Derived.Test.YtfdmmobadmmhdaaDoorLaw06Fair
namespace Go.Proofs.YtfdmmobadmmhdaaDoor
open Go Go.RowKit
def nameS (s : ByteArray) : ByteArray := if s.size = 0 then xs else if s.size ≤ 40 then s else s.extract 0 40
theorem nameS_size (s : ByteArray) : 1 ≤ (nameS s).size ∧ (nameS s).size ≤ 40 := by
  unfold nameS
  split
  · exact ⟨by decide, by decide⟩
  · split
    · exact ⟨by omega, by assumption⟩
    · simp; omega
set_option maxHeartbeats 1000000 in
theorem name_any (s : ByteArray) (w : World) :
    Calls Tryd.prog 12 #[.string s] w fun e w' => e = .returned (.string (nameS s)) ∧ w = w' := by
  by_cases h0 : s = ⟨#[]⟩
  · have hn : Hid (nameS s = xs) := Lib.hid (by unfold nameS; rw [if_pos (by rw [h0]; rfl)])
    subst h0
    go_enter Tryd.func12, Tryd.ntmps12
    go_wp2
    go_ret
    exact ⟨by rw [hn.out]; rfl, rfl⟩
  · have he : s.toList.isEmpty = false := by rw [← decide_eq_emptyBytes]; exact decide_eq_false (fun h => h0 h)
    have h1 : 1 ≤ s.size := by
      rcases Nat.eq_zero_or_pos s.size with h | h
      · exact absurd (by cases s with | mk d => simp [ByteArray.size] at h; simp [h]) h0
      · exact h
    by_cases h2 : (s.size : Int) ≤ 40
    · have hn : Hid (nameS s = s) := Lib.hid (by unfold nameS; rw [if_neg (by omega), if_pos (by omega)])
      go_enter Tryd.func12, Tryd.ntmps12
      go_wp2
      go_ret
      exact ⟨by rw [hn.out]; rfl, rfl⟩
    · have hn : Hid (nameS s = s.extract 0 40) := Lib.hid (by unfold nameS; rw [if_neg (by omega), if_neg (by omega)])
      have h3 : (40 : Int) < (s.size : Int) := by omega
      go_enter Tryd.func12, Tryd.ntmps12
      go_wp2
      go_ret
      exact ⟨by rw [hn.out]; rfl, rfl⟩
/-- The first t bits of a digest. -/
def wantN (d : List UInt8) : Nat → Nat
  | 0 => 0
  | t + 1 => 2 * wantN d t + (d.getD (t / 8) 0).toNat / 2 ^ (7 - t % 8) % 2
theorem want_next (N t : Nat) (ht : t < 64) : N / 2 ^ (64 - (t + 1)) = 2 * (N / 2 ^ (64 - t)) + N / 2 ^ (63 - t) % 2 := by
  rw [show 64 - t = (63 - t) + 1 by omega, show 64 - (t + 1) = 63 - t by omega, Nat.pow_succ, ← Nat.div_div_eq_div_mul]
  omega
theorem be_top (d : List UInt8) (q : Nat) (hq : q < 8) : be d 8 / 256 ^ (7 - q) = be d (q + 1) := by
  have h (k : Nat) : (d.getD k 0).toNat < 256 := UInt8.toNat_lt _
  have h0 := h 0
  have h1 := h 1
  have h2 := h 2
  have h3 := h 3
  have h4 := h 4
  have h5 := h 5
  have h6 := h 6
  have h7 := h 7
  rcases (show q = 0 ∨ q = 1 ∨ q = 2 ∨ q = 3 ∨ q = 4 ∨ q = 5 ∨ q = 6 ∨ q = 7 by omega) with rfl | rfl | rfl | rfl | rfl | rfl | rfl | rfl <;> simp only [be, Nat.reducePow, Nat.reduceSub] <;> omega
theorem bit_low (a b r : Nat) (hr : r < 8) : (a * 256 + b) / 2 ^ (7 - r) % 2 = b / 2 ^ (7 - r) % 2 := by
  rcases (show r = 0 ∨ r = 1 ∨ r = 2 ∨ r = 3 ∨ r = 4 ∨ r = 5 ∨ r = 6 ∨ r = 7 by omega) with rfl | rfl | rfl | rfl | rfl | rfl | rfl | rfl <;> simp only [Nat.reducePow, Nat.reduceSub] <;> omega
theorem be_bit (d : List UInt8) (t : Nat) (ht : t < 64) : be d 8 / 2 ^ (63 - t) % 2 = (d.getD (t / 8) 0).toNat / 2 ^ (7 - t % 8) % 2 := by
  have h1 : 2 ^ (63 - t) = 256 ^ (7 - t / 8) * 2 ^ (7 - t % 8) := by
    rw [show (256 : Nat) = 2 ^ 8 from rfl, ← Nat.pow_mul, ← Nat.pow_add]
    congr 1
    omega
  rw [h1, ← Nat.div_div_eq_div_mul, be_top d (t / 8) (by omega)]
  exact bit_low _ _ _ (by omega)
theorem want_be (d : List UInt8) : ∀ t, t ≤ 64 → wantN d t = be d 8 / 2 ^ (64 - t)
  | 0, _ => by
    have := be_lt d 8
    have h : (256 : Nat) ^ 8 = 2 ^ 64 := by decide
    rw [h] at this
    exact (Nat.div_eq_of_lt this).symm
  | t + 1, ht => by
    rw [want_next _ t (by omega), ← want_be d t (by omega), be_bit d t (by omega)]
    rfl
theorem want_lt (d : List UInt8) (t : Nat) (ht : t ≤ 64) : wantN d t < 2 ^ t := by
  rw [want_be d t ht]
  have := be_lt d 8
  have h : (256 : Nat) ^ 8 = 2 ^ 64 := by decide
  rw [h, show 64 = t + (64 - t) by omega, Nat.pow_add] at this
  exact Nat.div_lt_of_lt_mul (by rw [Nat.mul_comm]; simpa [show t + (64 - t) - t = 64 - t by omega] using this)
theorem want_step (D : ByteArray) (k q r : Nat) (hq : k / 8 = q) (hr : k % 8 = r) (hk : k < 62) (h : q < D.size) (hl : wantN D.data.toList k < 2 ^ k) :
    IntKind.i64.wrap (IntKind.i64.wrap (2 * (wantN D.data.toList k : Int)) + Int.tmod (IntKind.i64.wrap ((D[q]'h).toNat : Int) / 2 ^ (7 - r)) 2) = (wantN D.data.toList (k + 1) : Int) := by
  have hb := UInt8.toNat_lt (D[q]'h)
  have e : D.data.toList.getD q 0 = D[q]'h := by
    have h' : q < D.data.size := h
    simp [List.getD_eq_getElem?_getD]
    rw [Array.getElem?_eq_getElem h']
    rfl
  have hw : wantN D.data.toList (k + 1) = 2 * wantN D.data.toList k + (D[q]'h).toNat / 2 ^ (7 - r) % 2 := by
    show 2 * wantN D.data.toList k + (D.data.toList.getD (k / 8) 0).toNat / 2 ^ (7 - k % 8) % 2 = _
    rw [hq, hr, e]
  have hl2 : wantN D.data.toList k < 2305843009213693952 := Nat.lt_of_lt_of_le hl (by rw [show (2305843009213693952 : Nat) = 2 ^ 61 by decide]; exact Nat.pow_le_pow_right (by decide) (by omega))
  obtain ⟨n, hn⟩ : ∃ n, wantN D.data.toList k = n := ⟨_, rfl⟩
  obtain ⟨b, hbb⟩ : ∃ b, (D[q]'h).toNat = b := ⟨_, rfl⟩
  rw [hw, hn, hbb]
  rw [hn] at hl2
  rw [hbb] at hb
  rw [IntWalk.i64_in (b : Int) (by omega), IntWalk.i64_in (2 * (n : Int)) (by omega)]
  have hd : (b : Int) / 2 ^ (7 - r) = ((b / 2 ^ (7 - r) : Nat) : Int) := by rw [Int.natCast_ediv, Int.natCast_pow]; rfl
  rw [hd]
  obtain ⟨c, hc⟩ : ∃ c, b / 2 ^ (7 - r) = c := ⟨_, rfl⟩
  rw [hc, Int.tmod_eq_emod_of_nonneg (by omega), IntWalk.i64_in _ (by omega)]
  omega
set_option maxHeartbeats 4000000 in
set_option maxRecDepth 100000 in
theorem drawn_any (s : ByteArray) (i bound : Int) (w : World) (r1 : -9223372036854775808 ≤ i ∧ i ≤ 9223372036854775807) (r2 : -9223372036854775808 ≤ bound ∧ bound ≤ 9223372036854775807) (hT : RoundOk w) :
    Calls Tryd.prog 6 #[.string s, .int .i64 i, .int .i64 bound] w fun e w' => e = .returned (.bool true) ∧ Below w.heap.size w w' := by
  have P0 := Lib.hid (fun W => pick_any i 4611686018427387903 W r1 (by decide) (by decide))
  have P1 := Lib.hid (fun W => pick_any bound 4611686018427387903 W r2 (by decide) (by decide))
  have NM := Lib.hid (name_any s)
  have hx := nameS_size s
  have q0 := pickF_range i 4611686018427387903 (by decide)
  have q1 := pickF_range bound 4611686018427387903 (by decide)
  obtain ⟨x, hxe⟩ : ∃ x, nameS s = x := ⟨_, rfl⟩
  rw [hxe] at NM hx
  obtain ⟨K, hK⟩ : ∃ p, pickF i 4611686018427387903 = p := ⟨_, rfl⟩
  obtain ⟨p1, hp1⟩ : ∃ p, pickF bound 4611686018427387903 = p := ⟨_, rfl⟩
  rw [hK] at P0 q0
  rw [hp1] at P1 q1
  obtain ⟨B, hB⟩ : ∃ B, 1 + p1 = B := ⟨_, rfl⟩
  have hB1 : 1 ≤ B := by omega
  have hB2 : B ≤ 4611686018427387903 := by omega
  have hNmd : Named x K := ⟨hx.1, hx.2, q0.1, by omega⟩
  have HNM := Lib.hid hNmd
  have HT := Lib.hid hT
  have HQ1 := Lib.hid q1
  obtain ⟨SA, hSA⟩ : ∃ SA : ByteArray, SA = ⟨(vbytes (zig x.size)).toArray⟩ ++ x := ⟨_, rfl⟩
  obtain ⟨SB, hSB⟩ : ∃ SB : ByteArray, SB = ⟨(vbytes (zig K)).toArray⟩ := ⟨_, rfl⟩
  have hps : putS x = .tuple #[.string SA, .int .i64 0] := by rw [hSA]; exact if_neg (by omega)
  have HPS := Lib.hid (fun W => putString_any x W (by unfold maxLen; omega))
  rw [hps] at HPS
  have HPK := Lib.hid (fun W => putInt_ok K (by omega) (by omega) W)
  rw [← hSB] at HPK
  have hsa : SA.size ≤ 60 := by
    rw [hSA, ByteArray.size_append]
    have := vbytes_le (zig x.size)
    have h2 : (⟨(vbytes (zig x.size)).toArray⟩ : ByteArray).size = (vbytes (zig x.size)).length := size_mk _
    omega
  have hsb : SB.size ≤ 10 := by rw [hSB]; exact vbytes_le _
  have HSA := Lib.hid hSA
  have HSB := Lib.hid hSB
  obtain ⟨dv, hdv⟩ : ∃ v, drawV x K B = v := ⟨_, rfl⟩
  obtain ⟨de, hde⟩ : ∃ v, drawE x K B = v := ⟨_, rfl⟩
  have HDV := Lib.hid hdv
  have HDE := Lib.hid hde
  have g0 : IntKind.i64.wrap (1 + p1) = B := by rw [hB]; exact IntWalk.i64_in _ (by omega)
  clear hT hxe hK hp1 hSA hSB hps hdv hde q1 hNmd r1 r2
  go_enter Tryd.func6, Tryd.ntmps6
  go_wp2_with fail
  refine (sane_any _ HT.out).mono ?_
  rintro e w1 ⟨rfl, hb1⟩
  have HB1 := Lib.hid hb1
  clear hb1
  go_wp2_with fail
  refine (NM.out _).mono ?_
  rintro e w' ⟨rfl, rfl⟩
  go_wp2_with fail
  refine (P0.out _).mono ?_
  rintro e w' ⟨rfl, rfl⟩
  go_wp2_with fail
  refine (P1.out _).mono ?_
  rintro e w' ⟨rfl, rfl⟩
  go_wp2_with fail
  have HD := Lib.hid (draw_any x K B w1 (HT.out.below HB1.out))
  rw [HDV.out, HDE.out] at HD
  refine HD.out.mono ?_
  rintro e w2 ⟨rfl, hb2⟩
  have HB2 := Lib.hid (HB1.out.trans (hb2.mono HB1.out.size))
  clear hb2 HD HB1
  go_wp2_with fail
  refine (HPS.out _).mono ?_
  rintro e w3 ⟨rfl, hb3⟩
  have HB3 := Lib.hid (HB2.out.trans (hb3.mono HB2.out.size))
  clear hb3 HB2
  go_wp2_with fail
  refine (HPK.out _).mono ?_
  rintro e w4 ⟨rfl, hb4⟩
  have HB4 := Lib.hid (HB3.out.trans (hb4.mono HB3.out.size))
  clear hb4 HB3
  go_wp2_with fail
  go_loopw [17] (fun v W => ∃ j : Nat, j ≤ 64 ∧ v = .int .i64 (j : Nat) ∧ Hid (∀ j', j' < j → reduceB (rawN x K (j' : Int) : Nat) B = false) ∧ Below w.heap.size w W) (fun v _ => 64 - (intZ v).toNat)
  case atStart => exact ⟨0, by omega, rfl, Lib.hid (fun j' h => by omega), HB4.out⟩
  case round =>
    obtain ⟨j, hj, rfl, hall, hb⟩ := hrel
    by_cases hlt : j < 64
    · have hbr := Lib.hid hb
      obtain ⟨SC, hSC⟩ : ∃ SC : ByteArray, SC = ⟨(vbytes (zig (j : Int))).toArray⟩ := ⟨_, rfl⟩
      have HPJ := Lib.hid (putInt_ok (j : Int) (by omega) (by omega) wr)
      rw [← hSC] at HPJ
      have hsc : SC.size ≤ 10 := by rw [hSC]; exact vbytes_le _
      have HBY : Hid (((SA ++ SB) ++ SC).data.toList = rawBytes x K (j : Int)) := Lib.hid (by rw [hSC, HSA.out, HSB.out]; exact accS_bytes x K (j : Int))
      have l0 : (0 : Int) ≤ (j : Int) := by omega
      have l1 : (j : Int) < 64 := by omega
      clear hSC hb
      go_wp2_with fail
      refine HPJ.out.mono ?_
      rintro e w5 ⟨rfl, hb5⟩
      have HB5 := Lib.hid (hbr.out.trans (hb5.mono hbr.out.size))
      clear hb5 HPJ
      go_wp2_with fail
      have HSM := Lib.hid (dsum_any (SA ++ SB ++ SC) w5 (by rw [ByteArray.size_append, ByteArray.size_append]; omega) (HT.out.below HB5.out))
      refine HSM.out.mono ?_
      rintro e w6 ⟨⟨D, rfl, hD⟩, hb6⟩
      have HB6 := Lib.hid (HB5.out.trans (hb6.mono HB5.out.size))
      have hDs : D.size = 32 := by rw [size_of_list, hD]; exact sha_length _
      rw [HBY.out] at hD
      have HDD := Lib.hid hD
      have HRW := Lib.hid (raw_any x K (j : Int) w6 (HT.out.below HB6.out))
      have hok : RawOk x K (j : Int) := ⟨HNM.out, l0, l1⟩
      rw [show rawV x K (j : Int) = (rawN x K (j : Int) : Int) from if_pos hok, show rawE x K (j : Int) = 0 from if_pos hok] at HRW
      have HRN : Hid (rawN x K (j : Int) = wantN D.data.toList 62) := Lib.hid (by
        rw [want_be _ 62 (by omega), hD]
        rfl)
      obtain ⟨rn, hrn⟩ : ∃ r, rawN x K (j : Int) = r := ⟨_, rfl⟩
      rw [hrn] at HRW HRN
      have HRE := Lib.hid hrn
      clear hb6 hD hok HSM HB5 hrn
      go_wp2_with fail
      refine HRW.out.mono ?_
      rintro e w7 ⟨rfl, hb7⟩
      have HB7 := Lib.hid (HB6.out.trans (hb7.mono HB6.out.size))
      clear hb7 HB6 HRW
      go_wp2_with fail
      have HWL := Lib.hid (want_lt D.data.toList)
      have HDS := Lib.hid hDs
      go_loopw [23, 24] (fun nv kv W => ∃ k : Nat, k ≤ 62 ∧ kv = .int .i64 (k : Nat) ∧ nv = .int .i64 (wantN D.data.toList k : Nat) ∧ w7 = W) (fun _ kv _ => 62 - (intZ kv).toNat)
      case atStart => exact ⟨0, by omega, rfl, rfl, rfl⟩
      case round =>
        obtain ⟨k, hk, rfl, rfl, rfl⟩ := hrel
        by_cases hk62 : k < 62
        · have m0 : (0 : Int) ≤ (k : Int) := by omega
          have m1 : (k : Int) < 62 := by omega
          have e1 : Int.tdiv (k : Int) 8 = ((k / 8 : Nat) : Int) := by rw [Int.tdiv_eq_ediv_of_nonneg (by omega)]; rfl
          have e2 : Int.tmod (k : Int) 8 = ((k % 8 : Nat) : Int) := by rw [Int.tmod_eq_emod_of_nonneg (by omega)]; rfl
          obtain ⟨q, hq⟩ : ∃ q, k / 8 = q := ⟨_, rfl⟩
          obtain ⟨r, hr⟩ : ∃ r, k % 8 = r := ⟨_, rfl⟩
          rw [hq] at e1
          rw [hr] at e2
          have hq2 : (q : Int) < 32 := by omega
          have hq3 : (0 : Int) ≤ (q : Int) := by omega
          have hr2 : (r : Int) ≤ 7 := by omega
          have HST := Lib.hid (want_step D k q r hq hr hk62 (by omega) (HWL.out k (by omega)))
          go_wp2_with fail
          exact ⟨⟨k + 1, by omega, by go_num, congrArg (Value.int .i64) (by have h := HST.out; simp only [IntWalk.i64_left] at h; exact h), trivial⟩, by simp [intZ]; omega⟩
        · obtain rfl : k = 62 := by omega
          have hwn : wantN D.data.toList 62 = rn := HRN.out.symm
          rw [hwn]
          have HRD := Lib.hid (reduce_any (rn : Int) B w7)
          clear hwn
          cases hac : reduceB (rn : Int) B with
          | true =>
            have hdo : drawO x K B = some (reduceF (rn : Int) B) := by
              unfold drawO
              rw [if_pos HNM.out]
              have h := drawAt_some (s := x) (i := K) (below := B) (n := j) (by rw [HRE.out]; exact hac) 64 0 (by omega) (by omega) (fun k _ h => hall.out k h)
              rwa [HRE.out] at h
            have hlt2 := drawO_lt hdo
            obtain ⟨fv, hfv⟩ : ∃ f, reduceF (rn : Int) B = f := ⟨_, rfl⟩
            rw [hfv] at hdo hlt2 HRD
            rw [hac] at HRD
            obtain rfl : dv = fv := by rw [← HDV.out, drawV, hdo]; rfl
            obtain rfl : de = 0 := by rw [← HDE.out, drawE, hdo]; rfl
            obtain ⟨y1, y2⟩ := hlt2
            clear hdo hfv hac
            go_wp2_with fail
            refine HRD.out.mono ?_
            rintro e w8 ⟨rfl, rfl⟩
            go_wp2_with fail
            go_ret
            exact ⟨rfl, HB7.out⟩
          | false =>
            have HALL : Hid (∀ j', j' < j + 1 → reduceB (rawN x K (j' : Int) : Nat) B = false) := Lib.hid (fun j' h => by
              by_cases e : j' = j
              · rw [e, HRE.out]; exact hac
              · exact hall.out j' (by omega))
            obtain ⟨fv, hfv⟩ : ∃ f, reduceF (rn : Int) B = f := ⟨_, rfl⟩
            rw [hfv, hac] at HRD
            clear hac hfv
            go_wp2_with fail
            refine HRD.out.mono ?_
            rintro e w8 ⟨rfl, rfl⟩
            go_wp2_with fail
            exact ⟨⟨j + 1, by omega, by go_num, HALL, HB7.out⟩, by simp [intZ]; omega⟩
    · obtain rfl : j = 64 := by omega
      have hno : drawO x K B = none := by
        unfold drawO
        rw [if_pos HNM.out]
        exact drawAt_none 64 0 fun k _ h => hall.out k (by omega)
      obtain rfl : dv = 0 := by rw [← HDV.out, drawV, hno]; rfl
      obtain rfl : de = 60 := by rw [← HDE.out, drawE, hno]; rfl
      clear hno
      go_wp2
      go_ret
      exact ⟨rfl, hb⟩
end Go.Proofs.YtfdmmobadmmhdaaDoor
