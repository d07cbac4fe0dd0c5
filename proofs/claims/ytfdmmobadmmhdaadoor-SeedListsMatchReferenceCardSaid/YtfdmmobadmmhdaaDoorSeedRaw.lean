/- Package seed: Raw. Condition: the table holds its words. -/
import Derived.Test.YtfdmmobadmmhdaaDoorSeedBase
namespace Go.Proofs.YtfdmmobadmmhdaaDoor
open Go Go.RowKit
/-- The first k bytes as one number. -/
def be (d : List UInt8) : Nat → Nat
  | 0 => 0
  | k + 1 => be d k * 256 + (d.getD k 0).toNat
theorem be_lt (d : List UInt8) : ∀ k, be d k < 256 ^ k
  | 0 => show 0 < 1 by decide
  | k + 1 => by
    have h := be_lt d k
    have hb := (d.getD k 0).toNat_lt
    unfold be
    rw [Nat.pow_succ]
    omega
/-- What is digested for a raw number. -/
def rawBytes (s : ByteArray) (i j : Int) : List UInt8 := vbytes (zig s.size) ++ s.data.toList ++ vbytes (zig i) ++ vbytes (zig j)
def rawN (s : ByteArray) (i j : Int) : Nat := be (sha (rawBytes s i j)) 8 / 4
def RawOk (s : ByteArray) (i j : Int) : Prop := Named s i ∧ 0 ≤ j ∧ j < 64
instance (s : ByteArray) (i j : Int) : Decidable (RawOk s i j) := by unfold RawOk; infer_instance
def rawV (s : ByteArray) (i j : Int) : Int := if RawOk s i j then (rawN s i j : Int) else 0
def rawE (s : ByteArray) (i j : Int) : Int := if RawOk s i j then 0 else 60
def accS (s : ByteArray) (i j : Int) : Nat → ByteArray
  | 0 => ⟨(vbytes (zig s.size)).toArray⟩ ++ s
  | 1 => (⟨(vbytes (zig s.size)).toArray⟩ ++ s) ++ ⟨(vbytes (zig i)).toArray⟩
  | _ => ((⟨(vbytes (zig s.size)).toArray⟩ ++ s) ++ ⟨(vbytes (zig i)).toArray⟩) ++ ⟨(vbytes (zig j)).toArray⟩
theorem accS_bytes (s : ByteArray) (i j : Int) : (accS s i j 2).data.toList = rawBytes s i j := by
  simp [accS, rawBytes]
theorem rawBytes_le (s : ByteArray) (i j : Int) (h : s.size ≤ 40) : (rawBytes s i j).length ≤ 1000 := by
  have h1 := vbytes_le (zig s.size)
  have h2 := vbytes_le (zig i)
  have h3 := vbytes_le (zig j)
  have h4 : s.data.toList.length = s.size := by simp
  unfold rawBytes
  simp only [List.length_append]
  omega
theorem size_mk (l : List UInt8) : (⟨l.toArray⟩ : ByteArray).size = l.length := by show l.toArray.size = _; simp
theorem accS_size (s : ByteArray) (i j : Int) (h : s.size ≤ 40) (k : Nat) : (accS s i j k).size ≤ 1000 := by
  have h1 := vbytes_le (zig s.size)
  have h2 := vbytes_le (zig i)
  have h3 := vbytes_le (zig j)
  match k with
  | 0 => simp only [accS, ByteArray.size_append, size_mk]; omega
  | 1 => simp only [accS, ByteArray.size_append, size_mk]; omega
  | _ + 2 => simp only [accS, ByteArray.size_append, size_mk]; omega
theorem size_of_list (S : ByteArray) : S.size = S.data.toList.length := by simp
theorem or_byte (n b : Nat) (hn : n < 2 ^ 56) (hb : b < 256) : bits .or .u64 ((n : Int) * 256) (b : Int) = ((n * 256 + b : Nat) : Int) := by
  have h := bitsN64_or (n * 256) b (by omega) (by omega)
  have e : n * 256 ||| b = n * 256 + b := by
    have := Nat.two_pow_add_eq_or_of_lt (i := 8) (b := b) hb n
    rw [Nat.mul_comm] at this
    exact this.symm
  rw [e, Int.natCast_mul] at h
  exact h
set_option maxRecDepth 100000 in
set_option maxHeartbeats 4000000 in
theorem raw_any (s : ByteArray) (i j : Int) (w : World) (hT : RoundOk w) :
    Calls Tryd.prog 13 #[.string s, .int .i64 i, .int .i64 j] w fun e w' => e = .returned (.tuple #[.int .i64 (rawV s i j), .int .i64 (rawE s i j)]) ∧ Below w.heap.size w w' := by
  have HT := Lib.hid hT
  have HN := Lib.hid (isNamed_any s i)
  clear hT
  by_cases hn : Named s i
  · by_cases hj : 0 ≤ j
    · by_cases hj2 : j < 64
      · have HOK : Hid (RawOk s i j) := Lib.hid ⟨hn, hj, hj2⟩
        have HSZ : Hid (s.size ≤ 40) := Lib.hid hn.2.1
        have HI : Hid (0 ≤ i ∧ i ≤ 4611686018427387903) := Lib.hid hn.2.2
        have hd : decide (Named s i) = true := decide_eq_true hn
        rw [hd] at HN
        clear hn hd
        go_enter Tryd.func13, Tryd.ntmps13
        go_wp2_with fail
        refine (HN.out _).mono ?_
        rintro e w1 ⟨rfl, rfl⟩
        go_wp2_with fail
        have hps : putS s = .tuple #[.string (accS s i j 0), .int .i64 0] := if_neg (by have := HSZ.out; omega)
        have HPS := Lib.hid (putString_any s w (by have := HSZ.out; unfold maxLen; omega))
        rw [hps] at HPS
        clear hps
        refine HPS.out.mono ?_
        rintro e w2 ⟨rfl, hb2⟩
        have HB2 := Lib.hid hb2
        have hal : Below w2.heap.size w2 (w2.alloc (.cells #[.int .i64 i, .int .i64 j] 3)) := (Below.refl _ _).alloc (Nat.le_refl _) _
        have hc0 : (w2.alloc (.cells #[.int .i64 i, .int .i64 j] 3)).cell? ⟨w2.heap.size, 0, none⟩ = some (.int .i64 i) := by simp
        have hc1 : (w2.alloc (.cells #[.int .i64 i, .int .i64 j] 3)).cell? ⟨w2.heap.size, 1, none⟩ = some (.int .i64 j) := by simp
        obtain ⟨a0, ha0⟩ : ∃ a, accS s i j 0 = a := ⟨_, rfl⟩
        rw [ha0]
        have HA0 := Lib.hid ha0
        have HJ := Lib.hid (And.intro hj hj2)
        clear hb2 ha0 hj hj2 HPS HN
        go_wp2_with fail
        obtain ⟨w3, hw3⟩ : ∃ w3, w2.alloc (.cells #[.int .i64 i, .int .i64 j] 3) = w3 := ⟨_, rfl⟩
        rw [hw3] at hal hc0 hc1 ⊢
        obtain ⟨G, hG⟩ : ∃ G, w2.heap.size = G := ⟨_, rfl⟩
        rw [hG] at hc0 hc1 ⊢
        have HC0 := Lib.hid hc0
        have HC1 := Lib.hid hc1
        have HB3 := Lib.hid (HB2.out.trans (hal.mono HB2.out.size))
        clear hw3 hG hal hc0 hc1 HB2
        go_loopw [8, 39] (fun sv kv wr => ∃ (k : Nat) (S : ByteArray), k ≤ 2 ∧ kv = .int .i64 k ∧ sv = .string S ∧ Hid (S = accS s i j k) ∧ Below w3.heap.size w3 wr) (fun _ kv _ => 2 - (intOf kv).toNat)
        case atStart => exact ⟨0, a0, by omega, rfl, rfl, Lib.hid HA0.out.symm, Below.refl _ _⟩
        case round =>
          obtain ⟨k, S, hk, rfl, rfl, hS, hb⟩ := hrel
          have d0 := (hb.cell (p := ⟨G, 0, none⟩) (cell_lt' HC0.out)).trans HC0.out
          have d1 := (hb.cell (p := ⟨G, 1, none⟩) (cell_lt' HC1.out)).trans HC1.out
          have HBr := Lib.hid hb
          clear hb
          rcases (show k = 0 ∨ k = 1 ∨ k = 2 by omega) with rfl | rfl | rfl
          · have HPI := Lib.hid (putInt_ok i (by have := HI.out; omega) (by have := HI.out; omega) wr)
            obtain ⟨T, hT⟩ : ∃ T : ByteArray, T = ⟨(vbytes (zig i)).toArray⟩ := ⟨_, rfl⟩
            rw [← hT] at HPI
            have HTT := Lib.hid hT
            have hts : T.size ≤ 10 := by rw [hT]; exact vbytes_le _
            have hss : S.size ≤ 1000 := by rw [hS.out]; exact accS_size s i j HSZ.out _
            clear hT
            go_wp2_with fail
            refine HPI.out.mono ?_
            rintro e w4 ⟨rfl, hb4⟩
            go_wp2_with fail
            exact ⟨⟨1, S ++ T, by omega, rfl, rfl, Lib.hid (by rw [hS.out, HTT.out]; rfl), HBr.out.trans (hb4.mono HBr.out.size)⟩, by simp [intOf]⟩
          · have HPI := Lib.hid (putInt_ok j (by have := HJ.out; omega) (by have := HJ.out; omega) wr)
            obtain ⟨T, hT⟩ : ∃ T : ByteArray, T = ⟨(vbytes (zig j)).toArray⟩ := ⟨_, rfl⟩
            rw [← hT] at HPI
            have HTT := Lib.hid hT
            have hts : T.size ≤ 10 := by rw [hT]; exact vbytes_le _
            have hss : S.size ≤ 1000 := by rw [hS.out]; exact accS_size s i j HSZ.out _
            clear hT
            go_wp2_with fail
            refine HPI.out.mono ?_
            rintro e w4 ⟨rfl, hb4⟩
            go_wp2_with fail
            exact ⟨⟨2, S ++ T, by omega, rfl, rfl, Lib.hid (by rw [hS.out, HTT.out]; rfl), HBr.out.trans (hb4.mono HBr.out.size)⟩, by simp [intOf]⟩
          · have HSB : Hid (S.data.toList = rawBytes s i j) := Lib.hid (by rw [hS.out, accS_bytes])
            have HSM := Lib.hid (dsum_any S wr (by rw [size_of_list, HSB.out]; have := rawBytes_le s i j HSZ.out; omega) (HT.out.below (HB3.out.trans (HBr.out.mono HB3.out.size))))
            clear d0 d1
            go_wp2_with fail
            refine HSM.out.mono ?_
            rintro e w4 ⟨⟨D, rfl, hD⟩, hb4⟩
            have hDs : D.size = 32 := by rw [size_of_list, hD]; exact sha_length _
            obtain ⟨E, hE⟩ : ∃ E : ByteArray, D.extract 0 8 = E := ⟨_, rfl⟩
            have hE8 : E.size = 8 := by rw [← hE, ByteArray.size_extract]; omega
            have hEb : E.data.toList = (sha (rawBytes s i j)).take 8 := by
              rw [← hE, ← HSB.out, ← hD]
              simp
            obtain ⟨v5, w5, hcv, hbr, hbl⟩ := brow_new w4 E
            have hbr' := hbr (by omega)
            obtain ⟨g5, cap5, hv5⟩ := hbr'.len
            rw [show E.data.toList.length = 8 by rw [← size_of_list]; exact hE8] at hv5
            subst hv5
            have HRB : Hid (∀ a, a < 8 → w5.cell? ⟨g5, a, none⟩ = some (.int .u8 (((sha (rawBytes s i j)).getD a 0).toNat : Int))) := Lib.hid (fun a ha => by
              have h := (hbr'.cell a (by rw [← size_of_list]; omega)).2.2.2.2
              rw [h, hEb]
              simp [List.getD_eq_getElem?_getD, ha])
            have HD := Lib.hid hD
            have HB5 := Lib.hid (HB3.out.trans ((HBr.out.trans ((hb4.trans (hbl.mono hb4.size)).mono HBr.out.size)).mono HB3.out.size))
            clear hD hEb hbr hbr' hbl hb4
            go_wp2_with fail
            have HRV : Hid (rawV s i j = ((be (sha (rawBytes s i j)) 8 / 4 : Nat) : Int) ∧ rawE s i j = 0) := Lib.hid ⟨if_pos HOK.out, if_pos HOK.out⟩
            generalize sha (rawBytes s i j) = d at HRB HRV
            go_loopw [15, 61] (fun nv kv wr => ∃ k : Nat, k ≤ 8 ∧ kv = .int .i64 k ∧ nv = .int .u64 (be d k : Nat) ∧ w5 = wr) (fun _ kv _ => 8 - (intOf kv).toNat)
            case atStart => exact ⟨0, by omega, rfl, rfl, rfl⟩
            case round =>
              obtain ⟨k, hk, rfl, rfl, rfl⟩ := hrel
              have hbe := be_lt d k
              by_cases hk8 : k < 8
              · have l0 : (0 : Int) ≤ (k : Int) := by omega
                have l1 : (k : Int) < 8 := by omega
                have hc := HRB.out k hk8
                have hnl : be d k < 2 ^ 56 := Nat.lt_of_lt_of_le hbe (by rw [show (2 : Nat) ^ 56 = 256 ^ 7 by decide]; exact Nat.pow_le_pow_right (by decide) (by omega))
                have hst : Hid (be d (k + 1) = be d k * 256 + (d.getD k 0).toNat) := Lib.hid rfl
                have hb2 : (d.getD k 0).toNat < 256 := (d.getD k 0).toNat_lt
                obtain ⟨n, hn⟩ : ∃ n, be d k = n := ⟨_, rfl⟩
                obtain ⟨b, hb⟩ : ∃ n, (d.getD k 0).toNat = n := ⟨_, rfl⟩
                rw [hn] at hnl hst ⊢
                rw [hb] at hc hst hb2
                have g1 : IntKind.u64.wrap ((n : Int) * 256) = (n : Int) * 256 := by rw [IntKind.wrap_u64]; omega
                have g2 : IntKind.u64.wrap (b : Int) = (b : Int) := by rw [IntKind.wrap_u64]; omega
                have g3 := or_byte n b hnl hb2
                obtain ⟨m, hm⟩ : ∃ m, n * 256 + b = m := ⟨_, rfl⟩
                rw [hm] at g3 hst
                clear hn hb hm hbe
                go_wp2_with fail
                exact ⟨⟨k + 1, by omega, by go_num, by rw [hst.out], trivial⟩, by simp [intOf]; omega⟩
              · obtain rfl : k = 8 := by omega
                obtain ⟨n, hn⟩ : ∃ n, be d 8 = n := ⟨_, rfl⟩
                rw [hn] at hbe HRV ⊢
                have hbe2 : n < 18446744073709551616 := hbe
                have g1 : IntKind.i64.wrap ((n : Int) / 4) = ((n / 4 : Nat) : Int) := by rw [IntWalk.i64_in _ (by omega)]; rfl
                clear hn hbe
                go_wp2_with fail
                go_ret2
                exact ⟨by rw [HRV.out.1, HRV.out.2]; rfl, HB5.out⟩
      · have HOK : Hid (¬ RawOk s i j) := Lib.hid (fun h => hj2 h.2.2)
        have hd : decide (Named s i) = true := decide_eq_true hn
        rw [hd] at HN
        clear hn hd
        go_enter Tryd.func13, Tryd.ntmps13
        go_wp2_with fail
        refine (HN.out _).mono ?_
        rintro e w1 ⟨rfl, rfl⟩
        go_wp2
        go_ret2
        exact ⟨by rw [show rawV s i j = 0 from if_neg HOK.out, show rawE s i j = 60 from if_neg HOK.out]; rfl, Below.refl _ _⟩
    · have HOK : Hid (¬ RawOk s i j) := Lib.hid (fun h => hj h.2.1)
      have hd : decide (Named s i) = true := decide_eq_true hn
      rw [hd] at HN
      clear hn hd
      go_enter Tryd.func13, Tryd.ntmps13
      go_wp2_with fail
      refine (HN.out _).mono ?_
      rintro e w1 ⟨rfl, rfl⟩
      go_wp2
      go_ret2
      exact ⟨by rw [show rawV s i j = 0 from if_neg HOK.out, show rawE s i j = 60 from if_neg HOK.out]; rfl, Below.refl _ _⟩
  · have HOK : Hid (¬ RawOk s i j) := Lib.hid (fun h => hn h.1)
    have hd : decide (Named s i) = false := decide_eq_false hn
    rw [hd] at HN
    clear hn hd
    go_enter Tryd.func13, Tryd.ntmps13
    go_wp2_with fail
    refine (HN.out _).mono ?_
    rintro e w1 ⟨rfl, rfl⟩
    go_wp2
    go_ret2
    exact ⟨by rw [show rawV s i j = 0 from if_neg HOK.out, show rawE s i j = 60 from if_neg HOK.out]; rfl, Below.refl _ _⟩
end Go.Proofs.YtfdmmobadmmhdaaDoor
