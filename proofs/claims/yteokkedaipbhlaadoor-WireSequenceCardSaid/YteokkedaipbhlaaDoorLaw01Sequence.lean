/- WireSequence returns true. Conditions: the checksum's table holds its words; numbers of 64 bits; what the two slices hold lies below the heap's size. -/
import Derived.Test.YteokkedaipbhlaaDoorLaw01Sane
import Derived.Test.YteokkedaipbhlaaDoorLaw01Num
import Derived.Test.YteokkedaipbhlaaDoorWireCalls
import Derived.Test.YteokkedaipbhlaaDoorSlices
import Derived.Deep.RegionHeld3
namespace Go.Proofs.YteokkedaipbhlaaDoor
open Go Go.RowKit
def cutB (s : ByteArray) (n : Nat) : ByteArray := s.extract 0 (min s.size n)
/-- An item's bytes: the number's, then the text's. -/
def itemEnc (f : Nat → Int) (g : Nat → ByteArray) (j : Nat) : List UInt8 :=
  vbytes (zig (numF (f j))) ++ (vbytes (zig ((cutB (g j) 100).size : Int)) ++ (cutB (g j) 100).data.toList)
/-- The items from k on, m of them. -/
def seqEnc (f : Nat → Int) (g : Nat → ByteArray) : Nat → Nat → List UInt8
  | _, 0 => []
  | k, m + 1 => itemEnc f g k ++ seqEnc f g (k + 1) m
theorem seqEnc_snoc (f : Nat → Int) (g : Nat → ByteArray) : ∀ (m k : Nat), seqEnc f g k (m + 1) = seqEnc f g k m ++ itemEnc f g (k + m)
  | 0, k => by simp [seqEnc]
  | m + 1, k => by
    rw [seqEnc, seqEnc_snoc f g m (k + 1), seqEnc, List.append_assoc, show k + 1 + m = k + (m + 1) by omega]
theorem seqEnc_add (f : Nat → Int) (g : Nat → ByteArray) : ∀ (a b k : Nat), seqEnc f g k (a + b) = seqEnc f g k a ++ seqEnc f g (k + a) b
  | 0, b, k => by simp [seqEnc]
  | a + 1, b, k => by
    rw [show a + 1 + b = (a + b) + 1 by omega, seqEnc, seqEnc_add f g a b (k + 1), seqEnc, List.append_assoc, show k + 1 + a = k + (a + 1) by omega]
theorem cutB_size (s : ByteArray) (n : Nat) : (cutB s n).size ≤ n := by unfold cutB; simp; omega
theorem itemEnc_le (f : Nat → Int) (g : Nat → ByteArray) (j : Nat) : (itemEnc f g j).length ≤ 120 := by
  have h1 := vbytes_le (zig (numF (f j)))
  have h2 := vbytes_le (zig ((cutB (g j) 100).size : Int))
  have h3 := cutB_size (g j) 100
  have h4 : (cutB (g j) 100).data.toList.length = (cutB (g j) 100).size := by simp
  unfold itemEnc
  simp only [List.length_append, h4]
  omega
theorem seqEnc_le (f : Nat → Int) (g : Nat → ByteArray) : ∀ (m k : Nat), (seqEnc f g k m).length ≤ 120 * m
  | 0, k => by simp [seqEnc]
  | m + 1, k => by
    have h1 := seqEnc_le f g m (k + 1)
    have h2 := itemEnc_le f g k
    rw [seqEnc, List.length_append]; omega
/-- Int at an offset behind which a number's bytes lie. -/
theorem int_at (T : ByteArray) (a : Nat) (n : Int) (rest : List UInt8) (w : World) (n1 : -4611686018427387903 ≤ n) (n2 : n ≤ 4611686018427387903) (ha : a ≤ T.size) (h : T.data.toList.drop a = vbytes (zig n) ++ rest) (hs : T.size ≤ maxLen) :
    Calls Tryd.prog 15 #[.string T, .int .i64 (a : Int)] w fun e w' => e = .returned (.tuple #[.int .i64 n, .int .i64 ((a + (vbytes (zig n)).length : Nat) : Int), .int .i64 0]) ∧ w = w' := by
  have hc := int_in T a w hs ha
  rw [h, intDec_enc n n1 n2] at hc
  exact hc
theorem string_at (T : ByteArray) (a : Nat) (S : ByteArray) (rest : List UInt8) (w : World) (hS : S.size ≤ 65536) (ha : a ≤ T.size) (h : T.data.toList.drop a = (vbytes (zig S.size) ++ S.data.toList) ++ rest) (hs : T.size ≤ maxLen) :
    Calls Tryd.prog 17 #[.string T, .int .i64 (a : Int)] w fun e w' => e = .returned (.tuple #[.string S, .int .i64 ((a + (vbytes (zig S.size) ++ S.data.toList).length : Nat) : Int), .int .i64 0]) ∧ w = w' := by
  have hc := string_any T a w hs
  have hl := congrArg List.length h
  have hSl : S.data.toList.length = S.size := by simp
  simp only [List.length_drop, List.length_append, hSl] at hl
  have hT : T.data.toList.length = T.size := by simp
  rw [hT] at hl
  have hv : wString T a = .tuple #[.string S, .int .i64 ((a + (vbytes (zig S.size) ++ S.data.toList).length : Nat) : Int), .int .i64 0] := by
    unfold wString
    rw [if_neg (by omega)]
    simp only [Int.toNat_natCast]
    rw [h, List.append_assoc, intDec_enc S.size (by omega) (by omega)]
    unfold strVal
    simp only
    rw [if_neg (by omega)]
    have hx : T.extract (a + (vbytes (zig S.size)).length) (a + (vbytes (zig S.size)).length + (S.size : Int).toNat) = S := by
      apply bytes_ext
      rw [extract_list, ← List.drop_drop, h, List.append_assoc, List.drop_left' rfl]
      rw [show a + (vbytes (zig S.size)).length + (S.size : Int).toNat - (a + (vbytes (zig S.size)).length) = S.data.toList.length by rw [hSl]; omega]
      exact List.take_left' rfl
    have hy : ((a + (vbytes (zig S.size)).length : Nat) : Int) + (S.size : Int) = ((a + (vbytes (zig S.size) ++ S.data.toList).length : Nat) : Int) := by
      rw [List.length_append, hSl]; omega
    rw [hx, hy]
  rw [hv] at hc
  exact hc
theorem min3_run {P : Program} (x y : Nat) : ∃ n : Nat, n ≤ x ∧ n ≤ y ∧ n ≤ 20 ∧ ∀ ts t (W : World), (Builtin.min_ ts t #[.int .i64 (x : Int), .int .i64 (y : Int), .int .i64 20]).run P W = .ok (.int .i64 (n : Int)) W := by
  refine ⟨min (min x y) 20, by omega, by omega, by omega, fun ts t W => ?_⟩
  simp only [Builtin.min_, List.foldlM, Builtin.min2, Sem.run_bind, Sem.run_pure, Result.andThen]
  congr 2
  split <;> split <;> omega
theorem cutB_forms (s : ByteArray) : ∃ (m : Nat), m ≤ s.size ∧ (if (100 : Int) < (s.size : Int) then (100 : Int) else (s.size : Int)) = (m : Int) ∧ (if 100 < s.size then (100 : Int) else (s.size : Int)) = (m : Int) ∧ s.extract 0 m = cutB s 100 := by
  refine ⟨min s.size 100, by omega, ?_, ?_, rfl⟩ <;> split <;> omega
/-- What is written after k items. -/
structure SeqInv (f : Nat → Int) (g : Nat → ByteArray) (k : Nat) (T : ByteArray) : Prop where
  eq : T.data.toList = seqEnc f g 0 k
theorem SeqInv.le {f : Nat → Int} {g : Nat → ByteArray} {k : Nat} {T : ByteArray} (h : SeqInv f g k T) : T.size ≤ 120 * k := by
  have h1 := seqEnc_le f g k 0
  rw [← h.eq] at h1
  simpa using h1
theorem seq_len {f : Nat → Int} {g : Nat → ByteArray} {a a1 a2 j : Nat} {S : ByteArray} (h : a = (seqEnc f g 0 j).length) (hS : cutB (g j) 100 = S)
    (h1 : a + (vbytes (zig (numF (f j)))).length = a1) (h2 : a1 + (vbytes (zig (S.size : Int)) ++ S.data.toList).length = a2) : a2 = (seqEnc f g 0 (j + 1)).length := by
  rw [seqEnc_snoc, List.length_append, Nat.zero_add]
  unfold itemEnc
  rw [hS, List.length_append, ← h2, ← h1, ← h]
  omega
set_option maxRecDepth 100000 in
set_option maxHeartbeats 2000000 in
theorem wireSequence_any (pl pt : Option Addr) (nl cl nt ct : Nat) (f : Nat → Int) (g : Nat → ByteArray) (w : World) (hl : IntsIn w pl nl f) (ht : StrsIn w pt nt g) (hT : TabOk w) (hn : 0 < w.heap.size) :
    Calls Tryd.prog 6 #[.slice pl nl cl, .slice pt nt ct] w fun e w' => e = .returned (.bool true) ∧ Below w.heap.size w w' := by
  have hl0 := hl.small
  have ht0 := ht.small
  obtain ⟨n, hn1, hn2, hn3, hmin⟩ := min3_run (P := Tryd.prog) nl nt
  unfold maxLen at hl0 ht0
  have HT := Lib.hid hT
  have HL := Lib.hid hl
  have HTX := Lib.hid ht
  clear hT hl ht
  go_enter Tryd.func6, Tryd.ntmps6
  go_wp2_with fail
  refine (sane_any _ HT.out hn).mono ?_
  rintro e w1 ⟨rfl, hB1⟩
  go_wp2_with fail
  clear hmin
  go_loopw [7, 8] (fun s i wr => ∃ (k : Nat) (T : ByteArray), k ≤ n ∧ i = .int .i64 k ∧ s = .string T ∧ SeqInv f g k T ∧ Below w.heap.size w wr) (fun _ i _ => n - (intOf i).toNat)
  case atStart => exact ⟨0, ⟨#[]⟩, by omega, rfl, rfl, ⟨rfl⟩, hB1⟩
  case round =>
    obtain ⟨k, T, hk, rfl, rfl, hinv, hBr⟩ := hrel
    have HI := Lib.hid hinv
    have hTs := hinv.le
    clear hinv
    by_cases hlt : k < n
    · obtain ⟨bl, ol, rfl, hbl, hcl⟩ := HL.out.cell k (by omega)
      obtain ⟨bt, ot, rfl, hbt, hct⟩ := HTX.out.cell k (by omega)
      have c1 : wr.cell? ⟨bl, ol + k, none⟩ = some (.int .i64 (f k)) := (hBr.cell (p := ⟨bl, ol + k, none⟩) hbl).trans (hcl k (by omega))
      have hkt : k < nt := by omega
      have hkt2 : (k : Int) < (nt : Int) := by omega
      have hkl : k < nl := by omega
      have hk0 : (0 : Int) ≤ (k : Int) := by omega
      have hfb := HL.out.bd k (by omega)
      have hgb := HTX.out.bd k (by omega)
      have hnb := numF_bd (f k)
      have HCT := Lib.hid hct
      clear hcl hct
      go_wp2_with fail
      refine (numberFrom_any _ _ hfb.1 hfb.2).mono ?_
      rintro e w2 ⟨rfl, hB2⟩
      go_wp2_with fail
      have hp := putInt_ok (numF (f k)) (by omega) (by omega) w2
      obtain ⟨E, hE⟩ : ∃ E : ByteArray, (⟨(vbytes (zig (numF (f k)))).toArray⟩ : ByteArray) = E := ⟨_, rfl⟩
      have hEl : E.data.toList = vbytes (zig (numF (f k))) := by rw [← hE]
      rw [hE] at hp
      refine hp.mono ?_
      clear hp hE
      rintro e w3 ⟨rfl, hB3⟩
      have hB4 : Below w.heap.size w w3 := (hBr.trans (hB2.mono hBr.size)).trans (hB3.mono (Nat.le_trans hBr.size hB2.size))
      have c2 : w3.cell? ⟨bt, ot + k, none⟩ = some (.string (g k)) := (hB4.cell (p := ⟨bt, ot + k, none⟩) hbt).trans (HCT.out k (by omega))
      obtain ⟨m, hm1, hm2, hm3, hm4⟩ := cutB_forms (g k)
      have hS := cutB_size (g k) 100
      obtain ⟨S, hSS⟩ : ∃ S, cutB (g k) 100 = S := ⟨_, rfl⟩
      rw [hSS] at hS hm4
      have HSS := Lib.hid hSS
      have hE2 := Lib.hid hEl
      clear hEl hB2 hB3 c1 hSS
      obtain ⟨G, hG⟩ : ∃ G : ByteArray, (⟨(vbytes (zig S.size)).toArray⟩ : ByteArray) ++ S = G := ⟨_, rfl⟩
      have hGl : G.data.toList = vbytes (zig S.size) ++ S.data.toList := by rw [← hG, append_list]
      have hp0 : ∀ W, Below w.heap.size w W → Calls Tryd.prog 19 #[.string S] W fun e w' => e = .returned (.tuple #[.string G, .int .i64 0]) ∧ Below w.heap.size w w' ∧ w'.cell? ⟨bt, ot + k, none⟩ = some (.string (g k)) := fun W hW => by
        have hp := putString_any S W (by unfold maxLen; omega)
        rw [show putS S = .tuple #[.string G, .int .i64 0] by unfold putS; rw [if_neg (by omega), hG]] at hp
        exact hp.mono fun e w' ⟨he, hb⟩ => by
          have hB := hW.trans (hb.mono hW.size)
          exact ⟨he, hB, (hB.cell (p := ⟨bt, ot + k, none⟩) hbt).trans (HCT.out k (by omega))⟩
      have hp := Lib.hid hp0
      have hnext : SeqInv f g (k + 1) (T ++ E ++ G) := ⟨by rw [append_list, append_list, HI.out.eq, hE2.out, hGl, seqEnc_snoc, Nat.zero_add]; simp [itemEnc, HSS.out, List.append_assoc]⟩
      have HN := Lib.hid hnext
      have hGs : G.size ≤ 110 := by have := congrArg List.length hGl; have hv := vbytes_le (zig S.size); simp at this; omega
      have hEs : E.size ≤ 10 := by have := congrArg List.length hE2.out; have hv := vbytes_le (zig (numF (f k))); simp at this; omega
      clear hnext hGl hG hp0
      go_wp2_with fail
      go_region_held3 (fun w' => Below w.heap.size w w' ∧ w'.cell? ⟨bt, ot + k, none⟩ = some (.string (g k)))
        (first | exact ⟨by assumption, by assumption⟩ | exact ⟨Below.drew (by assumption), by assumption⟩ | go_keep)
        ((go_at_call 19; refine (hp.out _ ?_).mono ?_; (first | assumption | (exact Below.drew (by assumption))); rintro e w' ⟨rfl, hs1, hs2⟩))
      all_goals clear c2 hp hm1 hm2 hm3 hm4
      all_goals
        go_wp2
        exact ⟨⟨k + 1, T ++ E ++ G, by omega, by go_num, rfl, HN.out, by assumption⟩, by simp [intOf]; omega⟩
    · skip
      obtain rfl : k = n := by omega
      have HT2 := Lib.hid hBr
      have hTe := HI.out.eq
      have HTE := Lib.hid hTe
      clear hTe
      obtain ⟨wq, rfl⟩ : ∃ wq : World, wr = wq := ⟨_, rfl⟩
      go_wp2_with fail
      go_loopw [13, 14] (fun at_ i wv => ∃ (j a : Nat), j ≤ k ∧ i = .int .i64 j ∧ at_ = .int .i64 a ∧ Hid (a = (seqEnc f g 0 j).length) ∧ Below w.heap.size w wv) (fun _ i _ => k - (intOf i).toNat)
      case atStart => exact ⟨0, 0, by omega, rfl, rfl, rfl, hBr⟩
      case round =>
        obtain ⟨j, a, hj, rfl, rfl, ha, hBv⟩ := hrel
        have hTd : T.data.toList = seqEnc f g 0 j ++ seqEnc f g j (k - j) := by
          rw [HTE.out]
          have := seqEnc_add f g j (k - j) 0
          rwa [show j + (k - j) = k by omega, Nat.zero_add] at this
        have hdrop : T.data.toList.drop a = seqEnc f g j (k - j) := by rw [hTd, ha.out, List.drop_left' rfl]
        have haT : a ≤ T.size := by have := congrArg List.length hTd; have h2 := ha.out; simp at this; omega
        by_cases hjk : j < k
        · rw [show k - j = (k - j - 1) + 1 by omega, seqEnc] at hdrop
          have hnb := numF_bd (f j)
          have hS := cutB_size (g j) 100
          unfold itemEnc at hdrop
          obtain ⟨S, hSS⟩ : ∃ S, cutB (g j) 100 = S := ⟨_, rfl⟩
          rw [hSS] at hS hdrop
          have q1 := fun W => int_at T a (numF (f j)) _ W (by omega) (by omega) haT (by rw [hdrop, List.append_assoc]) (by unfold maxLen; omega)
          obtain ⟨a1, ha1⟩ : ∃ a1, a + (vbytes (zig (numF (f j)))).length = a1 := ⟨_, rfl⟩
          have hdrop1 : T.data.toList.drop a1 = (vbytes (zig S.size) ++ S.data.toList) ++ seqEnc f g (j + 1) (k - j - 1) := by
            rw [← ha1, ← List.drop_drop, hdrop, List.append_assoc, List.drop_left' rfl]
          have ha1T : a1 ≤ T.size := by
            have h1 := congrArg List.length hdrop
            simp at h1
            omega
          rw [ha1] at q1
          have q2 := fun W => string_at T a1 S _ W (by omega) ha1T hdrop1 (by unfold maxLen; omega)
          obtain ⟨a2, ha2⟩ : ∃ a2, a1 + (vbytes (zig (S.size : Int)) ++ S.data.toList).length = a2 := ⟨_, rfl⟩
          rw [ha2] at q2
          have hA2 := Lib.hid (seq_len ha.out hSS ha1 ha2)
          have Q1 := Lib.hid q1
          have Q2 := Lib.hid q2
          have HSS := Lib.hid hSS
          clear q1 q2 hdrop hdrop1 ha1 ha2 hTd
          obtain ⟨bl, ol, rfl, hbl, hcl⟩ := HL.out.cell j (by omega)
          obtain ⟨bt, ot, rfl, hbt, hct⟩ := HTX.out.cell j (by omega)
          have hkt : j < nt := by omega
          have hkl : j < nl := by omega
          have hfb := HL.out.bd j (by omega)
          have c1 : wr.cell? ⟨bl, ol + j, none⟩ = some (.int .i64 (f j)) := (hBv.cell (p := ⟨bl, ol + j, none⟩) hbl).trans (hcl j (by omega))
          have c2 : wr.cell? ⟨bt, ot + j, none⟩ = some (.string (g j)) := (hBv.cell (p := ⟨bt, ot + j, none⟩) hbt).trans (hct j (by omega))
          obtain ⟨m, hm1, hm2, hm3, hm4⟩ := cutB_forms (g j)
          rw [hSS] at hm4
          have hnk : ∀ W, Below w.heap.size w W → Calls Tryd.prog 11 #[.int .i64 (f j)] W fun e w' => e = .returned (.int .i64 (numF (f j))) ∧ Below w.heap.size w w' ∧ w'.cell? ⟨bl, ol + j, none⟩ = some (.int .i64 (f j)) ∧ w'.cell? ⟨bt, ot + j, none⟩ = some (.string (g j)) := fun W hW =>
            (numberFrom_any _ W hfb.1 hfb.2).mono fun e w' ⟨he, hb⟩ => by
              have hB := hW.trans (hb.mono hW.size)
              exact ⟨he, hB, (hB.cell (p := ⟨bl, ol + j, none⟩) hbl).trans (hcl j (by omega)), (hB.cell (p := ⟨bt, ot + j, none⟩) hbt).trans (hct j (by omega))⟩
          have HNK := Lib.hid hnk
          clear hnk hcl hct hSS
          go_wp2_with fail
          refine (Q1.out _).mono ?_
          rintro e w' ⟨rfl, rfl⟩
          go_wp2_with fail
          refine (Q2.out _).mono ?_
          rintro e w' ⟨rfl, rfl⟩
          go_wp2_with fail
          go_region_held3 (fun w' => Below w.heap.size w w' ∧ w'.cell? ⟨bl, ol + j, none⟩ = some (.int .i64 (f j)) ∧ w'.cell? ⟨bt, ot + j, none⟩ = some (.string (g j)))
            (first | exact ⟨by assumption, by assumption, by assumption⟩ | exact ⟨Below.drew (by assumption), by assumption, by assumption⟩ | go_keep)
            ((go_at_call 11; refine (HNK.out _ ?_).mono ?_; (first | assumption | (exact Below.drew (by assumption))); rintro e w' ⟨rfl, hs1, hs2, hs3⟩))
          clear c1 c2 hm1 hm2 hm3 hm4
          go_wp2
          exact ⟨⟨j + 1, a2, by omega, by go_num, rfl, hA2, by assumption⟩, by simp [intOf]; omega⟩
        · obtain rfl : j = k := by omega
          have hae : a = T.size := by
            have h1 := ha.out
            have h2 := congrArg List.length HTE.out
            rw [← h1] at h2
            simpa using h2.symm
          have hnone := int_in T a wr (by unfold maxLen; omega) haT
          rw [hdrop, Nat.sub_self] at hnone
          have HNO := Lib.hid hnone
          clear hnone hdrop hTd
          have hae2 : ((a : Int) == (T.size : Int)) = true := beq_iff_eq.2 (by omega)
          have HAE := Lib.hid hae
          clear hae
          go_wp2_with fail
          refine HNO.out.mono ?_
          rintro e w' ⟨rfl, rfl⟩
          unfold seqEnc intDec idec intVal
          go_wp2
          go_ret
          exact ⟨rfl, hBv⟩
end Go.Proofs.YteokkedaipbhlaaDoor
