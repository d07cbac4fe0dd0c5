/- Int and String at an encoding, wherever it is embedded. Conditions: the number is in range; the strings together are no longer than a string may be. -/
import Derived.Test.YteokkedaipbhlaaDoorWireLaw
import Derived.Test.YteokkedaipbhlaaDoorPutString
namespace Go.Proofs.YteokkedaipbhlaaDoor
open Go Go.RowKit
theorem append_list (A B : ByteArray) : (A ++ B).data.toList = A.data.toList ++ B.data.toList := by simp
theorem drop_mid (A E B : ByteArray) : (A ++ E ++ B).data.toList.drop A.size = E.data.toList ++ B.data.toList := by
  rw [append_list, append_list, List.append_assoc, List.drop_left' (by simp)]
theorem int_round (A E B : ByteArray) (n : Int) (w : World) (n1 : -4611686018427387903 ≤ n) (n2 : n ≤ 4611686018427387903) (hE : E.data.toList = vbytes (zig n)) (hs : (A ++ E ++ B).size ≤ maxLen) :
    Calls Tryd.prog 15 #[.string (A ++ E ++ B), .int .i64 (A.size : Int)] w fun e w' => e = .returned (.tuple #[.int .i64 n, .int .i64 ((A.size : Int) + (E.size : Int)), .int .i64 0]) ∧ w = w' := by
  have h := int_in (A ++ E ++ B) A.size w hs (by simp; omega)
  rw [drop_mid, hE, intDec_enc n n1 n2] at h
  have e : (vbytes (zig n)).length = E.size := by rw [← hE]; simp
  rw [e] at h
  simpa [intVal] using h
theorem bytes_ext {a b : ByteArray} (h : a.data.toList = b.data.toList) : a = b := by
  apply ByteArray.ext
  exact Array.toList_inj.1 h
theorem string_round (A G B S : ByteArray) (w : World) (hS : S.size ≤ 65536) (hG : G.data.toList = vbytes (zig S.size) ++ S.data.toList) (hs : (A ++ G ++ B).size ≤ maxLen) :
    Calls Tryd.prog 17 #[.string (A ++ G ++ B), .int .i64 (A.size : Int)] w fun e w' => e = .returned (.tuple #[.string S, .int .i64 ((A.size : Int) + (G.size : Int)), .int .i64 0]) ∧ w = w' := by
  have h := string_any (A ++ G ++ B) A.size w hs
  have hl : G.size = (vbytes (zig S.size)).length + S.size := by
    have := congrArg List.length hG
    simpa using this
  have hv : wString (A ++ G ++ B) A.size = .tuple #[.string S, .int .i64 ((A.size : Int) + (G.size : Int)), .int .i64 0] := by
    unfold wString
    rw [if_neg (by simp; omega)]
    simp only [Int.toNat_natCast]
    rw [drop_mid, hG, List.append_assoc, intDec_enc S.size (by omega) (by omega)]
    unfold strVal
    simp only
    have hsz : (A ++ G ++ B).size = A.size + G.size + B.size := by simp
    rw [if_neg (by rw [hsz]; omega)]
    have hx : (A ++ G ++ B).extract (A.size + (vbytes (zig S.size)).length) (A.size + (vbytes (zig S.size)).length + (S.size : Int).toNat) = S := by
      apply bytes_ext
      rw [extract_list, append_list, append_list, List.append_assoc, hG]
      rw [show A.size + (vbytes (zig S.size)).length + (S.size : Int).toNat - (A.size + (vbytes (zig S.size)).length) = S.size by omega]
      rw [← List.drop_drop, List.drop_left' (by simp), List.append_assoc, List.drop_left' rfl, List.take_left' (by simp)]
    have hy : ((A.size + (vbytes (zig S.size)).length : Nat) : Int) + (S.size : Int) = (A.size : Int) + (G.size : Int) := by
      rw [hl]; omega
    rw [hx, hy]
  rw [hv] at h
  exact h
/-- What Int finds at an offset: nothing, or the bytes that PutInt returns for the number. -/
theorem int_ways (T : ByteArray) (k : Nat) (hk : k ≤ T.size) (hs : T.size ≤ maxLen) :
    (∀ w, Calls Tryd.prog 15 #[.string T, .int .i64 (k : Int)] w fun e w' => e = .returned (.tuple #[.int .i64 0, .int .i64 0, .int .i64 10]) ∧ w = w') ∨
    ∃ (n : Int) (x : Nat) (E : ByteArray), -4611686018427387903 ≤ n ∧ n ≤ 4611686018427387903 ∧ k < x ∧ x ≤ T.size ∧ T.extract k x = E ∧
      (∀ w, Calls Tryd.prog 15 #[.string T, .int .i64 (k : Int)] w fun e w' => e = .returned (.tuple #[.int .i64 n, .int .i64 (x : Int), .int .i64 0]) ∧ w = w') ∧
      (∀ w, Calls Tryd.prog 12 #[.int .i64 n] w fun e w' => e = .returned (.tuple #[.string E, .int .i64 0]) ∧ Below w.heap.size w w') := by
  cases h : intDec (T.data.toList.drop k) with
  | none =>
    refine .inl fun w => ?_
    have hc := int_in T k w hs hk
    rwa [h] at hc
  | some p =>
    obtain ⟨n, j⟩ := p
    have hb := intDec_bd h
    have hd := intDec_sound h
    have hj : j ≤ T.size - k := by have := hb.2.2.2.1; simpa using this
    refine .inr ⟨n, k + j, _, hd.2.1, hd.2.2.1, by omega, by omega, rfl, fun w => ?_, fun w => ?_⟩
    · have hc := int_in T k w hs hk
      rwa [h] at hc
    · have hc := putInt_ok n hd.2.1 hd.2.2.1 w
      have e : (⟨(vbytes (zig n)).toArray⟩ : ByteArray) = T.extract k (k + j) := bytes_eq (by rw [extract_list, ← hd.1]; congr 1; omega)
      rwa [e] at hc
/-- What String finds at an offset: nothing, or the bytes that PutString returns for the string. -/
theorem string_ways (T : ByteArray) (k : Nat) (hk : k ≤ T.size) (hs : T.size ≤ maxLen) :
    (∀ w, Calls Tryd.prog 17 #[.string T, .int .i64 (k : Int)] w fun e w' => e = .returned (.tuple #[.string ⟨#[]⟩, .int .i64 0, .int .i64 10]) ∧ w = w') ∨
    ∃ (V : ByteArray) (x : Nat) (G : ByteArray), k < x ∧ x ≤ T.size ∧ T.extract k x = G ∧
      (∀ w, Calls Tryd.prog 17 #[.string T, .int .i64 (k : Int)] w fun e w' => e = .returned (.tuple #[.string V, .int .i64 (x : Int), .int .i64 0]) ∧ w = w') ∧
      (∀ w, Calls Tryd.prog 19 #[.string V] w fun e w' => e = .returned (.tuple #[.string G, .int .i64 0]) ∧ Below w.heap.size w w') := by
  have hw : wString T k = strVal T k (intDec (T.data.toList.drop k)) := by unfold wString; rw [if_neg (by omega)]; simp
  cases h : intDec (T.data.toList.drop k) with
  | none =>
    refine .inl fun w => ?_
    have hc := string_any T k w hs
    rwa [hw, h] at hc
  | some p =>
    obtain ⟨n, j⟩ := p
    have hb := intDec_bd h
    have hd := intDec_sound h
    have hj : j ≤ T.size - k := by have := hb.2.2.2.1; simpa using this
    rw [h] at hw
    unfold strVal at hw
    simp only at hw
    by_cases hx : n < 0 ∨ 65536 < n ∨ (T.size : Int) - ((k + j : Nat) : Int) < n
    · rw [if_pos hx] at hw
      refine .inl fun w => ?_
      have hc := string_any T k w hs
      rwa [hw] at hc
    · rw [if_neg hx] at hw
      have hV : (T.extract (k + j) (k + j + n.toNat)).size = n.toNat := by simp; omega
      refine .inr ⟨T.extract (k + j) (k + j + n.toNat), k + j + n.toNat, _, by omega, by omega, rfl, fun w => ?_, fun w => ?_⟩
      · have hc := string_any T k w hs
        rw [hw] at hc
        have e : ((k + j : Nat) : Int) + n = ((k + j + n.toNat : Nat) : Int) := by omega
        rwa [e] at hc
      · have hc := putString_any (T.extract (k + j) (k + j + n.toNat)) w (by rw [hV]; unfold maxLen; omega)
        unfold putS at hc
        rw [if_neg (by omega), hV] at hc
        have e : (⟨(vbytes (zig (n.toNat : Int))).toArray⟩ : ByteArray) ++ T.extract (k + j) (k + j + n.toNat) = T.extract k (k + j + n.toNat) := by
          apply bytes_ext
          rw [append_list, extract_list, extract_list]
          rw [show ((n.toNat : Nat) : Int) = n by omega]
          show vbytes (zig n) ++ _ = _
          rw [← hd.1, ← List.drop_drop, show k + j + n.toNat - (k + j) = n.toNat by omega, show k + j + n.toNat - k = j + n.toNat by omega, List.take_add]
        rwa [e] at hc
/-- A proper prefix of an integer's encoding is refused. -/
theorem int_prefix (E : ByteArray) (n : Int) (p : Nat) (w : World) (n1 : -4611686018427387903 ≤ n) (n2 : n ≤ 4611686018427387903) (hE : E.data.toList = vbytes (zig n)) (hp : p < E.size) (hs : E.size ≤ maxLen) :
    Calls Tryd.prog 15 #[.string (E.extract 0 p), .int .i64 0] w fun e w' => e = .returned (.tuple #[.int .i64 0, .int .i64 0, .int .i64 10]) ∧ w = w' := by
  have hc := int_in (E.extract 0 p) 0 w (by simp; omega) (by omega)
  have hl : (vbytes (zig n)).length = E.size := by rw [← hE]; simp
  rw [extract_list, hE, List.drop_zero, List.drop_zero, Nat.sub_zero, intDec_prefix n n1 n2 p (by omega)] at hc
  exact hc
theorem string_prefix (G S : ByteArray) (q : Nat) (w : World) (hS : S.size ≤ 65536) (hG : G.data.toList = vbytes (zig S.size) ++ S.data.toList) (hq : q < G.size) (hs : G.size ≤ maxLen) :
    Calls Tryd.prog 17 #[.string (G.extract 0 q), .int .i64 0] w fun e w' => e = .returned (.tuple #[.string ⟨#[]⟩, .int .i64 0, .int .i64 10]) ∧ w = w' := by
  have hc := string_any (G.extract 0 q) 0 w (by simp; omega)
  have hz : (G.extract 0 q).size = q := by simp; omega
  have hl : G.size = (vbytes (zig S.size)).length + S.size := by
    have := congrArg List.length hG
    simpa using this
  have hv : wString (G.extract 0 q) 0 = .tuple #[.string ⟨#[]⟩, .int .i64 0, .int .i64 10] := by
    unfold wString
    rw [if_neg (by omega)]
    simp only [Int.toNat_zero, List.drop_zero]
    rw [extract_list, hG, List.drop_zero, Nat.sub_zero]
    rcases Nat.lt_or_ge q (vbytes (zig S.size)).length with h | h
    · rw [List.take_append_of_le_length (by omega), intDec_prefix S.size (by omega) (by omega) q h]
      rfl
    · rw [List.take_append, List.take_of_length_le h, intDec_enc S.size (by omega) (by omega)]
      unfold strVal
      simp only
      rw [if_pos (by rw [hz]; omega)]
  rw [hv] at hc
  exact hc
end Go.Proofs.YteokkedaipbhlaaDoor
