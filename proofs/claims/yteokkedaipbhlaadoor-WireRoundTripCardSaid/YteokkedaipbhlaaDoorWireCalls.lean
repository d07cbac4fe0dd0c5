/- Int and String at an encoding, wherever it is embedded. Conditions: the number is in range; the strings together are no longer than a string may be. -/
import Derived.Test.YteokkedaipbhlaaDoorWireLaw
import Derived.Test.YteokkedaipbhlaaDoorPutString
namespace Go.Proofs.YteokkedaipbhlaaDoor
open Go Go.RowKit
theorem append_list (A B : ByteArray) : (A ++ B).data.toList = A.data.toList ++ B.data.toList := by simp
theorem drop_mid (A E B : ByteArray) : (A ++ E ++ B).data.toList.drop A.size = E.data.toList ++ B.data.toList := by
  rw [append_list, append_list, List.append_assoc, List.drop_left' (by simp)]
theorem int_round (A E B : ByteArray) (n : Int) (w : World) (n1 : -4611686018427387903 ≤ n) (n2 : n ≤ 4611686018427387903) (hE : E.data.toList = vbytes (zig n)) (hs : (A ++ E ++ B).size ≤ maxLen) :
    Calls Tryd.prog 15 #[.string (A ++ E ++ B), .int .i64 (A.size : Int)] w fun e w' => e = .returned (.tuple #[.int .i64 n, .int .i64 ((A.size : Int) + (E.size : Int)), .int .i64 0]) ∧ w = w' := by
  have h := int_in (A ++ E ++ B) A.size w hs (by simp; omega)
  rw [drop_mid, hE, intDec_enc n n1 n2] at h
  have e : (vbytes (zig n)).length = E.size := by rw [← hE]; simp
  rw [e] at h
  simpa [intVal] using h
theorem bytes_ext {a b : ByteArray} (h : a.data.toList = b.data.toList) : a = b := by
  apply ByteArray.ext
  exact Array.toList_inj.1 h
theorem string_round (A G B S : ByteArray) (w : World) (hS : S.size ≤ 65536) (hG : G.data.toList = vbytes (zig S.size) ++ S.data.toList) (hs : (A ++ G ++ B).size ≤ maxLen) :
    Calls Tryd.prog 17 #[.string (A ++ G ++ B), .int .i64 (A.size : Int)] w fun e w' => e = .returned (.tuple #[.string S, .int .i64 ((A.size : Int) + (G.size : Int)), .int .i64 0]) ∧ w = w' := by
  have h := string_any (A ++ G ++ B) A.size w hs
  have hl : G.size = (vbytes (zig S.size)).length + S.size := by
    have := congrArg List.length hG
    simpa using this
  have hv : wString (A ++ G ++ B) A.size = .tuple #[.string S, .int .i64 ((A.size : Int) + (G.size : Int)), .int .i64 0] := by
    unfold wString
    rw [if_neg (by simp; omega)]
    simp only [Int.toNat_natCast]
    rw [drop_mid, hG, List.append_assoc, intDec_enc S.size (by omega) (by omega)]
    unfold strVal
    simp only
    have hsz : (A ++ G ++ B).size = A.size + G.size + B.size := by simp
    rw [if_neg (by rw [hsz]; omega)]
    have hx : (A ++ G ++ B).extract (A.size + (vbytes (zig S.size)).length) (A.size + (vbytes (zig S.size)).length + (S.size : Int).toNat) = S := by
      apply bytes_ext
      rw [extract_list, append_list, append_list, List.append_assoc, hG]
      rw [show A.size + (vbytes (zig S.size)).length + (S.size : Int).toNat - (A.size + (vbytes (zig S.size)).length) = S.size by omega]
      rw [← List.drop_drop, List.drop_left' (by simp), List.append_assoc, List.drop_left' rfl, List.take_left' (by simp)]
    have hy : ((A.size + (vbytes (zig S.size)).length : Nat) : Int) + (S.size : Int) = (A.size : Int) + (G.size : Int) := by
      rw [hl]; omega
    rw [hx, hy]
  rw [hv] at h
  exact h
end Go.Proofs.YteokkedaipbhlaaDoor
