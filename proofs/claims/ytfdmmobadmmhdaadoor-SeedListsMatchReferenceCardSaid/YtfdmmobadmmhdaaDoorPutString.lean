/- Package wire: PutString returns the length's bytes and the string, or an error; the reference's too. Condition: the string is no longer than a string may be. -/
import Derived.Test.YtfdmmobadmmhdaaDoorPutInt
import Derived.Test.YtfdmmobadmmhdaaDoorRefPutInt
namespace Go.Proofs.YtfdmmobadmmhdaaDoor
open Go Go.RowKit
/-- What PutString returns. -/
def putS (s : ByteArray) : Value :=
  if 65536 < s.size then .tuple #[.string ⟨#[]⟩, .int .i64 10] else .tuple #[.string (⟨(vbytes (zig s.size)).toArray⟩ ++ s), .int .i64 0]
set_option maxRecDepth 100000 in
set_option maxHeartbeats 1000000 in
theorem putString_any (s : ByteArray) (w : World) (hs : s.size ≤ maxLen) :
    Calls Tryd.prog 27 #[.string s] w fun e w' => e = .returned (putS s) ∧ Below w.heap.size w w' := by
  unfold maxLen at hs
  by_cases h : 65536 < s.size
  · have hr : putS s = .tuple #[.string ⟨#[]⟩, .int .i64 10] := by unfold putS; rw [if_pos h]
    rw [hr]
    clear hr
    go_enter Tryd.func27, Tryd.ntmps27
    go_wp2
    go_ret2
    exact ⟨rfl, Below.refl _ _⟩
  · have hr : putS s = .tuple #[.string (⟨(vbytes (zig s.size)).toArray⟩ ++ s), .int .i64 0] := by unfold putS; rw [if_neg h]
    rw [hr]
    clear hr
    have hl := vbytes_le (zig s.size)
    go_enter Tryd.func27, Tryd.ntmps27
    go_wp2_with (go_at_call 28; refine (putInt_ok _ (by omega) (by omega) _).mono ?_; rintro e w' ⟨rfl, hB⟩)
    go_ret2
    exact ⟨rfl, hB⟩
set_option maxRecDepth 100000 in
set_option maxHeartbeats 1000000 in
theorem refPutString_any (s : ByteArray) (w : World) (hs : s.size ≤ maxLen) :
    Calls Tryd.prog 32 #[.string s] w fun e w' => e = .returned (putS s) ∧ Below w.heap.size w w' := by
  unfold maxLen at hs
  by_cases h : 65536 < s.size
  · have hr : putS s = .tuple #[.string ⟨#[]⟩, .int .i64 10] := by unfold putS; rw [if_pos h]
    rw [hr]
    clear hr
    go_enter Tryd.func32, Tryd.ntmps32
    go_wp2
    go_ret2
    exact ⟨rfl, Below.refl _ _⟩
  · have hr : putS s = .tuple #[.string (⟨(vbytes (zig s.size)).toArray⟩ ++ s), .int .i64 0] := by unfold putS; rw [if_neg h]
    rw [hr]
    clear hr
    have hl := vbytes_le (zig s.size)
    go_enter Tryd.func32, Tryd.ntmps32
    go_wp2_with (go_at_call 33; refine (refPutInt_ok _ (by omega) (by omega) _).mono ?_; rintro e w' ⟨rfl, hB⟩)
    go_ret2
    exact ⟨rfl, hB⟩
end Go.Proofs.YtfdmmobadmmhdaaDoor
