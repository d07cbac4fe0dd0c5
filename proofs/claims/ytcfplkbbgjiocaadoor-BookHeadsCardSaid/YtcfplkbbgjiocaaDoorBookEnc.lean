/- Encode of package book and of the reference. Condition: a posting of numbers of 64 bits. -/
import Derived.Test.YtcfplkbbgjiocaaDoorBookMem
import Derived.Test.YtcfplkbbgjiocaaDoorBookCode
import Derived.Test.YtcfplkbbgjiocaaDoorPutInt
import Derived.Test.YtcfplkbbgjiocaaDoorRefPutInt
import Derived.Test.YtcfplkbbgjiocaaDoorBuilder
namespace Go.Proofs.YtcfplkbbgjiocaaDoor
open Go Go.RowKit Go.Shelf
/-- The bytes of the first k numbers of a posting. -/
def encN (p : Pst) (k : Nat) : List UInt8 := encL ((List.range k).map (fld p))
def encB (p : Pst) (k : Nat) : ByteArray := ⟨(encN p k).toArray⟩
def encP (p : Pst) : ByteArray := encB p 7
def EncOk (p : Pst) : Prop := ∀ c, c < 7 → InI (fld p c)
instance (p : Pst) : Decidable (EncOk p) := by unfold EncOk; infer_instance
def encV (p : Pst) : Value := if EncOk p then .tuple #[.string (encP p), .int .i64 0] else .tuple #[.string ⟨#[]⟩, .int .i64 270]
theorem encN_succ (p : Pst) (k : Nat) : encN p (k + 1) = encN p k ++ vbytes (zig (fld p k)) := by
  unfold encN
  rw [List.range_succ, List.map_append, List.map_singleton, encL_snoc]
theorem encB_succ (p : Pst) (k : Nat) : encB p (k + 1) = encB p k ++ ⟨(vbytes (zig (fld p k))).toArray⟩ := by
  unfold encB
  rw [encN_succ]
  apply ByteArray.ext
  simp
theorem encN_length (p : Pst) (k : Nat) : (encN p k).length ≤ 10 * k := by
  have := encL_size ((List.range k).map (fld p))
  simpa [encN] using this
theorem encB_size (p : Pst) (k : Nat) : (encB p k).size ≤ 10 * k := by
  have := encN_length p k
  show (encN p k).toArray.size ≤ _
  simpa using this
set_option maxRecDepth 100000 in
set_option maxHeartbeats 2000000 in
theorem ref_Encode_any (p : Pst) (w : World) :
    Calls Tryd.prog 7 #[.agg p.cells] w fun e w' => e = .returned (encV p) ∧ Below w.heap.size w w' := by
  have hal : Below w.heap.size w ((w.alloc (.cells p.cells 27)).alloc (.cells p.cells 3)) := ((Below.refl _ _).alloc (Nat.le_refl _) _).alloc (by simp) _
  have hcl : ∀ k, k < 7 → ((w.alloc (.cells p.cells 27)).alloc (.cells p.cells 3)).cell? ⟨w.heap.size + 1, k, none⟩ = some (.int .i64 (fld p k)) := fun k hk => by
    rcases (show k = 0 ∨ k = 1 ∨ k = 2 ∨ k = 3 ∨ k = 4 ∨ k = 5 ∨ k = 6 by omega) with rfl | rfl | rfl | rfl | rfl | rfl | rfl <;> simp [Pst.cells, fld]
  have HAL := Lib.hid hal
  have HCL := Lib.hid hcl
  have HOK : Hid (EncOk p → encV p = .tuple #[.string (encP p), .int .i64 0]) := Lib.hid (fun h => by unfold encV; rw [if_pos h])
  have HNO : Hid (¬ EncOk p → encV p = .tuple #[.string ⟨#[]⟩, .int .i64 270]) := Lib.hid (fun h => by unfold encV; rw [if_neg h])
  clear hal hcl
  unfold Pst.cells at *
  go_enter Tryd.func7, Tryd.ntmps7
  go_wp2_with fail
  go_loopw [4, 6] (fun v4 v6 wr => ∃ k : Nat, k ≤ 7 ∧ v4 = .string (encB p k) ∧ v6 = .int .i64 (k : Nat) ∧ Hid (∀ c, c < k → InI (fld p c)) ∧ Hid (Below w.heap.size w wr) ∧ Hid (∀ j, j < 7 → wr.cell? ⟨w.heap.size + 1, j, none⟩ = some (.int .i64 (fld p j)))) (fun _ v6 _ => 7 - (intOf v6).toNat)
  case atStart => exact ⟨0, by omega, rfl, rfl, Lib.hid (fun c h => by omega), HAL, HCL⟩
  case round =>
    obtain ⟨k, hk, rfl, rfl, hall, hB, hcl⟩ := hrel
    by_cases hlt : k < 7
    · have c1 := hcl.out k hlt
      have v0 : (0 : Int) ≤ (k : Int) := by omega
      have v1 : (k : Int) < 7 := by omega
      have hsu := encB_succ p k
      have hsz := encB_size p k
      obtain ⟨x, hx⟩ : ∃ x, fld p k = x := ⟨_, rfl⟩
      obtain ⟨E, hE⟩ : ∃ E, encB p k = E := ⟨_, rfl⟩
      rw [hx] at c1 hsu
      rw [hE] at hsu hsz ⊢
      have HX := Lib.hid hx
      by_cases hin : InI x
      · have HPI := Lib.hid (refPutInt_ok x hin.1 hin.2 wr)
        have hvl := vbytes_le (zig x)
        obtain ⟨V, hV⟩ : ∃ V : ByteArray, (⟨(vbytes (zig x)).toArray⟩ : ByteArray) = V := ⟨_, rfl⟩
        have hvz : V.size ≤ 10 := by
          rw [← hV]
          show (vbytes (zig x)).toArray.size ≤ 10
          simpa using hvl
        rw [hV] at HPI hsu
        have HSU := Lib.hid hsu
        have hez : E.size ≤ 100 := by omega
        have q2 : ¬ 9223372036854775807 < E.size + V.size := by omega
        have HIN := Lib.hid hin
        clear hx hE hsu hsz hvl hV hin
        go_wp2_with fail
        refine HPI.out.mono ?_
        rintro e w2 ⟨rfl, hb2⟩
        have HB2 := Lib.hid (hB.out.trans (hb2.mono hB.out.size))
        have HC2 : Hid (∀ j, j < 7 → w2.cell? ⟨w.heap.size + 1, j, none⟩ = some (.int .i64 (fld p j))) := Lib.hid (fun j hj => (hb2.cell (p := ⟨w.heap.size + 1, j, none⟩) (cell_lt (hcl.out j hj))).trans (hcl.out j hj))
        clear hb2 c1
        go_wp2_with fail
        refine ⟨⟨k + 1, by omega, by rw [HSU.out], by go_num, Lib.hid (fun c hc => ?_), HB2, HC2⟩, by simp [intOf]; omega⟩
        by_cases hck : c = k
        · rw [hck, HX.out]; exact HIN.out
        · exact hall.out c (by omega)
      · have HPI := Lib.hid (refPutInt_bad x (by unfold InI at hin; omega) wr)
        have HRES := HNO.out (fun h => hin (by rw [← HX.out]; exact h k hlt))
        have HR := Lib.hid HRES
        clear hx hE hsu hsz hin HRES
        go_wp2_with fail
        refine HPI.out.mono ?_
        rintro e w2 ⟨rfl, rfl⟩
        go_wp2_with fail
        go_ret2
        exact ⟨by rw [HR.out]; rfl, hB.out⟩
    · obtain rfl : k = 7 := by omega
      have HR := Lib.hid (HOK.out hall.out)
      have hex : ¬ ((7 : Nat) : Int) < 7 := by omega
      go_wp2_with fail
      go_ret2
      exact ⟨by rw [HR.out]; rfl, hB.out⟩
theorem builder_below {T e : TypeId} {B b : Nat} {bs : List Value} {w w' : World} (h : Lib.IsBuilder T e B b bs w) (hb : Below w.heap.size w w') : Lib.IsBuilder T e B b bs w' := by
  have one : ∀ p, Lib.BuilderAt T e B b p bs w → Lib.BuilderAt T e B b p bs w' := fun p h => by
    have hlt := h.lt
    obtain ⟨hB, v, hbk, hown, hne⟩ := h
    exact ⟨hB, v, (hb.block b hlt).trans hbk, ownP_below hown hb, hne⟩
  exact h.imp (one _) (one _)
set_option maxRecDepth 100000 in
set_option maxHeartbeats 2000000 in
theorem Encode_any (p : Pst) (w : World) :
    Calls Tryd.prog 6 #[.agg p.cells] w fun e w' => e = .returned (encV p) ∧ Below w.heap.size w w' := by
  have hal : Below w.heap.size w (((w.alloc (.cells p.cells 27)).alloc (.cells #[.pointer none, .slice none 0 0] 59)).alloc (.cells p.cells 3)) := (((Below.refl _ _).alloc (Nat.le_refl _) _).alloc (by simp) _).alloc (by simp; omega) _
  have hcl : (((w.alloc (.cells p.cells 27)).alloc (.cells #[.pointer none, .slice none 0 0] 59)).alloc (.cells p.cells 3)).heap[w.heap.size + 1 + 1]? = some (.cells p.cells 3 (0, 0)) := by
    have := heap_alloc_new ((w.alloc (.cells p.cells 27)).alloc (.cells #[.pointer none, .slice none 0 0] 59)) (.cells p.cells 3)
    rwa [show ((w.alloc (.cells p.cells 27)).alloc (.cells #[.pointer none, .slice none 0 0] 59)).heap.size = w.heap.size + 1 + 1 by simp] at this
  have HCE : Hid (∀ (W : World), W.heap[w.heap.size + 1 + 1]? = some (.cells p.cells 3 (0, 0)) → ∀ k, k < 7 → W.cell? ⟨w.heap.size + 1 + 1, k, none⟩ = some (.int .i64 (fld p k))) := Lib.hid (fun W h k hk => by
    rw [Lib.cell_of_heap h]
    rcases (show k = 0 ∨ k = 1 ∨ k = 2 ∨ k = 3 ∨ k = 4 ∨ k = 5 ∨ k = 6 by omega) with rfl | rfl | rfl | rfl | rfl | rfl | rfl <;> first | done | rfl)
  have hbd : Lib.IsBuilder 59 5 w.heap.size (w.heap.size + 1) [] (((w.alloc (.cells p.cells 27)).alloc (.cells #[.pointer none, .slice none 0 0] 59)).alloc (.cells p.cells 3)) := .inl ⟨by omega, .slice none 0 0, by
    have := heap_alloc_new (w.alloc (.cells p.cells 27)) (.cells #[.pointer none, .slice none 0 0] 59)
    rw [show (w.alloc (.cells p.cells 27)).heap.size = w.heap.size + 1 by simp] at this
    exact (((Below.refl _ _).alloc (Nat.le_refl _) (.cells p.cells 3)).block (w.heap.size + 1) (by simp)).trans this
    , World.ownsRow_nil _ _ _ _, by simp [Value.ownBlock]⟩
  have HAL := Lib.hid hal
  have HCL := Lib.hid hcl
  have HBD := Lib.hid hbd
  have HOK : Hid (EncOk p → encV p = .tuple #[.string (encP p), .int .i64 0]) := Lib.hid (fun h => by unfold encV; rw [if_pos h])
  have HNO : Hid (¬ EncOk p → encV p = .tuple #[.string ⟨#[]⟩, .int .i64 270]) := Lib.hid (fun h => by unfold encV; rw [if_neg h])
  clear hal hcl hbd
  unfold Pst.cells at *
  go_enter Tryd.func6, Tryd.ntmps6
  go_wp2_with fail
  go_loopw [25] (fun v25 wr => ∃ k : Nat, k ≤ 7 ∧ v25 = .int .i64 (k : Nat) ∧ Hid (∀ c, c < k → InI (fld p c)) ∧ Hid (Below w.heap.size w wr) ∧ Hid (Lib.IsBuilder 59 5 w.heap.size (w.heap.size + 1) (Lib.byteCells (encN p k)) wr) ∧ Hid (wr.heap[w.heap.size + 1 + 1]? = some (.cells #[.int .i64 p.kind, .int .i64 p.day, .int .i64 p.deb, .int .i64 p.cre, .int .i64 p.amt, .int .i64 p.sub, .int .i64 p.of] 3 (0, 0)))) (fun v25 _ => 7 - (intOf v25).toNat)
  case atStart => exact ⟨0, by omega, rfl, Lib.hid (fun c h => by omega), HAL, HBD, HCL⟩
  case round =>
    obtain ⟨k, hk, rfl, hall, hB, hbd, hcl⟩ := hrel
    by_cases hlt : k < 7
    · have c1 := HCE.out wr hcl.out k hlt
      have v0 : (0 : Int) ≤ (k : Int) := by omega
      have v1 : (k : Int) < 7 := by omega
      have hsu := encN_succ p k
      have hsz := encN_length p k
      obtain ⟨x, hx⟩ : ∃ x, fld p k = x := ⟨_, rfl⟩
      obtain ⟨E, hE⟩ : ∃ E, encN p k = E := ⟨_, rfl⟩
      rw [hx] at c1 hsu
      rw [hE] at hsu hsz hbd
      have HX := Lib.hid hx
      by_cases hin : InI x
      · have HPI := Lib.hid (putInt_ok x hin.1 hin.2 wr)
        have hvl := vbytes_le (zig x)
        obtain ⟨V, hV⟩ : ∃ V : List UInt8, vbytes (zig x) = V := ⟨_, rfl⟩
        rw [hV] at HPI hsu hvl
        have HSU := Lib.hid hsu
        have HIN := Lib.hid hin
        have HZ : Hid ((Lib.byteCells E).length + (⟨V.toArray⟩ : ByteArray).size ≤ 1000) := Lib.hid (by
          have h1 : (Lib.byteCells E).length = E.length := by simp [Lib.byteCells]
          have h2 : (⟨V.toArray⟩ : ByteArray).size = V.length := rfl
          rw [h1, h2]
          omega)
        clear hx hE hsu hsz hvl hV hin
        go_wp2_with fail
        refine HPI.out.mono ?_
        rintro e w2 ⟨rfl, hb2⟩
        have HB2 := Lib.hid (hB.out.trans (hb2.mono hB.out.size))
        have HC2 : Hid (w2.heap[w.heap.size + 1 + 1]? = some (.cells #[.int .i64 p.kind, .int .i64 p.day, .int .i64 p.deb, .int .i64 p.cre, .int .i64 p.amt, .int .i64 p.sub, .int .i64 p.of] 3 (0, 0))) := Lib.hid ((hb2.block _ ((Array.getElem?_eq_some_iff.1 hcl.out).1)).trans hcl.out)
        have HBD2 : Hid (Lib.IsBuilder 59 5 w.heap.size (w.heap.size + 1) (Lib.byteCells E) w2) := Lib.hid (builder_below hbd.out hb2)
        clear hb2 c1
        go_wp2_with fail
        have HWS := Lib.hid (writeString_any w.heap.size (w.heap.size + 1) (Lib.byteCells E) ⟨V.toArray⟩ w2 HBD2.out (by have := HZ.out; omega) HB2.out.size)
        refine HWS.out.mono ?_
        rintro e w3 ⟨rfl, hbd3, hb3, hk3⟩
        have HB3 := Lib.hid (HB2.out.trans hb3)
        have HC3 : Hid (w3.heap[w.heap.size + 1 + 1]? = some (.cells #[.int .i64 p.kind, .int .i64 p.day, .int .i64 p.deb, .int .i64 p.cre, .int .i64 p.amt, .int .i64 p.sub, .int .i64 p.of] 3 (0, 0))) := Lib.hid (hk3 _ _ HC2.out (by simp) (fun c fz h => by cases h))
        have HBD3 := Lib.hid hbd3
        clear hbd3 hb3 hk3 HWS
        go_wp2_with fail
        refine ⟨⟨k + 1, by omega, by go_num, Lib.hid (fun c hc => ?_), HB3, Lib.hid (.inr ?_), HC3⟩, by simp [intOf]; omega⟩
        · by_cases hck : c = k
          · rw [hck, HX.out]; exact HIN.out
          · exact hall.out c (by omega)
        · rw [HSU.out]
          have := HBD3.out
          rw [show Lib.strCells ⟨V.toArray⟩ = Lib.byteCells V from rfl] at this
          simpa [Lib.byteCells] using this
      · have HPI := Lib.hid (putInt_bad x (by unfold InI at hin; omega) wr)
        have HRES := HNO.out (fun h => hin (by rw [← HX.out]; exact h k hlt))
        have HR := Lib.hid HRES
        clear hx hE hsu hsz hin HRES
        go_wp2_with fail
        refine HPI.out.mono ?_
        rintro e w2 ⟨rfl, rfl⟩
        go_wp2_with fail
        go_ret2
        exact ⟨by rw [HR.out]; rfl, hB.out⟩
    · obtain rfl : k = 7 := by omega
      have HR := Lib.hid (HOK.out hall.out)
      have HST := Lib.hid (Tryd.Builder_String_any w.heap.size (w.heap.size + 1) (encN p 7) wr hbd.out hB.out.size)
      have hex : ¬ ((7 : Nat) : Int) < 7 := by omega
      go_wp2_with fail
      refine HST.out.mono ?_
      rintro e w2 ⟨rfl, hb2⟩
      have HB2 := Lib.hid (hB.out.trans hb2)
      clear hb2
      go_wp2_with fail
      go_ret2
      exact ⟨by rw [HR.out]; rfl, HB2.out⟩
end Go.Proofs.YtcfplkbbgjiocaaDoor
