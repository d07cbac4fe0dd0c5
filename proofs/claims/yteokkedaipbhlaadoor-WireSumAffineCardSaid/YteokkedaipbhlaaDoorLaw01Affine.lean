/- WireSumAffine returns true. Condition: the checksum's table holds its words. -/
import Derived.Test.YteokkedaipbhlaaDoorLaw01Sane
import Derived.RegionTactic
import Derived.ChangeAlike
import Derived.Test.YteokkedaipbhlaaDoorCrcLaw
import Derived.Test.YteokkedaipbhlaaDoorRefIntSpec
import Derived.Deep.QuietTactic
import Derived.BigQuiet
import Derived.Laws.MakeOwn
import Derived.Laws.OwnMore
namespace Go.Proofs.YteokkedaipbhlaaDoor
open Go Go.RowKit
theorem Tryd.info5a : (Tryd.prog.info? 5).map (fun i => (i.zero, i.size, i.bytes)) = some (some (.int .u8 0), 1, 1) := by kernel_rfl
/-- The first k bytes are the three strings' bytes, added bit by bit. -/
def AffInv (a b c : ByteArray) (n k : Nat) (l : List UInt8) : Prop :=
  l.length = n ∧ ∀ j, j < k → l[j]? = some ((a.data.toList.getD j 0 ^^^ b.data.toList.getD j 0) ^^^ c.data.toList.getD j 0)
theorem getD_byte (s : ByteArray) (k : Nat) (h : k < s.size) : s.data.toList.getD k 0 = s[k] := by
  rw [List.getD_eq_getElem?_getD, List.getElem?_eq_getElem (by simpa using h)]; rfl
theorem AffInv.step {a b c : ByteArray} {n k : Nat} {l : List UInt8} {nb : UInt8} (h : AffInv a b c n k l) (ha : k < a.size) (hb : k < b.size) (hc : k < c.size) (hk : k < n) (hn : nb = (a[k] ^^^ b[k]) ^^^ c[k]) :
    AffInv a b c n (k + 1) (l.set k nb) := by
  refine ⟨by rw [List.length_set]; exact h.1, fun j hj => ?_⟩
  by_cases e : j = k
  · subst e
    rw [List.getElem?_set_self (by rw [h.1]; exact hk), hn, getD_byte a j ha, getD_byte b j hb, getD_byte c j hc]
  · rw [List.getElem?_set_ne (by omega)]
    exact h.2 j (by omega)
theorem AffInv.done {a b c A B C : ByteArray} {n : Nat} {l : List UInt8} (h : AffInv a b c n n l) (ha : n ≤ a.size) (hb : n ≤ b.size) (hc : n ≤ c.size)
    (hA : a.extract 0 n = A) (hB : b.extract 0 n = B) (hC : c.extract 0 n = C) : crc l = (crc A.data.toList ^^^ crc B.data.toList) ^^^ crc C.data.toList := by
  have hl := h.1
  rw [← hA, ← hB, ← hC, extract_list, extract_list, extract_list]
  simp only [List.drop_zero, Nat.sub_zero]
  refine crc_affine _ _ _ _ (by simp; omega) (by simp; omega) (by simp; omega) fun j hj => ?_
  rw [hl] at hj
  have := h.2 j hj
  rw [List.getD_eq_getElem?_getD, this]
  simp [List.getD_eq_getElem?_getD, hj]
set_option maxRecDepth 100000 in
set_option maxHeartbeats 1000000 in
theorem wireAffine_any (a b c : ByteArray) (w : World) (ha : a.size ≤ maxLen) (hb : b.size ≤ maxLen) (hc : c.size ≤ maxLen) (hT : TabOk w) (hn : 0 < w.heap.size) :
    Calls Tryd.prog 9 #[.string a, .string b, .string c] w fun e w' => e = .returned (.bool true) ∧ Below w.heap.size w w' := by
  unfold maxLen at ha hb hc
  have hmin : ∃ n : Nat, n ≤ a.size ∧ n ≤ b.size ∧ n ≤ c.size ∧ n ≤ 200 ∧ ∀ ts t W, (Builtin.min_ ts t #[.int .i64 (a.size : Int), .int .i64 (b.size : Int), .int .i64 (c.size : Int), .int .i64 200]).run Tryd.prog W = .ok (.int .i64 (n : Int)) W := by
    refine ⟨min (min (min a.size b.size) c.size) 200, by omega, by omega, by omega, by omega, fun ts t W => ?_⟩
    simp only [Builtin.min_, List.foldlM, Builtin.min2, Sem.run_bind, Sem.run_pure, Result.andThen]
    congr 2
    split <;> split <;> split <;> omega
  obtain ⟨n, hn1, hn2, hn3, hn4, hmin⟩ := hmin
  have HT := Lib.hid hT
  clear hT
  go_enter Tryd.func9, Tryd.ntmps9
  go_wp2_with fail
  refine (sane_any _ HT.out hn).mono ?_
  rintro e w1 ⟨rfl, hB1⟩
  obtain ⟨i0, hi, hz0, hz1, hz2⟩ := info_parts Tryd.info5a
  obtain ⟨w2, hmk, hown, hgr⟩ := run_makeSlice_full (P := Tryd.prog) (w := w1) w.heap.size 38 5 i0 (.int .u8 0) 1 Tryd.underlying38 hi hz0 hz1 .i64 .i64 n (by omega) (by rw [hz2]; omega) (by unfold maxLen; omega) hB1.size
  have hB2 : Below w.heap.size w w2 := hB1.grown hgr hB1.size (fun k e => by cases e)
  have hge : w.heap.size ≤ w1.heap.size := hB1.size
  obtain ⟨B0, hB0⟩ : ∃ B0, w1.heap.size = B0 := ⟨_, rfl⟩
  rw [hB0] at hmk hown hge
  have HOWN := Lib.hid hown
  clear hown hgr hB0 hi hz0 hz1 hz2
  go_wp2_with fail
  clear hmk
  go_loopw [10] (fun i wr => ∃ (k : Nat) (l : List UInt8), k ≤ n ∧ i = .int .i64 k ∧ AffInv a b c n k l ∧ wr.ownsRow w.heap.size 5 1 (.slice (some ⟨B0, 0, none⟩) n n) n (l.map u8v) ∧ Below w.heap.size w wr) (fun i _ => n - (intOf i).toNat)
  case atStart =>
    refine ⟨0, List.replicate n 0, by omega, rfl, ⟨by simp, fun j hj => by omega⟩, ?_, hB2⟩
    have := HOWN.out
    rwa [made_u8] at this
  case round =>
    obtain ⟨k, l, hk, rfl, hinv, hown, hBr⟩ := hrel
    by_cases hlt : k < n
    · have hl := hinv.1
      have HI := Lib.hid hinv
      obtain ⟨o, ho⟩ : ∃ o : UInt8, l[k]? = some o := ⟨_, List.getElem?_eq_getElem (by omega)⟩
      have hcell : wr.cell? ⟨B0, k, none⟩ = some (.int .u8 (o.toNat : Int)) := by
        have := hown.cells (g := B0) rfl k (u8v o) (by simp [ho])
        rwa [addr_add0] at this
      have hfr : wr.frozen? ⟨B0, k, none⟩ = false := hown.frozenAt k
      have hka : k < a.size := by omega
      have hkb : k < b.size := by omega
      have hkc : k < c.size := by omega
      obtain ⟨x1, hx1⟩ : ∃ x1, a[k] ^^^ b[k] = x1 := ⟨_, rfl⟩
      obtain ⟨nb, hnb⟩ : ∃ nb, x1 ^^^ c[k] = nb := ⟨_, rfl⟩
      have e1 : bits .xor .u8 (a[k].toNat : Int) (b[k].toNat : Int) = (x1.toNat : Int) := by
        rw [bitsN8_xor _ _ a[k].toNat_lt b[k].toNat_lt, ← hx1, UInt8.toNat_xor]
      have e2 : bits .xor .u8 (x1.toNat : Int) (c[k].toNat : Int) = (nb.toNat : Int) := by
        rw [bitsN8_xor _ _ x1.toNat_lt c[k].toNat_lt, ← hnb, UInt8.toNat_xor]
      have hst : AffInv a b c n (k + 1) (l.set k nb) := HI.out.step hka hkb hkc hlt (by rw [← hnb, ← hx1])
      have HST := Lib.hid hst
      clear hx1 hnb hst
      go_wp2_with fail
      go_region
      go_wp2
      go_roundw
      case rel =>
        refine ⟨k + 1, l.set k nb, by omega, by go_num, HST.out, ?_, ?_⟩
        · have := (hown.stored k (u8v nb)).1.drew
          rw [List.map_set]
          exact this
        · exact (hBr.setCell hge _).drew
      case measure => simp [intOf]; omega
    · obtain rfl : k = n := by omega
      have hl := hinv.1
      obtain ⟨A, hA⟩ : ∃ A, a.extract 0 k = A := ⟨_, rfl⟩
      obtain ⟨B, hB⟩ : ∃ B, b.extract 0 k = B := ⟨_, rfl⟩
      obtain ⟨C, hC⟩ : ∃ C, c.extract 0 k = C := ⟨_, rfl⟩
      have hfin := hinv.done hn1 hn2 hn3 hA hB hC
      obtain ⟨X, hX⟩ : ∃ X : ByteArray, (⟨l.toArray⟩ : ByteArray) = X := ⟨_, rfl⟩
      have hcv : ∀ nq, (convert 38 9 (.slice (some ⟨B0, 0, none⟩) k k)).run Tryd.prog (wr.drewN nq) = .ok (.string X) (wr.drewN nq) := fun nq => by
        rw [← hX]
        have := own_bytes_string (P := Tryd.prog) (W := wr.drewN nq) (l := l) (by rw [hl]; exact hown) 38 Tryd.underlying38 Tryd.underlying5 9 Tryd.underlying9
        exact this
      have hXs : X.size ≤ maxLen := by
        have : X.size = l.length := by rw [← hX]; rfl
        rw [this, hl]; unfold maxLen; omega
      have hAs : A.size ≤ maxLen := by rw [← hA]; unfold maxLen; simp only [ByteArray.size_extract]; omega
      have hBs : B.size ≤ maxLen := by rw [← hB]; unfold maxLen; simp only [ByteArray.size_extract]; omega
      have hCs : C.size ≤ maxLen := by rw [← hC]; unfold maxLen; simp only [ByteArray.size_extract]; omega
      have hTr : TabOk wr := HT.out.below hBr hn
      have HTR := Lib.hid hTr
      have hXl : X.data.toList = l := by rw [← hX]
      rw [← hXl] at hfin
      have HF := Lib.hid hfin
      clear hinv hl hX hXl hTr hfin hown
      have sX := fun q => (sum_any X (wr.drewN q) hXs HTR.out).mono (R' := fun e w' => e = .returned (.int .i64 (crc X.data.toList : Nat)) ∧ w' = wr.drewN q) fun _ _ h => ⟨h.1, h.2.symm⟩
      have sA := fun q => (sum_any A (wr.drewN q) hAs HTR.out).mono (R' := fun e w' => e = .returned (.int .i64 (crc A.data.toList : Nat)) ∧ w' = wr.drewN q) fun _ _ h => ⟨h.1, h.2.symm⟩
      have sB := fun q => (sum_any B (wr.drewN q) hBs HTR.out).mono (R' := fun e w' => e = .returned (.int .i64 (crc B.data.toList : Nat)) ∧ w' = wr.drewN q) fun _ _ h => ⟨h.1, h.2.symm⟩
      have sC := fun q => (sum_any C (wr.drewN q) hCs HTR.out).mono (R' := fun e w' => e = .returned (.int .i64 (crc C.data.toList : Nat)) ∧ w' = wr.drewN q) fun _ _ h => ⟨h.1, h.2.symm⟩
      have hf := HF.out
      have la := crc_lt A.data.toList
      have lb := crc_lt B.data.toList
      have lc := crc_lt C.data.toList
      obtain ⟨cx, hcx⟩ : ∃ cx, crc X.data.toList = cx := ⟨_, rfl⟩
      obtain ⟨ca, hca⟩ : ∃ ca, crc A.data.toList = ca := ⟨_, rfl⟩
      obtain ⟨cb, hcb⟩ : ∃ cb, crc B.data.toList = cb := ⟨_, rfl⟩
      obtain ⟨cc, hcc⟩ : ∃ cc, crc C.data.toList = cc := ⟨_, rfl⟩
      rw [hcx] at sX hf
      rw [hca] at sA hf la
      rw [hcb] at sB hf lb
      rw [hcc] at sC hf lc
      have e1 : bits .xor .i64 (ca : Int) (cb : Int) = ((ca ^^^ cb : Nat) : Int) := bits64i_xor ca cb (by omega) (by omega)
      have e2 : bits .xor .i64 ((ca ^^^ cb : Nat) : Int) (cc : Int) = (cx : Int) := by
        rw [bits64i_xor _ cc (by have := Nat.xor_lt_two_pow la lb; omega) (by omega), hf]
      obtain ⟨y, hy⟩ : ∃ y, ca ^^^ cb = y := ⟨_, rfl⟩
      rw [hy] at e1 e2
      have SX := Lib.hid sX
      have SA := Lib.hid sA
      have SB := Lib.hid sB
      have SC := Lib.hid sC
      clear sX sA sB sC hcx hca hcb hcc hy hf HF
      go_wp2_with fail
      go_quiet ((go_at_call 21; first | (with_reducible exact Calls.quiet_of_same (SX.out _)) | (with_reducible exact Calls.quiet_of_same (SA.out _)) | (with_reducible exact Calls.quiet_of_same (SB.out _)) | (with_reducible exact Calls.quiet_of_same (SC.out _))))
      go_wp2
      go_ret
      exact ⟨rfl, ⟨hBr.os, hBr.tape, hBr.output, hBr.size, hBr.block⟩⟩
end Go.Proofs.YteokkedaipbhlaaDoor
