/- WireSumBurst returns true. Conditions: the checksum's table holds its words; numbers of their kinds. -/
import Derived.Test.YteokkedaipbhlaaDoorLaw01Sane
import Derived.Test.YteokkedaipbhlaaDoorLaw01Num
import Derived.Test.YteokkedaipbhlaaDoorCrcBurst
import Derived.RegionTactic
import Derived.ChangeAlike
import Derived.Deep.QuietTactic
import Derived.BigQuiet
namespace Go.Proofs.YteokkedaipbhlaaDoor
open Go Go.RowKit
/-- A block's first cells are these bytes, and may be written. -/
structure BytesAt (W : World) (B : Nat) (l : List UInt8) : Prop where
  cell : ∀ j b, l[j]? = some b → W.cell? ⟨B, j, none⟩ = some (u8v b)
  free : ∀ j, j < l.length → W.frozen? ⟨B, j, none⟩ = false
theorem BytesAt.set {W : World} {B : Nat} {l : List UInt8} (h : BytesAt W B l) (k : Nat) (hk : k < l.length) (b : UInt8) : BytesAt (W.setCell ⟨B, k, none⟩ (u8v b)) B (l.set k b) := by
  refine ⟨fun j c hj => ?_, fun j hj => ?_⟩
  · by_cases e : j = k
    · subst e
      rw [List.getElem?_set_self hk] at hj
      cases hj
      obtain ⟨o, ho⟩ : ∃ o, l[j]? = some o := ⟨_, List.getElem?_eq_getElem hk⟩
      exact World.cell?_setCell_same' _ _ _ (by rw [h.cell j o ho]; rfl)
    · rw [List.getElem?_set_ne (by omega)] at hj
      have hc := h.cell j c hj
      rw [← hc]
      exact World.cell?_setCell_other _ _ _ _ (fun h => e (by have := congrArg Addr.off h; simp at this; omega))
  · rw [World.frozen?_setCell]
    exact h.free j (by simpa using hj)
theorem BytesAt.new (w : World) (S : ByteArray) (cap : Nat) (e : TypeId) (fr : Nat × Nat) (hf : fr.1 = (bytesRow S cap).size) :
    BytesAt (w.alloc (.cells (bytesRow S cap) e fr)) w.heap.size S.data.toList := by
  have hh : (w.alloc (.cells (bytesRow S cap) e fr)).heap[w.heap.size]? = some (.cells (bytesRow S cap) e fr) := World.alloc_heap_new w _
  refine ⟨fun j b hj => ?_, fun j hj => ?_⟩
  · rw [World.cell?_alloc_mark]
    unfold bytesRow u8v
    have hlt : j < S.data.size := by
      have := (List.getElem?_eq_some_iff.1 hj).1
      simpa using this
    rw [Array.getElem?_append_left (by simpa using hlt)]
    simp only [Array.getElem?_map]
    rw [← Array.getElem?_toList, hj]
    rfl
  · unfold World.frozen?
    rw [hh]
    obtain ⟨lo, hi⟩ := fr
    simp only at hf ⊢
    have : S.data.toList.length ≤ (bytesRow S cap).size := by simp [bytesRow]
    rw [show decide (lo ≤ j) = false by simp; omega]
    rfl
theorem bytesAt_string {P : Program} {W : World} {B cap : Nat} {l : List UInt8} (h : BytesAt W B l) (src dst e : TypeId) (hs : P.underlying src = some (.slice e)) (he : P.underlying e = some (.int .u8)) (hd : P.underlying dst = some .string) :
    (convert src dst (.slice (some ⟨B, 0, none⟩) l.length cap)).run P W = .ok (.string ⟨l.toArray⟩) W := by
  refine run_convert_bytes_back W src dst e ⟨B, 0, none⟩ cap l hs he hd fun j hj => ?_
  rw [addr_add0]
  exact h.cell j _ (List.getElem?_eq_getElem hj)
theorem tmod_nat (b i : Nat) : ((b : Int) / 2 ^ i).tmod 2 = ((b / 2 ^ i % 2 : Nat) : Int) := by
  have e : ((b : Int) / 2 ^ i) = ((b / 2 ^ i : Nat) : Int) := by push_cast; rfl
  rw [e, Int.tmod_eq_emod_of_nonneg (Int.natCast_nonneg _)]
  rfl
theorem byte_nat' (z : Nat) (h : z < 256) : (UInt8.ofNat z).toNat = z := by simp; omega
theorem pow_mod (j : Nat) (h : 2 ^ j < 256) : ((2 : Int) ^ j % 256) = ((2 ^ j : Nat) : Int) := by
  have e : ((2 : Int) ^ j) = ((2 ^ j : Nat) : Int) := by push_cast; rfl
  rw [e]
  generalize 2 ^ j = m at *
  omega
/-- After i bits of the pattern. -/
structure BurstInv (S : ByteArray) (bb fr i : Nat) (l : List UInt8) (c : Bool) : Prop where
  len : l.length = S.size
  val_eq : val l = val S.data.toList ^^^ (bb % 2 ^ i * 2 ^ fr)
  ch : c = true ↔ bb % 2 ^ i ≠ 0
theorem BurstInv.start (S : ByteArray) (bb fr : Nat) : BurstInv S bb fr 0 S.data.toList false :=
  ⟨by simp, by simp [Nat.mod_one], by simp [Nat.mod_one]⟩
theorem BurstInv.step {S : ByteArray} {bb fr i : Nat} {l : List UInt8} {c : Bool} (h : BurstInv S bb fr i l c) :
    (¬ bb / 2 ^ i % 2 = 1 → BurstInv S bb fr (i + 1) l c) ∧
    (bb / 2 ^ i % 2 = 1 → ∀ (o x : UInt8), l[(fr + i) / 8]? = some o → x.toNat = 2 ^ ((fr + i) % 8) → BurstInv S bb fr (i + 1) (l.set ((fr + i) / 8) (o ^^^ x)) true) := by
  have hb := burst_bit bb i fr (val S.data.toList)
  refine ⟨fun hn => ?_, fun hy o x ho hx => ?_⟩
  · have e := hb.2.1 hn
    exact ⟨h.len, by rw [e]; exact h.val_eq, by rw [e]; exact h.ch⟩
  · refine ⟨by rw [List.length_set]; exact h.len, ?_, by simp [hb.2.2 hy]⟩
    rw [val_set l _ o x ho, h.val_eq, ← hb.1 hy, hx, ← Nat.pow_add]
    congr 2
    omega
/-- A string cut to n bytes, as the walk reads it. -/
theorem cut_strB (s : ByteArray) (n : Int) (k : Nat) (hk : (k : Int) = n) : ∃ (m : Nat) (F : ByteArray), m ≤ s.size ∧ F.size = m ∧ m ≤ k ∧ (if n < (s.size : Int) then n else (s.size : Int)) = (m : Int) ∧ (if k < s.size then n else (s.size : Int)) = (m : Int) ∧ s.extract 0 m = F := by
  subst hk
  by_cases h : k < s.size
  · exact ⟨k, s.extract 0 k, by omega, by simp; omega, by omega, by rw [if_pos (by omega)], by rw [if_pos h], rfl⟩
  · exact ⟨s.size, s.extract 0 s.size, by omega, by simp, by omega, by rw [if_neg (by omega)], by rw [if_neg h], rfl⟩
set_option maxRecDepth 100000 in
set_option maxHeartbeats 1000000 in
theorem wireBurst_any (s : ByteArray) (a b : Int) (w : World) (a1 : -9223372036854775808 ≤ a) (a2 : a ≤ 9223372036854775807) (b1 : 0 ≤ b) (b2 : b ≤ 4294967295) (hT : TabOk w) (hn : 0 < w.heap.size) :
    Calls Tryd.prog 8 #[.string s, .int .i64 a, .int .u32 b] w fun e w' => e = .returned (.bool true) ∧ Below w.heap.size w w' := by
  obtain ⟨ms, S, hs1, hs2, hs3, hs4, hs5, hs6⟩ := cut_strB s 300 300 rfl
  have hSs : S.size ≤ 300 := by omega
  have HT := Lib.hid hT
  have HS2 := Lib.hid hs2
  clear hT hs2
  go_enter Tryd.func8, Tryd.ntmps8
  go_wp2_with fail
  refine (sane_any _ HT.out hn).mono ?_
  rintro e w1 ⟨rfl, hB1⟩
  obtain ⟨W2, cap, hcv, hbytes, hB2, hge⟩ : ∃ (W2 : World) (cap : Nat), (convert 9 38 (.string S)).run Tryd.prog w1 = .ok (.slice (some ⟨w1.heap.size, 0, none⟩) S.size cap) W2 ∧ BytesAt W2 w1.heap.size S.data.toList ∧ Below w.heap.size w W2 ∧ w.heap.size ≤ w1.heap.size := by
    refine ⟨_, _, run_bytes_of_string (P := Tryd.prog) w1 9 38 5 S Tryd.underlying9 Tryd.underlying38 Tryd.underlying5, BytesAt.new w1.drew S _ _ _ rfl, ?_, hB1.size⟩
    exact (hB1.drew).alloc hB1.size _
  obtain ⟨B0, hB0⟩ : ∃ B0, w1.heap.size = B0 := ⟨_, rfl⟩
  rw [hB0] at hcv hbytes hge
  have HBY := Lib.hid hbytes
  clear hbytes hB0
  by_cases hz : S.size = 0 ∨ b = 0
  · by_cases h0 : S.size = 0
    · have hz1 : ((S.size : Int) == 0) = true := beq_iff_eq.2 (by omega)
      have H0 := Lib.hid h0
      clear hz h0
      go_wp2
      go_ret
      exact ⟨rfl, hB2⟩
    · have hz1 : ((S.size : Int) == 0) = false := beq_eq_false_iff_ne.2 (by omega)
      have hz2 : (b == 0) = true := beq_iff_eq.2 (by omega)
      clear hz h0
      go_wp2
      go_ret
      exact ⟨rfl, hB2⟩
  · have hz1 : ((S.size : Int) == 0) = false := beq_eq_false_iff_ne.2 (by omega)
    have hz2 : (b == 0) = false := beq_eq_false_iff_ne.2 (by omega)
    have hpk := pickI_bd a (8 * (S.size : Int)) (by omega)
    go_wp2_with fail
    refine (pick_any a _ _ a1 a2 (by omega) (by omega)).mono ?_
    rintro e w' ⟨rfl, rfl⟩
    obtain ⟨fr, hfr⟩ : ∃ fr : Nat, pickI a (8 * (S.size : Int)) = fr := ⟨(pickI a (8 * (S.size : Int))).toNat, by omega⟩
    rw [hfr] at hpk ⊢
    clear hfr hcv
    obtain ⟨bb, rfl⟩ : ∃ bb : Nat, b = bb := ⟨b.toNat, by omega⟩
    go_wp2_with fail
    go_loopw [10, 11] (fun ch i wr => ∃ (i0 : Nat) (l : List UInt8) (c : Bool), i = .int .i64 i0 ∧ ch = .bool c ∧ i0 ≤ 32 ∧ fr + i0 ≤ 8 * S.size ∧ BurstInv S bb fr i0 l c ∧ BytesAt wr B0 l ∧ Below w.heap.size w wr) (fun _ i _ => 32 - (intOf i).toNat)
    case atStart => exact ⟨0, S.data.toList, false, rfl, rfl, by omega, by omega, BurstInv.start S bb fr, HBY.out, hB2⟩
    case round =>
      obtain ⟨i0, l, c, rfl, rfl, hi1, hi2, hinv, hby, hBr⟩ := hrel
      have HI := Lib.hid hinv
      have HBr := Lib.hid hby
      have hl := hinv.len
      clear hinv hby
      by_cases hi : i0 < 32
      · by_cases hi3 : fr + i0 < 8 * S.size
        · have hst := HI.out.step
          by_cases hb : bb / 2 ^ i0 % 2 = 1
          · have hbt : (((bb : Int) / 2 ^ i0).tmod 2 == 1) = true := by
              rw [beq_iff_eq, tmod_nat]; omega
            obtain ⟨o, ho⟩ : ∃ o : UInt8, l[(fr + i0) / 8]? = some o := ⟨_, List.getElem?_eq_getElem (by omega)⟩
            have hcell : wr.cell? ⟨B0, (fr + i0) / 8, none⟩ = some (.int .u8 (o.toNat : Int)) := HBr.out.cell _ _ ho
            have hfree : wr.frozen? ⟨B0, (fr + i0) / 8, none⟩ = false := HBr.out.free _ (by omega)
            have hlt8 : 2 ^ ((fr + i0) % 8) < 256 := Nat.lt_of_le_of_lt (Nat.pow_le_pow_right (by decide) (by omega : (fr + i0) % 8 ≤ 7)) (by decide)
            obtain ⟨x, hx⟩ : ∃ x : UInt8, x.toNat = 2 ^ ((fr + i0) % 8) := ⟨UInt8.ofNat (2 ^ ((fr + i0) % 8)), byte_nat' _ hlt8⟩
            obtain ⟨nb, hnb⟩ : ∃ nb : UInt8, o ^^^ x = nb := ⟨_, rfl⟩
            have e1 : bits .xor .u8 (o.toNat : Int) ((2 : Int) ^ ((fr + i0) % 8) % 256) = (nb.toNat : Int) := by
              rw [show ((2 : Int) ^ ((fr + i0) % 8) % 256) = (x.toNat : Int) by rw [hx]; exact pow_mod _ hlt8, bitsN8_xor _ _ o.toNat_lt x.toNat_lt, ← UInt8.toNat_xor, hnb]
            have hnew := hst.2 hb o x ho hx
            rw [hnb] at hnew
            have HST := Lib.hid hnew
            clear hst hb hnew hx hnb hlt8 ho
            go_wp2_with fail
            go_region
            go_wp2
            go_roundw
            case rel => exact ⟨i0 + 1, l.set ((fr + i0) / 8) nb, true, by go_num, rfl, by omega, by omega, HST.out, ⟨(HBr.out.set _ (by omega) nb).cell, (HBr.out.set _ (by omega) nb).free⟩, (hBr.setCell hge _).drew⟩
            case measure => simp [intOf]; omega
          · have hbt : (((bb : Int) / 2 ^ i0).tmod 2 == 1) = false := by
              rw [beq_eq_false_iff_ne, tmod_nat]; omega
            have h0 := (HI.out.step).1 hb
            have H0 := Lib.hid h0
            clear hst hb h0
            go_wp2
            go_roundw
            case rel => exact ⟨i0 + 1, l, c, by go_num, rfl, by omega, by omega, H0.out, HBr.out, hBr⟩
            case measure => simp [intOf]; omega
        · have hSle : S.size ≤ s.size := by have := HS2.out; omega
          have hlen := HI.out.len
          obtain ⟨X, hX⟩ : ∃ X : ByteArray, (⟨l.toArray⟩ : ByteArray) = X := ⟨_, rfl⟩
          have hXl : X.data.toList = l := by rw [← hX]
          have hcv : ∀ nq, (convert 38 9 (.slice (some ⟨B0, 0, none⟩) S.size cap)).run Tryd.prog (wr.drewN nq) = .ok (.string X) (wr.drewN nq) := fun nq => by
            have := bytesAt_string (P := Tryd.prog) (W := wr.drewN nq) (cap := cap) ⟨HBr.out.cell, HBr.out.free⟩ 38 9 5 Tryd.underlying38 Tryd.underlying5 Tryd.underlying9
            rw [hlen, hX] at this
            exact this
          have hXs : X.size = S.size := by rw [← hlen, ← hX]; rfl
          have hsx : s.extract 0 S.size = S := by rw [HS2.out]; exact hs6
          have hcrc := crc_burst (l := l) (k := S.data.toList) (by rw [hlen]; simp) HI.out.val_eq (Nat.lt_of_le_of_lt (Nat.mod_le _ _) (by omega)) (by rw [hlen]; omega)
          rw [← hXl] at hcrc
          have hch := HI.out.ch
          have hTr : TabOk wr := HT.out.below hBr hn
          have HTR := Lib.hid hTr
          have sX := fun q => (sum_any X (wr.drewN q) (by unfold maxLen; omega) HTR.out).mono (R' := fun e w' => e = .returned (.int .i64 (crc X.data.toList : Nat)) ∧ w' = wr.drewN q) fun _ _ h => ⟨h.1, h.2.symm⟩
          have sS := fun q => (sum_any S (wr.drewN q) (by unfold maxLen; omega) HTR.out).mono (R' := fun e w' => e = .returned (.int .i64 (crc S.data.toList : Nat)) ∧ w' = wr.drewN q) fun _ _ h => ⟨h.1, h.2.symm⟩
          obtain ⟨cx, hcx⟩ : ∃ cx, crc X.data.toList = cx := ⟨_, rfl⟩
          obtain ⟨cs, hcs⟩ : ∃ cs, crc S.data.toList = cs := ⟨_, rfl⟩
          rw [hcx] at sX hcrc
          rw [hcs] at sS hcrc
          have SX := Lib.hid sX
          have SS := Lib.hid sS
          clear sX sS hcx hcs hX hXl hlen hTr
          have hB' : Below w.heap.size w wr := hBr
          cases c
          · have heq : cx = cs := hcrc.2 (by
              rcases Nat.eq_zero_or_pos (bb % 2 ^ i0) with h | h
              · exact h
              · exact absurd (hch.2 (by omega)) (by decide))
            subst heq
            clear hcrc hch
            go_wp2_with fail
            go_quiet ((go_at_call 21; first | (with_reducible exact Calls.quiet_of_same (SX.out _)) | (with_reducible exact Calls.quiet_of_same (SS.out _))))
            go_wp2
            go_ret
            exact ⟨rfl, ⟨hB'.os, hB'.tape, hB'.output, hB'.size, hB'.block⟩⟩
          · have hne : ¬ cx = cs := fun h => (hch.1 rfl) (hcrc.1 h)
            have hne1 : ((cx : Int) == (cs : Int)) = false := by rw [beq_eq_false_iff_ne]; omega
            have hne2 : ((cx : Int) != (cs : Int)) = true := by rw [bne_iff_ne]; omega
            clear hcrc hch hne
            go_wp2_with fail
            go_quiet ((go_at_call 21; first | (with_reducible exact Calls.quiet_of_same (SX.out _)) | (with_reducible exact Calls.quiet_of_same (SS.out _))))
            go_wp2
            go_ret
            exact ⟨rfl, ⟨hB'.os, hB'.tape, hB'.output, hB'.size, hB'.block⟩⟩

      · have hSle : S.size ≤ s.size := by have := HS2.out; omega
        have hlen := HI.out.len
        obtain ⟨X, hX⟩ : ∃ X : ByteArray, (⟨l.toArray⟩ : ByteArray) = X := ⟨_, rfl⟩
        have hXl : X.data.toList = l := by rw [← hX]
        have hcv : ∀ nq, (convert 38 9 (.slice (some ⟨B0, 0, none⟩) S.size cap)).run Tryd.prog (wr.drewN nq) = .ok (.string X) (wr.drewN nq) := fun nq => by
          have := bytesAt_string (P := Tryd.prog) (W := wr.drewN nq) (cap := cap) ⟨HBr.out.cell, HBr.out.free⟩ 38 9 5 Tryd.underlying38 Tryd.underlying5 Tryd.underlying9
          rw [hlen, hX] at this
          exact this
        have hXs : X.size = S.size := by rw [← hlen, ← hX]; rfl
        have hsx : s.extract 0 S.size = S := by rw [HS2.out]; exact hs6
        have hcrc := crc_burst (l := l) (k := S.data.toList) (by rw [hlen]; simp) HI.out.val_eq (Nat.lt_of_le_of_lt (Nat.mod_le _ _) (by omega)) (by rw [hlen]; omega)
        rw [← hXl] at hcrc
        have hch := HI.out.ch
        have hTr : TabOk wr := HT.out.below hBr hn
        have HTR := Lib.hid hTr
        have sX := fun q => (sum_any X (wr.drewN q) (by unfold maxLen; omega) HTR.out).mono (R' := fun e w' => e = .returned (.int .i64 (crc X.data.toList : Nat)) ∧ w' = wr.drewN q) fun _ _ h => ⟨h.1, h.2.symm⟩
        have sS := fun q => (sum_any S (wr.drewN q) (by unfold maxLen; omega) HTR.out).mono (R' := fun e w' => e = .returned (.int .i64 (crc S.data.toList : Nat)) ∧ w' = wr.drewN q) fun _ _ h => ⟨h.1, h.2.symm⟩
        obtain ⟨cx, hcx⟩ : ∃ cx, crc X.data.toList = cx := ⟨_, rfl⟩
        obtain ⟨cs, hcs⟩ : ∃ cs, crc S.data.toList = cs := ⟨_, rfl⟩
        rw [hcx] at sX hcrc
        rw [hcs] at sS hcrc
        have SX := Lib.hid sX
        have SS := Lib.hid sS
        clear sX sS hcx hcs hX hXl hlen hTr
        have hB' : Below w.heap.size w wr := hBr
        cases c
        · have heq : cx = cs := hcrc.2 (by
            rcases Nat.eq_zero_or_pos (bb % 2 ^ i0) with h | h
            · exact h
            · exact absurd (hch.2 (by omega)) (by decide))
          subst heq
          clear hcrc hch
          go_wp2_with fail
          go_quiet ((go_at_call 21; first | (with_reducible exact Calls.quiet_of_same (SX.out _)) | (with_reducible exact Calls.quiet_of_same (SS.out _))))
          go_wp2
          go_ret
          exact ⟨rfl, ⟨hB'.os, hB'.tape, hB'.output, hB'.size, hB'.block⟩⟩
        · have hne : ¬ cx = cs := fun h => (hch.1 rfl) (hcrc.1 h)
          have hne1 : ((cx : Int) == (cs : Int)) = false := by rw [beq_eq_false_iff_ne]; omega
          have hne2 : ((cx : Int) != (cs : Int)) = true := by rw [bne_iff_ne]; omega
          clear hcrc hch hne
          go_wp2_with fail
          go_quiet ((go_at_call 21; first | (with_reducible exact Calls.quiet_of_same (SX.out _)) | (with_reducible exact Calls.quiet_of_same (SS.out _))))
          go_wp2
          go_ret
          exact ⟨rfl, ⟨hB'.os, hB'.tape, hB'.output, hB'.size, hB'.block⟩⟩

end Go.Proofs.YteokkedaipbhlaaDoor
