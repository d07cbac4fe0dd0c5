/- Package digest: Sum returns the digest. Conditions: at most 10000 bytes; the table holds its words. -/
import Derived.Test.YtcfplkbbgjiocaaDoorShaChunk
import Derived.Laws.IdiomStrings
namespace Go.Proofs.YtcfplkbbgjiocaaDoor
open Go Go.RowKit Go.Shelf
attribute [local go_sem] Oper.semAt_some
theorem wpListIn_append_brow {Fc : Fence} {fu : Nat} {ops : Array Oper} {rest : List Oper} {o : Oper} {a : Act} {Q : Exit → Act → World → Prop} {w : World} (hgd : o.guard = none) (s x : Operand)
    (ho : o.op = .call { callee := .builtin .append, args := #[s, x], argTypes := #[57, 57] }) {F : Nat} {v : Value} {l : List UInt8} (b : UInt8) (hs : a.eval s = v) (h : BRow w F v l)
    (ad : Addr) (c : Nat) (hx : a.eval x = .slice (some ad) 1 c) (hn : w.cell? (ad.add 0) = some (u8v b)) (hl : l.length + 1 ≤ 100000) (hF : F ≤ w.heap.size)
    (hk : ∀ v' w', BRow w' F v' (l ++ [b]) → Below F w w' → wpListIn Fc fu Tryd.prog ops Q rest (a.put o.dst v') w') : wpListIn Fc fu Tryd.prog ops Q (o :: rest) a w := by
  refine wpListIn_plain hgd fun K hK => ?_
  obtain ⟨v', w', hr, h2, h3⟩ := append_brow b h o.type ad c hn hl hF
  unfold Oper.wpIn
  refine ⟨?_, ?_⟩
  · simp [Oper.about, ho, resolve, Target.leads, Sem.run_pure]
  · rw [Oper.semAt_plain Fc _ _ (by rw [ho]; intro c hc'; cases hc')]
    simp [execOp, ho, resolve, invoke, builtin, hs, hx, hr, Result.andThen]
    exact hK _ _ (hk v' w' h2 h3)
theorem BRow.below {W W' : World} {F : Nat} {v : Value} {l : List UInt8} (h : BRow W F v l) (hb : Below W.heap.size W W') : BRow W' F v l := by
  obtain ⟨g, cap, cur, fz, h1, h2, h3, h4⟩ := h
  exact ⟨g, cap, cur, fz, h1, h2, (hb.block _ (Array.getElem?_eq_some_iff.1 h3).1).trans h3, h4⟩
theorem BRow.len {W : World} {F : Nat} {v : Value} {l : List UInt8} (h : BRow W F v l) : ∃ g cap, v = .slice (some ⟨g, 0, none⟩) l.length cap := by
  obtain ⟨g, cap, cur, fz, h1, _⟩ := h
  exact ⟨g, cap, h1⟩
/-- Between two rounds: the words of k blocks; all other blocks of the world ahead of the loop lie as they lay. -/
structure SumJ (w wr : World) (H D l : Nat) (r : Loop) (pl : List UInt8) (k : Nat) (W : World) : Prop where
  box : UBox .u32 W H 8 (blocks pl k).at
  below : Below H w W
  size : wr.heap.size ≤ W.heap.size
  rest : ∀ b, b < wr.heap.size → b ≠ H → W.heap[b]? = wr.heap[b]?
  loop : LoopAt W D l r .ready none
structure SumOn (w wr : World) (H : Nat) (pl : List UInt8) (k : Nat) (W : World) : Prop where
  box : UBox .u32 W H 8 (blocks pl k).at
  below : Below H w W
  size : wr.heap.size ≤ W.heap.size
  rest : ∀ b, b < wr.heap.size → b ≠ H → W.heap[b]? = wr.heap[b]?
theorem putObj_size (W : World) (l : Nat) (o : Obj) : (W.putObj l o).heap.size = W.heap.size := by unfold World.putObj; simp
theorem UBox.put {K : IntKind} {W : World} {B n l : Nat} {f : Nat → Nat} {o : Obj} (h : UBox K W B n f) (hne : B ≠ l) : UBox K (W.putObj l o) B n f := by
  obtain ⟨cs, t, h, hc⟩ := h
  exact ⟨cs, t, (World.putObj_heap_other hne).trans h, hc⟩
theorem cell_of_heap {W W' : World} {b : Nat} (h : W'.heap[b]? = W.heap[b]?) (i : Nat) : W'.cell? ⟨b, i, none⟩ = W.cell? ⟨b, i, none⟩ := by
  unfold World.cell?
  simp only [h]
theorem BRow.cell {W : World} {F : Nat} {g n cap : Nat} {l : List UInt8} (h : BRow W F (.slice (some ⟨g, 0, none⟩) n cap) l) (i : Nat) (hi : i < l.length) : F ≤ g ∧ g < W.heap.size ∧ l.length ≤ cap ∧ cap ≤ maxLen ∧ W.cell? ⟨g, i, none⟩ = some (.int .u8 ((l.getD i 0).toNat : Int)) := by
  obtain ⟨g', cap', cur, fz, h1, h2, h3, h4, h5, h6, h7, h8⟩ := h
  cases h1
  refine ⟨h2, (Array.getElem?_eq_some_iff.1 h3).1, h5, h6, ?_⟩
  unfold World.cell?
  simp only [h3]
  rw [h8 i hi, List.getD_eq_getElem?_getD, List.getElem?_eq_getElem hi]
  rfl
theorem ofNat_mod (n : Nat) : UInt8.ofNat (n % 256) = UInt8.ofNat n := by
  apply UInt8.toNat_inj.1
  simp
theorem bytes_of (v : W8) : ((List.range 32).map fun j => UInt8.ofNat (byteOf v.at j)) = v.bytes := by
  simp [byteOf, ofNat_mod, W8.bytes, wordBytes, List.range, List.range.loop, W8.at]
def lenV (v : Value) : Nat := match v with | .slice _ n _ => n | _ => 0
theorem zeros_test {n k : Nat} (hk : k ≤ zerosOf n) : (n + 1 + k) % 64 = 56 ↔ k = zerosOf n := by
  unfold zerosOf at *
  omega
theorem brow_new (w : World) (s : ByteArray) : ∃ (v : Value) (W : World), (convert 9 57 (.string s)).run Tryd.prog w = .ok v W ∧ (s.size ≤ 10000 → BRow W w.heap.size v s.data.toList) ∧ Below w.heap.size w W := by
  refine ⟨_, _, run_bytes_of_string (P := Tryd.prog) w 9 57 5 s Tryd.underlying9 Tryd.underlying57 Tryd.underlying5, fun hs => ?_, ((Below.refl _ _).drew).alloc (Nat.le_refl _) _⟩
  have hge := grownCap_ge w s.size 0 5
  have hcm := grownCap_le_maxLen w s.size 0 5 (by unfold maxLen; omega)
  have hsz : (bytesRow s (grownCap w s.size 0 5)).size = grownCap w s.size 0 5 := by
    have : s.data.size = s.size := rfl
    simp [bytesRow, this]
    omega
  have hl : s.data.toList.length = s.size := by simp
  refine ⟨w.heap.size, grownCap w s.size 0 5, _, _, by rw [hl], Nat.le_refl _, heap_alloc_new w.drew _, .inl (Nat.le_refl _), by rw [hl]; exact hge, hcm, hsz, fun i hi => ?_⟩
  have hi' : i < s.data.size := by simpa using hi
  unfold bytesRow
  rw [Array.getElem?_append_left (by simpa using hi')]
  simp
  rfl
set_option maxRecDepth 100000 in
set_option maxHeartbeats 4000000 in
theorem sum_in (s : ByteArray) (w : World) (hs : s.size ≤ 10000) (hT : RoundOk w) :
    CallsIn Fence.wide 9 Tryd.prog 70 #[.string s] w fun e w' => (∃ S : ByteArray, e = .returned (.string S) ∧ S.data.toList = sha s.data.toList) ∧ Below w.heap.size w w' := by
  have HT := Lib.hid hT
  clear hT
  refine callsIn_of_wp_marks Tryd.func70 rfl trivial ?_ rfl
  simp only [Tryd.ntmps70, List.size_toArray, List.length_cons, List.length_nil, Nat.reduceAdd, Nat.reduceSub, Array.replicate_succ, Array.replicate_zero, List.push_toArray, List.append_toArray, List.nil_append, List.cons_append]
  have hub := eight_ubox w8init (World.alloc_heap_new w (.cells #[.int .u32 (w8init.a : Nat), .int .u32 (w8init.b : Nat), .int .u32 (w8init.c : Nat), .int .u32 (w8init.d : Nat), .int .u32 (w8init.e : Nat), .int .u32 (w8init.f : Nat), .int .u32 (w8init.g : Nat), .int .u32 (w8init.h : Nat)] 120))
  have hal : Below w.heap.size w (w.alloc (.cells #[.int .u32 (w8init.a : Nat), .int .u32 (w8init.b : Nat), .int .u32 (w8init.c : Nat), .int .u32 (w8init.d : Nat), .int .u32 (w8init.e : Nat), .int .u32 (w8init.f : Nat), .int .u32 (w8init.g : Nat), .int .u32 (w8init.h : Nat)] 120)) := (Below.refl _ _).alloc (Nat.le_refl _) _
  obtain ⟨w1, hw1⟩ : ∃ w1, w.alloc (.cells #[.int .u32 (w8init.a : Nat), .int .u32 (w8init.b : Nat), .int .u32 (w8init.c : Nat), .int .u32 (w8init.d : Nat), .int .u32 (w8init.e : Nat), .int .u32 (w8init.f : Nat), .int .u32 (w8init.g : Nat), .int .u32 (w8init.h : Nat)] 120) = w1 := ⟨_, rfl⟩
  have hw1' := (show w.alloc (.cells #[.int .u32 1779033703, .int .u32 3144134277, .int .u32 1013904242, .int .u32 2773480762, .int .u32 1359893119, .int .u32 2600822924, .int .u32 528734635, .int .u32 1541459225] 120) = w1 from hw1)
  have hz1 : w1.heap.size = w.heap.size + 1 := by rw [← hw1, World.size_alloc]
  rw [hw1] at hub hal
  obtain ⟨v0, W0, hcv, hbr, hbl⟩ := brow_new w1 s
  have HBR := Lib.hid (hbr hs)
  have HBL := Lib.hid hbl
  have HUB := Lib.hid hub
  have HAL := Lib.hid hal
  have HZ1 := Lib.hid hz1
  clear hw1 hub hal hz1 hbr hbl
  have hF0 : w1.heap.size ≤ W0.heap.size := HBL.out.size
  gi_wp2_with (
    gi_at_builtin
    refine wpListIn_append_brow rfl _ _ rfl (F := w1.heap.size) (v := v0) (l := s.data.toList) 128 rfl (HBR.out.below ((Below.refl _ _).alloc (Nat.le_refl _) (.cells #[.int .u8 128] 5))) ⟨W0.heap.size, 0, none⟩ 1 rfl (by simp [add_none]; rfl) (by simp; omega) (by simp; omega) ?_
    intro v1 w2 hbr1 hbl1)
  obtain ⟨l, hl⟩ : ∃ l, s.data.toList = l := ⟨_, rfl⟩
  have hll : l.length = s.size := by rw [← hl]; simp
  have HL := Lib.hid hl
  have HLL := Lib.hid hll
  rw [hl] at hbr1
  obtain ⟨F, hF⟩ : ∃ F, w1.heap.size = F := ⟨_, rfl⟩
  have HB2 := Lib.hid ((HBL.out.alloc hF0 (.cells #[.int .u8 128] 5)).trans hbl1)
  rw [hF] at hbr1 hF0 HB2
  have hFw : F = w.heap.size + 1 := by rw [← hF]; exact HZ1.out
  have HF := Lib.hid hF
  have HFW := Lib.hid hFw
  have HN : Hid (l.length ≤ 10000) := Lib.hid (by omega)
  clear hcv hbl1 hF hFw hw1' hl hll HBR HBL hF0
  gi_loopw [4] (fun v wr => ∃ k, k ≤ zerosOf l.length ∧ BRow wr F v (l ++ [128] ++ List.replicate k 0) ∧ Below F w1 wr) (fun v _ => l.length + 1 + zerosOf l.length - lenV v)
  case atStart => exact ⟨0, by omega, by simpa using hbr1, HB2.out⟩
  case round =>
    obtain ⟨k, hk, hbr, hb⟩ := hrel
    obtain ⟨g, cap, hv⟩ := hbr.len
    subst hv
    have hzt := zeros_test hk
    have hz64 : zerosOf l.length < 64 := Nat.mod_lt _ (by decide)
    have hlen : (l ++ [128] ++ List.replicate k (0 : UInt8)).length = l.length + 1 + k := by simp; omega
    rw [hlen] at hbr ⊢
    clear hlen
    obtain ⟨nn, hnn⟩ : ∃ nn, l.length + 1 + k = nn := ⟨_, rfl⟩
    rw [hnn] at hbr hzt ⊢
    obtain ⟨r, hr⟩ : ∃ r, nn % 64 = r := ⟨_, rfl⟩
    have f2 : (nn : Int) % 64 = (r : Int) := by omega
    have f1 : (nn : Int).tmod 64 = (r : Int) := by rw [Int.tmod_eq_emod_of_nonneg (by omega)]; exact f2
    have f4 : (0 : Int) ≤ (nn : Int) := by omega
    rw [hr] at hzt
    have HNN := Lib.hid hnn
    have HBRk := Lib.hid hbr
    have HBk := Lib.hid hb
    have HK := Lib.hid hk
    clear hbr hb hnn hr hk
    by_cases hkz : k = zerosOf l.length
    · have f3 : ((r : Int) != 56) = false := by simp; omega
      have HKZ := Lib.hid hkz
      clear hkz hzt hz64
      gi_wp2_with fail
      have hst : BRow wr F (.slice (some ⟨g, 0, none⟩) nn cap) (l ++ [128] ++ List.replicate k 0) := HBRk.out
      gi_loopw [4, 5] (fun v iv wr => ∃ (i : Nat) (pre : List UInt8), i ≤ 8 ∧ iv = .int .i64 ((i : Int) - 1) ∧ Hid (pre ++ lenBytes l.length i = padded l) ∧ BRow wr F v pre ∧ Below F w1 wr) (fun _ iv _ => (intOf iv + 1).toNat)
      case atStart => exact ⟨8, _, by omega, rfl, Lib.hid (by rw [HKZ.out]; rfl), hst, HBk.out⟩
      case round =>
        obtain ⟨i, pre, hi, rfl, hpre, hbr, hb⟩ := hrel
        clear hst
        obtain ⟨g2, cap2, hv⟩ := hbr.len
        subst hv
        have hpl : pre.length + i = (padded l).length := by rw [← hpre.out, List.length_append, lenBytes_length]
        have hpn : (padded l).length ≤ 20000 := by rw [padded_length]; have := HN.out; have : zerosOf l.length < 64 := Nat.mod_lt _ (by decide); omega
        have HPN := Lib.hid hpn
        have HPL := Lib.hid hpl
        have HBRi := Lib.hid hbr
        have HBi := Lib.hid hb
        have hFr : F ≤ wr.heap.size := by have := hb.size; have := HF.out; omega
        clear hpl hpn hbr hb
        by_cases hi0 : i = 0
        · subst hi0
          rw [show (((0 : Nat) : Int) - 1) = -1 from rfl]
          gi_wp2_with fail
          have hpp : pre = padded l := by have := hpre.out; simpa [lenBytes] using this
          subst hpp
          obtain ⟨N, hN⟩ : ∃ N, (padded l).length / 64 = N := ⟨_, rfl⟩
          have hpl : (padded l).length = 64 * N := by rw [← hN]; exact padded_blocks l
          have hN1 : 1 ≤ N := by rw [padded_length] at hpl; omega
          obtain ⟨c1, c2, c3, c4, _⟩ := HBRi.out.cell 0 (by omega)
          have HRow := Lib.hid (fun i hi => (HBRi.out.cell i hi).2.2.2.2)
          have HG : Hid (F ≤ g2 ∧ g2 < wr.heap.size) := Lib.hid ⟨c1, c2⟩
          have HG0 : Hid (1 < w.heap.size) := Lib.hid (cell_lt' (HT.out 0 (by omega)))
          have hUr := HUB.out.low HBi.out (by have := HFW.out; omega)
          have hBr : Below w.heap.size w wr := HAL.out.trans (HBi.out.mono (by have := HFW.out; omega))
          have hTr := HT.out.below hBr
          refine ⟨trivial, ?_⟩
          refine (callsIn_wide.2 (chunk_any _ _ _ _)).mono ?_
          rintro e w' ⟨rfl, rfl⟩
          obtain ⟨S, hS⟩ : ∃ S, wr.heap.size = S := ⟨_, rfl⟩
          have hal2 : Below S wr ((wr.alloc (.cells #[.slice (some ⟨g2, 0, none⟩) (padded l).length cap2] 57)).alloc (.cells #[.int .i64 64] 3)) := ((Below.refl _ _).alloc (by omega) _).alloc (by simp; omega) _
          have hs1 : ((wr.alloc (.cells #[.slice (some ⟨g2, 0, none⟩) (padded l).length cap2] 57)).alloc (.cells #[.int .i64 64] 3)).cell? ⟨S, 0, none⟩ = some (.slice (some ⟨g2, 0, none⟩) (64 * N) cap2) := by rw [← hS, ← hpl]; simp
          have hs2 : ((wr.alloc (.cells #[.slice (some ⟨g2, 0, none⟩) (padded l).length cap2] 57)).alloc (.cells #[.int .i64 64] 3)).cell? ⟨S + 1, 0, none⟩ = some (.int .i64 64) := by rw [← hS]; simp
          have hz : ((wr.alloc (.cells #[.slice (some ⟨g2, 0, none⟩) (padded l).length cap2] 57)).alloc (.cells #[.int .i64 64] 3)).heap.size = S + 2 := by simp [← hS]
          rw [hS]
          obtain ⟨wq, hwq⟩ : ∃ wq, (wr.alloc (.cells #[.slice (some ⟨g2, 0, none⟩) (padded l).length cap2] 57)).alloc (.cells #[.int .i64 64] 3) = wq := ⟨_, rfl⟩
          rw [hwq] at hal2 hs1 hs2 hz ⊢
          have hHS : w.heap.size < S := by have := HG.out; have := HFW.out; omega
          have HUQ := Lib.hid (hUr.low hal2 hHS)
          have HBQ := Lib.hid (hBr.trans (hal2.mono (by omega)))
          have HTQ := Lib.hid (hTr.below (by rw [hS]; exact hal2))
          have HRQ : Hid (∀ i, i < (padded l).length → wq.cell? ⟨g2, i, none⟩ = some (.int .u8 (((padded l).getD i 0).toNat : Int))) := Lib.hid (fun i hi => (hal2.cell (p := ⟨g2, i, none⟩) (by have := HG.out; show g2 < S; omega)).trans (HRow.out i hi))
          have HS1 := Lib.hid hs1
          have HS2 := Lib.hid hs2
          have HZ := Lib.hid hz
          have HPL2 := Lib.hid hpl
          have HNN2 := Lib.hid hN
          have HGS : Hid (w.heap.size ≠ g2 ∧ g2 < S) := Lib.hid (by have := HG.out; have := HFW.out; omega)
          clear hwq hal2 hs1 hs2 hz hUr hBr hTr HRow HG HBRi HBi c1 c2 HPN HPL HUB HAL HT hpre hpl
          gi_wp2_with fail
          refine rangeFunc_open rfl (by omega) (gf := 76) (lb := #[.pointer (some ⟨S, 0, none⟩), .pointer (some ⟨S + 1, 0, none⟩)]) rfl trivial (enters_of Tryd.func76 (by kernel_rfl) rfl) (S + 2) (by rw [HZ.out]) ?_
          intro W1 rr _ hr hL ⟨o, o', hW1⟩
          have hW1b : Below (S + 2) wq W1 := by
            rw [hW1]
            exact ((Below.refl _ _).alloc (by have := HZ.out; omega) _).alloc (by have := HZ.out; simp; omega) _
          have hJ0 : SumJ w wq w.heap.size (S + 2) (S + 3) rr (padded l) 0 W1 :=
            ⟨HUQ.out.low hW1b (by omega), HBQ.out.trans (hW1b.mono (by omega)), by rw [hW1]; simp; omega, fun b hb _ => hW1b.block b (by have := HZ.out; omega), hL⟩
          have HCB : Hid (∀ k W, SumJ w wq w.heap.size (S + 2) (S + 3) rr (padded l) k W → W.cell? ⟨S, 0, none⟩ = some (.slice (some ⟨g2, 0, none⟩) (64 * N) cap2) ∧ W.cell? ⟨S + 1, 0, none⟩ = some (.int .i64 64)) := Lib.hid (fun k W h =>
            ⟨(cell_of_heap (h.rest S (by have := HZ.out; omega) (by omega)) 0).trans HS1.out, (cell_of_heap (h.rest (S + 1) (by have := HZ.out; omega) (by omega)) 0).trans HS2.out⟩)
          clear hW1 hW1b
          refine (chunk1_in 8 (S + 3) S g2 cap2 N (by omega) (by rw [← HPL2.out]; exact c3) (by have := HN.out; have h5 := padded_length l; have : zerosOf l.length < 64 := Nat.mod_lt _ (by decide); omega) c4 (SumJ w wq w.heap.size (S + 2) (S + 3) rr (padded l)) ?hY ?hD HCB.out W1 hJ0).mono ?_
          case hD => exact fun k W h => ⟨h.box.drew, h.below.drew, h.size, h.rest, h.loop.others (KeepsOthers.drew _)⟩
          case hY =>
            intro k W hk hJ
            refine (yield_open (On := SumOn w wq w.heap.size (padded l) (k + 1)) (Out := fun _ _ => False) hJ.loop trivial hr rfl ?_).mono ?_
            · intro R hR
              have HR := Lib.hid hR
              clear hR
              have HJ := Lib.hid hJ
              have HBG := Lib.hid (hJ.loop.begin (P := Tryd.prog))
              clear hJ hJ0
              gi_wp2
              refine ⟨_, HBG.out, ?_⟩
              have hl2 := HJ.out.loop.put (st' := .busy) (pe' := none)
              have hub2 := HJ.out.box.put (l := S + 3) (o := (.loop { rr with state := .busy, pending := none })) (by omega)
              have hrs2 : ∀ b, b < S + 2 → b ≠ w.heap.size → (W.putObj (S + 3) (.loop { rr with state := .busy, pending := none })).heap[b]? = wq.heap[b]? := fun b hb hne => (World.putObj_heap_other (by omega)).trans (HJ.out.rest b (by have := HZ.out; omega) hne)
              have hbl2 : Below w.heap.size w (W.putObj (S + 3) (.loop { rr with state := .busy, pending := none })) := Below_put HJ.out.below (by omega) HJ.out.below.size
              have hsz2 := putObj_size W (S + 3) (.loop { rr with state := .busy, pending := none })
              obtain ⟨W2, hW2⟩ : ∃ W2, W.putObj (S + 3) (.loop { rr with state := .busy, pending := none }) = W2 := ⟨_, rfl⟩
              rw [hW2] at hl2 hub2 hrs2 hbl2 hsz2 ⊢
              have hrd2 : ReadsU .u8 W2 (some ⟨g2, 64 * k, none⟩) 64 (blockAt (padded l) k) := fun i hi => ⟨g2, 64 * k, rfl, fun j hj => (cell_of_heap (hrs2 g2 (by have := HGS.out; omega) (fun e => HGS.out.1 e.symm)) (64 * k + j)).trans (HRQ.out (64 * k + j) (by have := HPL2.out; omega))⟩
              have hT2 : RoundOk W2 := fun i hi => (cell_of_heap (hrs2 _ (by have := HG0.out; omega) (by have := HG0.out; omega)) i).trans (HTQ.out i hi)
              have HADD := Lib.hid (add_block w.heap.size g2 (64 * k) 64 (blocks (padded l) k) (blockAt (padded l) k) W2 (blocks_ok _ _) hub2 hrd2 (blockAt_lt _ _) hT2)
              have HL2 := Lib.hid hl2
              have HRS2 := Lib.hid hrs2
              have HBL2 := Lib.hid hbl2
              have HSZ2 := Lib.hid hsz2
              clear hW2 hl2 hub2 hrs2 hbl2 hsz2 hrd2 hT2
              gi_wp2_with fail
              refine ⟨trivial, ?_⟩
              refine (callsIn_wide.2 HADD.out).mono ?_
              rintro e W3 ⟨⟨v, rfl⟩, hx3, hb3, hk3⟩
              have hlt1 := (Array.getElem?_eq_some_iff.1 HL2.out.lrec).1
              have hlt2 := (Array.getElem?_eq_some_iff.1 HL2.out.ds).1
              have hl3 := HL2.out.keep (hk3 (S + 3) hlt1 (by omega)) (hk3 (S + 2) hlt2 (by omega))
              have HX3 : Hid (UBox .u32 W3 w.heap.size 8 (blocks (padded l) (k + 1)).at) := Lib.hid hx3
              have HB3' := Lib.hid hb3
              have HK3 := Lib.hid hk3
              have HL3 := Lib.hid hl3
              clear hx3 hb3 hk3 hlt1 hlt2 hl3 HADD
              gi_wp2_with fail
              rw [HR.out]
              refine ⟨HL3.out, ?_⟩
              have hj1 := HJ.out.size
              have hz := HZ.out
              have hs2 := HSZ2.out
              exact ⟨HX3.out.put (by omega), Below_put (HBL2.out.trans HB3'.out) (by omega) (HBL2.out.trans HB3'.out).size, by rw [putObj_size]; have := HB3'.out.size; omega, fun b hb hne => (World.putObj_heap_other (by omega)).trans ((HK3.out b (by omega) hne).trans (HRS2.out b (by omega) hne))⟩
            · rintro e W' (⟨rfl, hL', hon⟩ | ⟨_, c, _, h⟩)
              · exact ⟨rfl, hon.box, hon.below, hon.size, hon.rest, hL'⟩
              · exact h.elim
          rintro e W3 ⟨⟨v, rfl⟩, hJ⟩
          refine rangePost_done hJ.loop fun hL2 => ?_
          have hub := hJ.box.put (l := S + 3) (o := (.loop { rr with state := .exhausted, pending := none })) (by omega)
          have hbl : Below w.heap.size w (W3.putObj (S + 3) (.loop { rr with state := .exhausted, pending := none })) := Below_put hJ.below (by omega) hJ.below.size
          have hL3 : LoopAt (W3.putObj (S + 3) (.loop { rr with state := .exhausted, pending := none })) (S + 2) (S + 3) rr .exhausted none := hL2
          show Exit.inBlock 4 _ .normal _ (W3.putObj (S + 3) (.loop { rr with state := .exhausted, pending := none }))
          obtain ⟨W4, hW4⟩ : ∃ W4, W3.putObj (S + 3) (.loop { rr with state := .exhausted, pending := none }) = W4 := ⟨_, rfl⟩
          rw [hW4] at hub hbl hL3 ⊢
          have hfin : blocks (padded l) N = blocks (padded l) ((padded l).length / 64) := by rw [HNN2.out]
          have HFIN : Hid ((blocks (padded l) N).bytes = sha l) := Lib.hid (by rw [hfin]; unfold sha; rfl)
          have hok := blocks_ok (padded l) N
          generalize blocks (padded l) N = u at hub hok HFIN
          have x0 := hub.cell 0 (by omega)
          have x1 := hub.cell 1 (by omega)
          have x2 := hub.cell 2 (by omega)
          have x3 := hub.cell 3 (by omega)
          have x4 := hub.cell 4 (by omega)
          have x5 := hub.cell 5 (by omega)
          have x6 := hub.cell 6 (by omega)
          have x7 := hub.cell 7 (by omega)
          simp only [W8.at] at x0 x1 x2 x3 x4 x5 x6 x7
          have HDG := Lib.hid (digest_any #[.int .u32 (u.a : Nat), .int .u32 (u.b : Nat), .int .u32 (u.c : Nat), .int .u32 (u.d : Nat), .int .u32 (u.e : Nat), .int .u32 (u.f : Nat), .int .u32 (u.g : Nat), .int .u32 (u.h : Nat)] u.at W4 rfl (fun i hi => by
            rcases (show i = 0 ∨ i = 1 ∨ i = 2 ∨ i = 3 ∨ i = 4 ∨ i = 5 ∨ i = 6 ∨ i = 7 by omega) with rfl | rfl | rfl | rfl | rfl | rfl | rfl | rfl <;> rfl) (fun i hi => W8.at_lt hok i))
          have HL3 := Lib.hid hL3
          have HBL4 := Lib.hid hbl
          clear hW4 hub hbl hL3 hL2 hJ hJ0 hfin hok HCB
          gi_wp2_with fail
          refine ⟨trivial, ?_⟩
          refine (callsIn_wide.2 HDG.out).mono ?_
          rintro e W5 ⟨⟨S5, rfl, hS5⟩, hb5⟩
          have hds : W5.heap[S + 2]? = some (.deferred (some [])) := (hb5.block _ (Array.getElem?_eq_some_iff.1 HL3.out.ds).1).trans HL3.out.ds
          have HDS := Lib.hid hds
          have HS5 := Lib.hid hS5
          have HB5 := Lib.hid (HBL4.out.trans (hb5.mono HBL4.out.size))
          clear x0 x1 x2 x3 x4 x5 x6 x7 hds hS5 hb5 HDG
          gi_wp2
          refine ⟨by simp, .inl ⟨_, _, rfl, run_takeDeferred HDS.out, ?_⟩⟩
          refine ⟨.string S5, by simp [results, Tryd.results70, go_sem], ?_⟩
          exact ⟨⟨S5, rfl, by rw [HS5.out, bytes_of, HFIN.out, HL.out]⟩, Below_put HB5.out (by omega) HB5.out.size⟩
        · obtain ⟨j, rfl⟩ : ∃ j, i = j + 1 := ⟨i - 1, by omega⟩
          rw [show (((j + 1 : Nat) : Int) - 1) = (j : Int) by omega]
          have l0 : (0 : Int) ≤ (j : Int) := by omega
          have hsl : s.size = l.length := HLL.out.symm
          obtain ⟨m, hm⟩ : ∃ m : Nat, m = 8 * j := ⟨_, rfl⟩
          obtain ⟨q, hq⟩ : ∃ q : Nat, q = 8 * s.size := ⟨_, rfl⟩
          have g1 : IntKind.i64.wrap (8 * (s.size : Int)) = (q : Int) := by rw [IntWalk.i64_in _ (by omega)]; omega
          have g2' : IntKind.i64.wrap (8 * (j : Int)) = (m : Int) := by rw [IntWalk.i64_in _ (by omega)]; omega
          have l1 : (0 : Int) ≤ (m : Int) := by omega
          have hmin : min m 64 = m := Nat.min_eq_left (by omega)
          obtain ⟨b, hb⟩ : ∃ b : UInt8, b = UInt8.ofNat (q / 2 ^ m) := ⟨_, rfl⟩
          obtain ⟨bn, hbn⟩ : ∃ bn, b.toNat = bn := ⟨_, rfl⟩
          have g3 : (q : Int) / 2 ^ m % 256 = (bn : Int) := by
            rw [← hbn, hb, ← cast_div]
            simp
          have HBN : Hid (Value.int .u8 (bn : Int) = u8v b) := Lib.hid (by rw [← hbn]; rfl)
          have HBB : Hid (b = UInt8.ofNat (8 * l.length / 2 ^ (8 * j))) := Lib.hid (by rw [hb, hq, hm, hsl])
          clear hm hq hsl hb hbn
          gi_wp2_with (
            gi_at_builtin
            refine wpListIn_append_brow rfl _ _ rfl (F := F) (l := pre) b rfl (HBRi.out.below ((Below.refl _ _).alloc (Nat.le_refl _) (.cells #[.int .u8 (bn : Int)] 5))) ⟨wr.heap.size, 0, none⟩ 1 rfl (by rw [← HBN.out]; simp [add_none]) (by have := HPN.out; have := HPL.out; omega) (by simp; omega) ?_
            intro v3 w3 hbr3 hbl3)
          refine ⟨⟨j, pre ++ [b], by omega, by go_num, Lib.hid (by
            rw [← hpre.out, HBB.out, List.append_assoc]
            rfl), hbr3, (HBi.out.alloc hFr _).trans hbl3⟩, by simp [intOf]⟩
    · have f3 : ((r : Int) != 56) = true := by simp; omega
      have HKZ := Lib.hid hkz
      clear hkz hzt hz64
      have hFr : F ≤ wr.heap.size := by have := HBk.out.size; have := HF.out; omega
      gi_wp2_with (
        gi_at_builtin
        refine wpListIn_append_brow rfl _ _ rfl (F := F) (l := l ++ [128] ++ List.replicate k 0) 0 rfl (HBRk.out.below ((Below.refl _ _).alloc (Nat.le_refl _) (.cells #[.int .u8 0] 5))) ⟨wr.heap.size, 0, none⟩ 1 rfl (by simp [add_none]; rfl) (by have := HN.out; have := HNN.out; have := HK.out; have : zerosOf l.length < 64 := Nat.mod_lt _ (by decide); simp; omega) (by simp; omega) ?_
        intro v1 w2 hbr1 hbl1)
      obtain ⟨g', cap', hv'⟩ := hbr1.len
      have hk1 := HK.out
      have hk2 := HKZ.out
      have hk3 := HNN.out
      refine ⟨⟨k + 1, by omega, by rw [List.replicate_succ', ← List.append_assoc]; exact hbr1, (HBk.out.alloc hFr _).trans hbl1⟩, ?_⟩
      rw [hv']
      simp [lenV]
      omega
theorem dsum_any (s : ByteArray) (w : World) (hs : s.size ≤ 10000) (hT : RoundOk w) :
    Calls Tryd.prog 70 #[.string s] w fun e w' => (∃ S : ByteArray, e = .returned (.string S) ∧ S.data.toList = sha s.data.toList) ∧ Below w.heap.size w w' := callsIn_wide.1 (sum_in s w hs hT)
end Go.Proofs.YtcfplkbbgjiocaaDoor
