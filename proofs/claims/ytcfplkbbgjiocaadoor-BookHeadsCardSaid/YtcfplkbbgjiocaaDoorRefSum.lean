/- The reference of chapter 2: the bytes that are added, Sum. Condition: at most 10000 bytes. -/
import Derived.Test.YtcfplkbbgjiocaaDoorRefBlock
import Derived.Test.YtcfplkbbgjiocaaDoorShaSum
namespace Go.Proofs.YtcfplkbbgjiocaaDoor
open Go Go.RowKit
set_option maxRecDepth 100000 in
set_option maxHeartbeats 4000000 in
theorem ref_extended_any (s : ByteArray) (w : World) (hs : s.size ≤ 10000) :
    Calls Tryd.prog 38 #[.string s] w fun e w' => (∃ v, e = .returned v ∧ w'.ownsRow w.heap.size 5 1 v (padded s.data.toList).length ((padded s.data.toList).map u8v)) ∧ Below w.heap.size w w' := by
  obtain ⟨i0, hi, hz0, hz1, hz2⟩ := infoU8
  obtain ⟨l, hl⟩ : ∃ l, s.data.toList = l := ⟨_, rfl⟩
  have hll : l.length = s.size := by rw [← hl]; simp
  have hsn : l.length ≤ 10000 := by omega
  have HL := Lib.hid hl
  rw [hl]
  have HGET : Hid (∀ i (h : i < s.size), Value.int .u8 ((s[i]'h).toNat : Int) = u8v (l.getD i 0)) := Lib.hid (fun i h => by
    rw [← HL.out]
    have h' : i < s.data.size := h
    simp [List.getD_eq_getElem?_getD, u8v]
    rw [Array.getElem?_eq_getElem h']
    rfl)
  clear hl
  go_enter Tryd.func38, Tryd.ntmps38
  go_wp2_with fail
  go_loopw [3, 4] (fun v3 v4 wr => ∃ k : Nat, k ≤ l.length ∧ v4 = .int .i64 (k : Nat) ∧ wr.ownsRow w.heap.size 5 1 v3 k ((l.take k).map u8v) ∧ Below w.heap.size w wr) (fun _ v4 _ => l.length - (intOf v4).toNat)
  case atStart => exact ⟨0, by omega, rfl, World.ownsRow_nil _ _ _ _, Below.refl _ _⟩
  case round =>
    obtain ⟨k, hk, rfl, hrow, hB⟩ := hrel
    by_cases hlt : k < l.length
    · have v0 : (0 : Int) ≤ (k : Int) := by omega
      have v1 : (k : Int) < (s.size : Int) := by omega
      have hks : k < s.size := by omega
      have HG := HGET.out k hks
      have hgl := Lib.hid HG
      clear HG
      go_wp2_with (at_builtin; refine wpList_append_own _ rfl _ _ 57 rfl w.heap.size 5 i0 (.int .u8 0) 1 1 Tryd.underlying57 hi hz0 hz1 hz2 rfl (by decide) _ _ _ rfl (hrow.alloc _) ⟨wr.heap.size, 0, none⟩ 1 1 [.int .u8 _] rfl rfl (cell_one_new _ _ _) (by simp [Value.oneCell']) (by unfold maxLen; omega) (by omega) (by have := hB.size; simp; omega) ?_; intro v' w1 hown' hgrow _; obtain ⟨g', cap', rfl⟩ := ownsRow_succ hown')
      refine ⟨⟨k + 1, by omega, by go_num, ?_, own_grown_below hB.size hB hrow hgrow⟩, by simp [intOf]; omega⟩
      rw [List.take_succ_eq_append_getElem hlt, List.map_append, show List.map u8v [l[k]] = [u8v (l.getD k 0)] by rw [List.getD_eq_getElem?_getD, List.getElem?_eq_getElem hlt]; rfl, ← hgl.out]
      exact hown'
    · obtain rfl : k = l.length := by omega
      have hex : ¬ ((l.length : Int) < (s.size : Int)) := by omega
      rw [List.take_length] at hrow
      obtain ⟨wo, rfl⟩ : ∃ W : World, W = wr := ⟨_, rfl⟩
      go_wp2_with (at_builtin; refine wpList_append_own _ rfl _ _ 57 rfl w.heap.size 5 i0 (.int .u8 0) 1 1 Tryd.underlying57 hi hz0 hz1 hz2 rfl (by decide) _ _ _ rfl (hrow.alloc _) ⟨wo.heap.size, 0, none⟩ 1 1 [.int .u8 _] rfl rfl (cell_one_new _ _ _) (by simp [Value.oneCell']) (by unfold maxLen; omega) (by omega) (by have := hB.size; simp; omega) ?_; intro v' w1 hown' hgrow _; obtain ⟨g', cap', rfl⟩ := ownsRow_succ hown')
      have hb1 := own_grown_below hB.size hB hrow hgrow
      have hrow1 : w1.ownsRow w.heap.size 5 1 (.slice (some ⟨g', 0, none⟩) (l.length + 1) cap') (l.length + 1 + 0) ((l ++ [128] ++ List.replicate 0 (0 : UInt8)).map u8v) := by
        rw [List.replicate_zero, List.append_nil, List.map_append]
        exact hown'
      have HB1 := Lib.hid hb1
      have HROW1 := Lib.hid hrow1
      clear hrow hB hown' hgrow hb1 hrow1
      obtain ⟨wp, rfl⟩ : ∃ W : World, W = w1 := ⟨_, rfl⟩
      go_loopw [3] (fun v3 wr => ∃ (k : Nat), k ≤ zerosOf l.length ∧ wr.ownsRow w.heap.size 5 1 v3 (l.length + 1 + k) ((l ++ [128] ++ List.replicate k (0 : UInt8)).map u8v) ∧ Below w.heap.size w wr) (fun v3 _ => l.length + 65 - lenV v3)
      case atStart =>
        refine ⟨0, by omega, ?_, HB1.out⟩
        rw [← hll]
        exact HROW1.out
      case round =>
        obtain ⟨k, hk, hrow, hB⟩ := hrel
        have hzt := zeros_test hk
        have hz64 : zerosOf l.length < 64 := Nat.mod_lt _ (by decide)
        obtain ⟨g, cap, rfl⟩ := ownsRow_succ (k := l.length + k) (by rw [show l.length + k + 1 = l.length + 1 + k by omega]; exact hrow)
        obtain ⟨nn, hnn⟩ : ∃ nn, l.length + k + 1 = nn := ⟨_, rfl⟩
        have hnn2 : l.length + 1 + k = nn := by omega
        rw [hnn2] at hrow hzt
        rw [hnn] at hrow
        rw [hnn]
        obtain ⟨r, hr⟩ : ∃ r, nn % 64 = r := ⟨_, rfl⟩
        have f2 : (nn : Int) % 64 = (r : Int) := by omega
        have f1 : (nn : Int).tmod 64 = (r : Int) := by rw [Int.tmod_eq_emod_of_nonneg (by omega)]; exact f2
        have f4 : (0 : Int) ≤ (nn : Int) := by omega
        rw [hr] at hzt
        have HROW := Lib.hid hrow
        have HB := Lib.hid hB
        by_cases hkz : k = zerosOf l.length
        · have f3 : ((r : Int) != 56) = false := by simp; omega
          have f5 : (r : Int) = 56 := by omega
          have HKZ := Lib.hid hkz
          have HNN := Lib.hid hnn
          clear hrow hB hr hnn hnn2 hzt hz64 hk hkz
          go_wp2_with fail
          go_loopw [3, 5] (fun v3 v5 wr => ∃ (i : Nat) (pre : List UInt8), i ≤ 8 ∧ v5 = .int .i64 ((i : Int) - 1) ∧ Hid (pre ++ lenBytes l.length i = padded l) ∧ wr.ownsRow w.heap.size 5 1 v3 pre.length (pre.map u8v) ∧ Below w.heap.size w wr) (fun _ v5 _ => (intOf v5 + 1).toNat)
          case atStart =>
            refine ⟨8, l ++ [128] ++ List.replicate k 0, by omega, rfl, Lib.hid (by rw [HKZ.out]; rfl), ?_, HB.out⟩
            have hlen : (l ++ [128] ++ List.replicate k (0 : UInt8)).length = nn := by have := HNN.out; simp; omega
            rw [hlen]
            exact HROW.out
          case round =>
            obtain ⟨i, pre, hi8, rfl, hpre, hrow, hB⟩ := hrel
            have hpl : pre.length + i = (padded l).length := by rw [← hpre.out, List.length_append, lenBytes_length]
            have hpn : (padded l).length ≤ 20000 := by rw [padded_length]; have : zerosOf l.length < 64 := Nat.mod_lt _ (by decide); omega
            have HPN := Lib.hid hpn
            have HPL := Lib.hid hpl
            clear hpl hpn
            by_cases hi0 : i = 0
            · subst hi0
              rw [show (((0 : Nat) : Int) - 1) = -1 from rfl]
              have hpp : pre = padded l := by have := hpre.out; simpa [lenBytes] using this
              subst hpp
              have HRF := Lib.hid hrow
              have HBF := Lib.hid hB
              clear hrow hB
              go_wp2_with fail
              go_ret
              exact ⟨⟨_, rfl, HRF.out⟩, HBF.out⟩
            · obtain ⟨j, rfl⟩ : ∃ j, i = j + 1 := ⟨i - 1, by omega⟩
              rw [show (((j + 1 : Nat) : Int) - 1) = (j : Int) by omega]
              have l0 : (0 : Int) ≤ (j : Int) := by omega
              obtain ⟨m, hm⟩ : ∃ m : Nat, m = 8 * j := ⟨_, rfl⟩
              obtain ⟨q, hq⟩ : ∃ q : Nat, q = 8 * s.size := ⟨_, rfl⟩
              have g1 : IntKind.i64.wrap (8 * (s.size : Int)) = (q : Int) := by rw [IntWalk.i64_in _ (by omega)]; omega
              have g2' : IntKind.i64.wrap (8 * (j : Int)) = (m : Int) := by rw [IntWalk.i64_in _ (by omega)]; omega
              have l1 : (0 : Int) ≤ (m : Int) := by omega
              have hmin : min m 64 = m := Nat.min_eq_left (by omega)
              obtain ⟨b, hb⟩ : ∃ b : UInt8, b = UInt8.ofNat (q / 2 ^ m) := ⟨_, rfl⟩
              obtain ⟨bn, hbn⟩ : ∃ bn, b.toNat = bn := ⟨_, rfl⟩
              have g3 : (q : Int) / 2 ^ m % 256 = (bn : Int) := by
                rw [← hbn, hb, ← cast_div]
                simp
              have HBN : Hid (Value.int .u8 (bn : Int) = u8v b) := Lib.hid (by rw [← hbn]; rfl)
              have HBB : Hid (b = UInt8.ofNat (8 * l.length / 2 ^ (8 * j))) := Lib.hid (by rw [hb, hq, hm, hll])
              have hpb : pre.length ≤ 20000 := by have := HPN.out; have := HPL.out; omega
              clear hm hq hb hbn
              go_wp2_with (at_builtin; refine wpList_append_own _ rfl _ _ 57 rfl w.heap.size 5 i0 (.int .u8 0) 1 1 Tryd.underlying57 hi hz0 hz1 hz2 rfl (by decide) _ _ _ rfl (hrow.alloc _) ⟨wr.heap.size, 0, none⟩ 1 1 [.int .u8 _] rfl rfl (cell_one_new _ _ _) (by simp [Value.oneCell']) (by unfold maxLen; omega) (by omega) (by have := hB.size; simp; omega) ?_; intro v' w1 hown' hgrow _; obtain ⟨g', cap', rfl⟩ := ownsRow_succ hown')
              refine ⟨⟨j, pre ++ [b], by omega, by go_num, Lib.hid (by
                rw [← hpre.out, HBB.out, List.append_assoc]
                rfl), ?_, own_grown_below hB.size hB hrow hgrow⟩, by simp [intOf]⟩
              rw [List.length_append, List.map_append, show List.map u8v [b] = [u8v b] from rfl, ← HBN.out]
              exact hown'
        · have f3 : ((r : Int) != 56) = true := by simp; omega
          have f5 : ¬ (r : Int) = 56 := by omega
          have HKZ := Lib.hid hkz
          have HNN := Lib.hid hnn
          have hnb : nn ≤ 20000 := by omega
          clear hr hnn hnn2 hzt hz64 hkz
          go_wp2_with (at_builtin; refine wpList_append_own _ rfl _ _ 57 rfl w.heap.size 5 i0 (.int .u8 0) 1 1 Tryd.underlying57 hi hz0 hz1 hz2 rfl (by decide) _ _ _ rfl (hrow.alloc _) ⟨wr.heap.size, 0, none⟩ 1 1 [.int .u8 _] rfl rfl (cell_one_new _ _ _) (by simp [Value.oneCell']) (by unfold maxLen; omega) (by omega) (by have := hB.size; simp; omega) ?_; intro v' w1 hown' hgrow _; obtain ⟨g', cap', rfl⟩ := ownsRow_succ hown')
          refine ⟨⟨k + 1, ?_, ?_, own_grown_below hB.size hB hrow hgrow⟩, ?_⟩
          · have := HKZ.out; omega
          · rw [show l.length + 1 + (k + 1) = nn + 1 by have := HNN.out; omega, List.replicate_succ', ← List.append_assoc, List.map_append]
            exact hown'
          · have := HNN.out
            have := HKZ.out
            have : zerosOf l.length < 64 := Nat.mod_lt _ (by decide)
            simp [lenV]
            omega
theorem bytes8 (v : W8) : ((List.range 8).flatMap fun i => wordBytes (v.at i)) = v.bytes := by
  simp [List.range, List.range.loop, W8.at, W8.bytes]
theorem flat_snoc (f : Nat → List UInt8) (i : Nat) : (List.range (i + 1)).flatMap f = (List.range i).flatMap f ++ f i := by
  rw [List.range_succ, List.flatMap_append]
  simp
theorem news_four (w : World) (x0 x1 x2 x3 : Value) (t : TypeId) : ∀ j u, [x0, x1, x2, x3][j]? = some u → (w.alloc (.cells #[x0, x1, x2, x3] t)).cell? ((⟨w.heap.size, 0, none⟩ : Addr).add j) = some u := by
  intro j u h
  have hj : j < 4 := by have := (List.getElem?_eq_some_iff.1 h).1; simpa using this
  rw [addr_add0]
  rcases (show j = 0 ∨ j = 1 ∨ j = 2 ∨ j = 3 by omega) with rfl | rfl | rfl | rfl <;> simpa using h
set_option maxRecDepth 100000 in
set_option maxHeartbeats 4000000 in
theorem ref_sum_any (s : ByteArray) (w : World) (hs : s.size ≤ 10000) :
    Calls Tryd.prog 13 #[.string s] w fun e w' => (∃ S : ByteArray, e = .returned (.string S) ∧ S.data.toList = sha s.data.toList) ∧ Below w.heap.size w w' := by
  obtain ⟨i0, hi, hz0, hz1, hz2⟩ := infoU8
  have hbx := eight_ubox w8init (World.alloc_heap_new w (.cells #[.int .u32 (0x6a09e667 : Nat), .int .u32 (0xbb67ae85 : Nat), .int .u32 (0x3c6ef372 : Nat), .int .u32 (0xa54ff53a : Nat), .int .u32 (0x510e527f : Nat), .int .u32 (0x9b05688c : Nat), .int .u32 (0x1f83d9ab : Nat), .int .u32 (0x5be0cd19 : Nat)] 77))
  have hal : Below w.heap.size w (w.alloc (.cells #[.int .u32 (0x6a09e667 : Nat), .int .u32 (0xbb67ae85 : Nat), .int .u32 (0x3c6ef372 : Nat), .int .u32 (0xa54ff53a : Nat), .int .u32 (0x510e527f : Nat), .int .u32 (0x9b05688c : Nat), .int .u32 (0x1f83d9ab : Nat), .int .u32 (0x5be0cd19 : Nat)] 77)) := (Below.refl _ _).alloc (Nat.le_refl _) _
  have HBX := Lib.hid hbx.reads
  have HAL := Lib.hid hal
  clear hbx hal
  go_enter Tryd.func13, Tryd.ntmps13
  go_wp2_with fail
  generalize hgw : w.alloc _ = w1
  have HBX1 : Hid (ReadsU .u32 w1 (some ⟨w.heap.size, 0, none⟩) 8 w8init.at) := Lib.hid (by rw [← hgw]; exact HBX.out)
  have HB1 : Hid (Below w.heap.size w w1) := Lib.hid (by rw [← hgw]; exact HAL.out)
  clear hgw HBX HAL
  refine (ref_extended_any s _ hs).mono ?_
  rintro e w2 ⟨⟨v, rfl, hrow⟩, hb2⟩
  obtain ⟨l, hl⟩ : ∃ l, padded s.data.toList = l := ⟨_, rfl⟩
  have hlb : l.length ≤ 20000 := by rw [← hl, padded_length]; have : zerosOf s.data.toList.length < 64 := Nat.mod_lt _ (by decide); have : s.data.toList.length = s.size := by simp
                                    omega
  obtain ⟨N, hN⟩ : ∃ N, l.length / 64 = N := ⟨_, rfl⟩
  have hlN : l.length = 64 * N := by rw [← hN, ← hl]; exact padded_blocks _
  have hN1 : 1 ≤ N := by rw [← hl, padded_length] at hlN; omega
  have HFIN : Hid ((blocks l N).bytes = sha s.data.toList) := Lib.hid (by unfold sha; rw [hl, hN])
  rw [hl, hlN] at hrow
  obtain ⟨g, cap, rfl⟩ := ownsRow_succ (k := 64 * N - 1) (by rw [show 64 * N - 1 + 1 = 64 * N by omega]; exact hrow)
  rw [show 64 * N - 1 + 1 = 64 * N by omega] at hrow ⊢
  have hcap : 64 * N ≤ cap ∧ cap ≤ maxLen := by
    rcases hrow.2 with ⟨h, _⟩ | ⟨g', cap', cur, h, _, _, h1, h2, _⟩
    · cases h
    · cases h; exact ⟨h1, h2⟩
  obtain ⟨hcap1, hcap2⟩ := hcap
  have HRB : Hid (∀ W, Below w2.heap.size w2 W → ∀ j, j < 64 * N → W.cell? ⟨g, j, none⟩ = some (.int .u8 ((l.getD j 0).toNat : Nat))) := Lib.hid (fun W h j hj => by
    have h2 := hrow.cells (g := g) rfl j (u8v (l.getD j 0)) (by rw [List.getElem?_map, List.getD_eq_getElem?_getD, List.getElem?_eq_getElem (by omega)]; rfl)
    rw [addr_add0] at h2
    exact (h.cell (p := ⟨g, j, none⟩) (cell_lt' h2)).trans h2)
  have HB2 := Lib.hid (HB1.out.trans (hb2.mono HB1.out.size))
  have HX2 := Lib.hid (HBX1.out.below hb2)
  clear hrow hb2 hl hN HB1 HBX1
  go_wp2_with fail
  go_loopw [3, 5] (fun v3 v5 wr => ∃ (k : Nat) (p : Option Addr) (c : Nat), k ≤ N ∧ v5 = .int .i64 ((64 * k : Nat) : Int) ∧ v3 = .slice p 8 c ∧ ReadsU .u32 wr p 8 (blocks l k).at ∧ Below w2.heap.size w2 wr) (fun _ v5 _ => 64 * N - (intOf v5).toNat)
  case atStart => exact ⟨0, _, 8, by omega, rfl, rfl, HX2.out, Below.refl _ _⟩
  case round =>
    obtain ⟨k, p, c, hk, rfl, rfl, hx, hb⟩ := hrel
    by_cases hlt : k < N
    · obtain ⟨m, hm⟩ : ∃ m : Nat, m = 64 * k := ⟨_, rfl⟩
      have v0 : (0 : Int) ≤ (m : Int) := by omega
      have v1 : (m : Int) < ((64 * N : Nat) : Int) := by omega
      have v2 : (m : Int) + 64 ≤ ((64 * N : Nat) : Int) := by omega
      have v3 : ((64 * N : Nat) : Int) ≤ (cap : Int) := by omega
      have v4 : m + 64 ≤ 20064 := by omega
      have HCB := Lib.hid (fun d => ref_block_any p (some ⟨g, m, none⟩) c d (blocks l k) (blockAt l k) wr (blocks_ok _ _) hx (fun i hi => ⟨g, m, rfl, fun j hj => by rw [hm]; exact HRB.out wr hb (64 * k + j) (by omega)⟩) (blockAt_lt _ _))
      have HBW := Lib.hid hb
      have HM := Lib.hid hm
      rw [← hm]
      clear hx hb hm
      go_wp2_with fail
      refine (HCB.out _).mono ?_
      rintro e w3 ⟨⟨p', c', rfl, hx'⟩, hb3⟩
      have HX3 := Lib.hid hx'
      have HB3 := Lib.hid (HBW.out.trans (hb3.mono HBW.out.size))
      clear hx' hb3
      go_wp2_with fail
      exact ⟨⟨k + 1, _, _, by omega, by have := HM.out; congr 1; omega, rfl, HX3.out, HB3.out⟩, by have := HM.out; simp [intOf]; omega⟩
    · obtain rfl : k = N := by omega
      obtain ⟨wz, rfl⟩ : ∃ W : World, W = wr := ⟨_, rfl⟩
      have hex : ¬ (((64 * k : Nat) : Int) < ((64 * k : Nat) : Int)) := by omega
      have HXF := Lib.hid hx
      have HBZ := Lib.hid (HB2.out.trans (hb.mono HB2.out.size))
      clear hx hb
      go_wp2_with fail
      have HV := Lib.hid (blocks_ok l k)
      generalize blocks l k = v at HXF HFIN HV
      go_loopw [6, 7] (fun v6 v7 wr => ∃ i : Nat, i ≤ 8 ∧ v7 = .int .i64 (i : Nat) ∧ wr.ownsRow wz.heap.size 5 1 v6 (4 * i) (((List.range i).flatMap fun i => wordBytes (v.at i)).map u8v) ∧ Below wz.heap.size wz wr) (fun _ v7 _ => 8 - (intOf v7).toNat)
      case atStart => exact ⟨0, by omega, rfl, World.ownsRow_nil _ _ _ _, Below.refl _ _⟩
      case round =>
        obtain ⟨i, hi8, rfl, hrow, hb⟩ := hrel
        by_cases hlt : i < 8
        · have l0 : (i : Int) < 8 := by omega
          have l1 : (0 : Int) ≤ (i : Int) := by omega
          obtain ⟨gh, oh, rfl, hch⟩ := HXF.out i hlt
          have HKS : Hid (∀ W, Below wz.heap.size wz W → W.cell? ⟨gh, oh + i, none⟩ = some (.int .u32 ((v.at i : Nat) : Int))) := Lib.hid (fun W h =>
            (h.cell (p := ⟨gh, oh + i, none⟩) (cell_lt' (hch i hlt))).trans (hch i hlt))
          have hxl := W8.at_lt HV.out i
          have HWB : Hid ((wordBytes (v.at i)).map u8v = [.int .u8 ((v.at i / 16777216 % 256 : Nat) : Int), .int .u8 ((v.at i / 65536 % 256 : Nat) : Int), .int .u8 ((v.at i / 256 % 256 : Nat) : Int), .int .u8 ((v.at i % 256 : Nat) : Int)]) := Lib.hid (by simp [wordBytes, u8v])
          obtain ⟨x, hx⟩ : ∃ x, v.at i = x := ⟨_, rfl⟩
          have HX := Lib.hid hx
          rw [hx] at HKS HWB hxl
          obtain ⟨b0, e0, f0⟩ : ∃ b : Nat, IntKind.u8.wrap ((x : Int) / 16777216) = (b : Int) ∧ x / 16777216 % 256 = b := ⟨_, IntKind.wrap_u8 _, rfl⟩
          obtain ⟨b1, e1, f1⟩ : ∃ b : Nat, IntKind.u8.wrap ((x : Int) / 65536) = (b : Int) ∧ x / 65536 % 256 = b := ⟨_, IntKind.wrap_u8 _, rfl⟩
          obtain ⟨b2, e2, f2⟩ : ∃ b : Nat, IntKind.u8.wrap ((x : Int) / 256) = (b : Int) ∧ x / 256 % 256 = b := ⟨_, IntKind.wrap_u8 _, rfl⟩
          obtain ⟨b3, e3, f3⟩ : ∃ b : Nat, IntKind.u8.wrap (x : Int) = (b : Int) ∧ x % 256 = b := ⟨_, IntKind.wrap_u8 _, rfl⟩
          rw [f0, f1, f2, f3] at HWB
          have c1 := HKS.out wr hb
          have HROW := Lib.hid hrow
          have HBW := Lib.hid hb
          have hwr := hb.size
          clear hrow hb hch hx f0 f1 f2 f3
          go_upto_region 11 with fail
          go_region_held3 (fun W => W.cell? ⟨gh, oh + i, none⟩ = some (.int .u32 (x : Int)))
            (first | assumption | exact HKS.out _ (by assumption) | go_keep)
            ((refine step_append_lies _ (by rfl) (.tmp 28) (.tmp 52) 57 (by rfl) wz.heap.size 5 i0 (.int .u8 0) 1 1 Tryd.underlying57 hi hz0 hz1 hz2 rfl (by decide) _ (4 * i) _ (by rfl) ((HROW.out.alloc _).drew) ⟨wr.heap.size, 0, none⟩ 4 4 [.int .u8 _, .int .u8 _, .int .u8 _, .int .u8 _] (by rfl) rfl (news_four wr _ _ _ _ _) (h1 := by simp [Value.oneCell']) (hm := by decide) (h63 := by unfold maxLen; omega) (hbytes := by omega) (hbase := Nat.le_trans hwr (by show wr.heap.size ≤ (wr.alloc _).heap.size; simp)) (H := wr.heap.size + 1) (hH := by show (wr.alloc _).heap.size = _; simp) ?_; intro g cp1 w7 hown1 hgrow1 hat1 hlt1; have hb7 := ((HBW.out.alloc hwr _).drew).grown hgrow1 (by simp; omega) (fun j ej => (HROW.out.lt j ej).1)))
          go_wp2_with fail
          refine ⟨?_, by simp [intOf]; omega⟩
          refine ⟨i + 1, by omega, by go_num, ?_, hb7⟩
          rw [flat_snoc, List.map_append, HX.out, HWB.out]
          exact hown1
        · obtain rfl : i = 8 := by omega
          rw [bytes8, HFIN.out] at hrow
          have hcv := own_bytes_string (P := Tryd.prog) (l := sha s.data.toList) hrow 57 Tryd.underlying57 Tryd.underlying5 9 Tryd.underlying9
          have HBF := Lib.hid (HBZ.out.trans (hb.mono HBZ.out.size))
          clear hrow hb
          go_wp2_with fail
          go_ret
          exact ⟨⟨_, rfl, rfl⟩, HBF.out⟩
end Go.Proofs.YtcfplkbbgjiocaaDoor
