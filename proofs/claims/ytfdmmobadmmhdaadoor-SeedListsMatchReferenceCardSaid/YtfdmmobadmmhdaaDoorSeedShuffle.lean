/- Package seed: Shuffle, Sample. Condition: the table holds its words. -/
import Derived.Test.YtfdmmobadmmhdaaDoorSeedSwap
namespace Go.Proofs.YtfdmmobadmmhdaaDoor
open Go Go.RowKit
/-- The exchanges from the element k on. -/
def shufO (s : ByteArray) : Nat → (Nat → Nat) → Option (Nat → Nat)
  | 0, f => some f
  | k + 1, f => match drawO s ((k + 1 : Nat) : Int) ((k + 2 : Nat) : Int) with
    | none => none
    | some d => shufO s k (swapF f (k + 1) d.toNat)
theorem shufO_none {s : ByteArray} {k : Nat} {f : Nat → Nat} (h : drawO s ((k + 1 : Nat) : Int) ((k + 2 : Nat) : Int) = none) : shufO s (k + 1) f = none := by
  rw [shufO, h]
theorem shufO_some {s : ByteArray} {k : Nat} {d : Int} {f : Nat → Nat} (h : drawO s ((k + 1 : Nat) : Int) ((k + 2 : Nat) : Int) = some d) : shufO s (k + 1) f = shufO s k (swapF f (k + 1) d.toNat) := by
  rw [shufO, h]
theorem reduceF_lt {r b : Int} (h : reduceB r b = true) : 0 ≤ reduceF r b ∧ reduceF r b < b := by
  have hT : Takes r b := of_decide_eq_true h
  have hb : 0 < b := by have := hT.1.1; omega
  rw [show reduceF r b = r % b from if_pos hT]
  exact ⟨Int.emod_nonneg _ (by omega), Int.emod_lt_of_pos _ hb⟩
theorem drawAt_lt {s : ByteArray} {i below v : Int} : ∀ (f j : Nat), drawAt s i below j f = some v → 0 ≤ v ∧ v < below
  | 0, _, h => by cases h
  | f + 1, j, h => by
    unfold drawAt at h
    split at h
    · next hr =>
      injection h with h
      rw [← h]
      exact reduceF_lt hr
    · exact drawAt_lt f (j + 1) h
theorem drawO_lt {s : ByteArray} {i below v : Int} (h : drawO s i below = some v) : 0 ≤ v ∧ v < below := by
  unfold drawO at h
  split at h
  · exact drawAt_lt 64 0 h
  · cases h
def ShufOk (s : ByteArray) (n : Int) : Prop := Named s 0 ∧ 0 ≤ n ∧ n ≤ 1000
instance (s : ByteArray) (n : Int) : Decidable (ShufOk s n) := by unfold ShufOk; infer_instance
def shufR (s : ByteArray) (n : Int) : Option (Nat → Nat) := if ShufOk s n then shufO s (n.toNat - 1) id else none
/-- How Shuffle ends. -/
inductive ShufIs (s : ByteArray) (n : Int) (w : World) : Ending → World → Prop
  | no {w'} : shufR s n = none → ShufIs s n w (.returned (.tuple #[.slice none 0 0, .int .i64 60])) w'
  | yes {w' g f} (m : Nat) : n = (m : Nat) → m ≤ 1000 → shufR s n = some f → UBox .i64 w' g m f → w.heap.size ≤ g → ShufIs s n w (.returned (.tuple #[.slice (some ⟨g, 0, none⟩) m m, .int .i64 0])) w'
theorem infoI64 : ∃ i : TypeInfo, Tryd.prog.info? 3 = some i ∧ i.zero = some (.int .i64 0) ∧ i.size = 1 ∧ i.bytes = 8 := by
  have h : (Tryd.prog.info? 3).map (fun i => (i.zero, i.size, i.bytes)) = some (some (.int .i64 0), 1, 8) := by kernel_rfl
  cases hi : Tryd.prog.info? 3 with
  | none => rw [hi] at h; cases h
  | some i =>
    rw [hi] at h
    simp at h
    exact ⟨i, rfl, h.1, h.2.1, h.2.2⟩
theorem make_deck (W : World) (n : Nat) (hn : n ≤ 1000) : ∃ o : Obj, (Instr.makeSlice 53 (.int .i64 (n : Nat)) (.int .i64 (n : Nat))).run Tryd.prog W = .ok (.slice (some ⟨W.heap.size, 0, none⟩) n n) (W.alloc o) ∧ UBox .i64 (W.alloc o) W.heap.size n (fun _ => 0) := by
  obtain ⟨i0, hi, hz0, hz1, hz2⟩ := infoI64
  have h := run_make (P := Tryd.prog) W 53 3 i0 (.int .i64 0) Tryd.underlying53 hi hz0 .i64 .i64 (n : Int) (n : Int) (by omega) (by omega) (by rw [hz2]; omega) (by omega)
  simp only [Int.toNat_natCast] at h
  refine ⟨_, h, ?_⟩
  have e : madeCells (Value.int .i64 0).cells (n * i0.size) = ((List.range n).map fun _ => Value.int .i64 0).toArray := by
    rw [hz1]
    apply Array.toList_inj.1
    rw [made_one _ rfl]
    apply List.ext_getElem <;> simp
  rw [e]
  exact UBox.new W _ _ _ (by simp) (fun i hi => by simp [hi])
def intZ (v : Value) : Int := match v with | .int _ z => z | _ => 0
set_option maxRecDepth 100000 in
set_option maxHeartbeats 4000000 in
theorem shuffle_any (s : ByteArray) (n : Int) (w : World) (hT : RoundOk w) :
    Calls Tryd.prog 20 #[.string s, .int .i64 n] w fun e w' => ShufIs s n w e w' ∧ Below w.heap.size w w' := by
  have HN := Lib.hid (isNamed_any s 0 w)
  by_cases hn : Named s 0
  · rw [decide_eq_true hn] at HN
    by_cases h1 : 0 ≤ n
    · by_cases h2 : n ≤ 1000
      · obtain ⟨m, rfl⟩ : ∃ m : Nat, n = (m : Nat) := ⟨n.toNat, by omega⟩
        have HR : Hid (shufR s (m : Nat) = shufO s (m - 1) id) := Lib.hid (by
          unfold shufR
          rw [if_pos ⟨hn, h1, h2⟩]
          simp)
        have hm : m ≤ 1000 := by omega
        obtain ⟨o, hmk, hub⟩ := make_deck w m hm
        have HUB := Lib.hid hub
        have HT := Lib.hid hT
        clear hn hub hT
        go_enter Tryd.func20, Tryd.ntmps20
        go_wp2_with fail
        refine HN.out.mono ?_
        rintro e w' ⟨rfl, rfl⟩
        go_wp2_with fail
        have hUB0 : UBox .i64 (w.alloc o) w.heap.size m (fun i => if i < 0 then i else 0) := HUB.out.congr (fun i _ => if_neg (by omega))
        have hB0 : Below w.heap.size w (w.alloc o) := (Below.refl _ _).alloc (Nat.le_refl _) _
        have HG := Lib.hid (show w.heap.size = w.heap.size from rfl)
        obtain ⟨G, hG⟩ : ∃ G, w.heap.size = G := ⟨_, rfl⟩
        obtain ⟨w0, hw0⟩ : ∃ w0, w.alloc o = w0 := ⟨_, rfl⟩
        rw [hw0] at hUB0 hB0 ⊢
        rw [hG] at hUB0 hB0
        try rw [hG]
        have HGE := Lib.hid hG
        clear HG hw0 hmk HUB
        go_loopw [27] (fun v wr => ∃ k : Nat, k ≤ m ∧ v = .int .i64 (k : Nat) ∧ UBox .i64 wr G m (fun i => if i < k then i else 0) ∧ Below G w wr) (fun v _ => m - (intZ v).toNat)
        case atStart => exact ⟨0, by omega, rfl, hUB0, hB0⟩
        case round =>
          obtain ⟨k, hk, rfl, hub, hb⟩ := hrel
          by_cases hlt : k < m
          · have c0 := hub.cell k hlt
            have c1 := hub.free k
            have v1 : (0 : Int) ≤ (k : Int) := by omega
            have v2 : (k : Int) < (m : Int) := by omega
            have HUBk := Lib.hid hub
            clear hUB0 hB0 hub
            go_wp2
            refine ⟨⟨k + 1, by omega, by go_num, (HUBk.out.set k hlt k).congr (fun i _ => ?_), Below_set' hb (Nat.le_refl _) _⟩, by simp [intZ]; omega⟩
            by_cases e : i = k
            · rw [if_pos e, if_pos (by omega), e]
            · by_cases e2 : i < k
              · rw [if_neg e, if_pos e2, if_pos (by omega)]
              · rw [if_neg e, if_neg e2, if_neg (by omega)]
          · obtain rfl : m = k := by omega
            go_wp2
            have hub' : UBox .i64 wr G m id := hub.congr (fun i hi => by rw [if_pos hi]; rfl)
            have HUBm := Lib.hid hub'
            have HBm := Lib.hid hb
            have HR0 := Lib.hid (show shufO s ((m : Int) - 1).toNat id = shufO s (m - 1) id by rw [show ((m : Int) - 1).toNat = m - 1 by omega])
            clear hub hub' hb hUB0 hB0 hlt hk
            have hz0 : -1 ≤ (m : Int) - 1 ∧ (m : Int) - 1 ≤ (m : Int) - 1 := by omega
            obtain ⟨z0, hz00⟩ : ∃ z, (m : Int) - 1 = z := ⟨_, rfl⟩
            rw [hz00] at HR0
            have hzl : -1 ≤ z0 := by omega
            have hzu : z0 < (m : Int) := by omega
            simp only [hz00]
            clear hz0
            go_loopw [9] (fun v W => ∃ z : Int, v = .int .i64 z ∧ -1 ≤ z ∧ z < (m : Int) ∧ ∃ f, UBox .i64 W G m f ∧ Hid (shufO s z.toNat f = shufO s (m - 1) id) ∧ Below G w W) (fun v _ => (intZ v).toNat)
            case atStart => exact ⟨z0, rfl, hzl, hzu, id, HUBm.out, HR0, HBm.out⟩
            case round =>
              obtain ⟨z, rfl, hl, hu, f, hub, hR, hb⟩ := hrel
              clear hz00 hzl hzu HR0
              by_cases hz : 0 < z
              · obtain ⟨k, rfl⟩ : ∃ k : Nat, z = ((k + 1 : Nat) : Int) := ⟨(z - 1).toNat, by omega⟩
                have HD := Lib.hid (draw_any s ((k + 1 : Nat) : Int) ((k + 2 : Nat) : Int) wr (HT.out.below (by rw [hG]; exact hb)))
                have HUBf := Lib.hid hub
                have HBf := Lib.hid hb
                rw [show ((k + 1 : Nat) : Int).toNat = k + 1 by omega] at hR
                clear hub hb
                obtain ⟨q, hq⟩ : ∃ q : Int, ((k + 1 : Nat) : Int) = q := ⟨_, rfl⟩
                have hq2 : ((k + 2 : Nat) : Int) = q + 1 := by omega
                cases hd : drawO s ((k + 1 : Nat) : Int) ((k + 2 : Nat) : Int) with
                | none =>
                  have HNO := Lib.hid ((HR.out.trans hR.out.symm).trans (shufO_none hd))
                  rw [show drawV s ((k + 1 : Nat) : Int) ((k + 2 : Nat) : Int) = 0 by rw [drawV, hd]; rfl, show drawE s ((k + 1 : Nat) : Int) ((k + 2 : Nat) : Int) = 60 by rw [drawE, hd]; rfl] at HD
                  clear hd
                  rw [hq2, hq] at HD
                  rw [hq] at hz hl hu ⊢
                  go_wp2_with fail
                  refine HD.out.mono ?_
                  rintro e w2 ⟨rfl, hb2⟩
                  go_wp2_with fail
                  go_ret2
                  exact ⟨.no HNO.out, by first | exact HBf.out.trans (hb2.mono (by rw [← hG]; exact HBf.out.size)) | (rw [hG]; exact HBf.out.trans (hb2.mono (by rw [← hG]; exact HBf.out.size)))⟩
                | some d =>
                  have hdl := drawO_lt hd
                  obtain ⟨dn, rfl⟩ : ∃ dn : Nat, d = (dn : Nat) := ⟨d.toNat, by omega⟩
                  have hdn : dn < m := by omega
                  have HYES := Lib.hid ((shufO_some hd).symm.trans hR.out)
                  rw [show drawV s ((k + 1 : Nat) : Int) ((k + 2 : Nat) : Int) = dn by rw [drawV, hd]; rfl, show drawE s ((k + 1 : Nat) : Int) ((k + 2 : Nat) : Int) = 0 by rw [drawE, hd]; rfl] at HD
                  clear hd hdl
                  rw [hq2, hq] at HD
                  have HK : Hid (k + 1 < m) := Lib.hid (by omega)
                  have HQ := Lib.hid hq
                  have HDN := Lib.hid hdn
                  rw [hq] at hz hl hu ⊢
                  go_wp2_with fail
                  refine HD.out.mono ?_
                  rintro e w2 ⟨rfl, hb2⟩
                  have hub2 := HUBf.out.below hb2
                  have HSW := Lib.hid (swap_any G m m (k + 1) dn f w2 HK.out HDN.out hub2)
                  rw [HQ.out] at HSW
                  have HB2 := Lib.hid (HBf.out.trans (hb2.mono (by rw [← hG]; exact HBf.out.size)))
                  clear hub2 hb2 hq hq2
                  go_wp2_with fail
                  refine HSW.out.mono ?_
                  rintro e w3 ⟨⟨v, rfl⟩, hub3, hb3, hk3⟩
                  have HUB3 := Lib.hid hub3
                  have hB3 : Below G w w3 := HB2.out.trans hb3
                  have HB3 := Lib.hid hB3
                  clear hub3 hb3 hk3 hB3
                  go_wp2_with fail
                  exact ⟨⟨q - 1, rfl, by omega, by omega, _, HUB3.out, Lib.hid (by
                    rw [show (q - 1).toNat = k by have := HQ.out; omega]
                    exact HYES.out), HB3.out⟩, by simp [intZ]; omega⟩
              · have HEND := Lib.hid (show shufR s (m : Nat) = some f by rw [HR.out, ← hR.out, show z.toNat = 0 by omega]; rfl)
                have HUBf := Lib.hid hub
                clear hub
                go_wp2
                go_ret2
                exact ⟨.yes m rfl hm HEND.out HUBf.out (by omega), by first | exact hb | (rw [hG]; exact hb)⟩
      · have HR : Hid (shufR s n = none) := Lib.hid (if_neg (fun h => h2 h.2.2))
        clear hn hT
        have h3 : 1000 < n := by omega
        go_enter Tryd.func20, Tryd.ntmps20
        go_wp2_with fail
        refine HN.out.mono ?_
        rintro e w' ⟨rfl, rfl⟩
        go_wp2_with fail
        go_ret2
        exact ⟨.no HR.out, Below.refl _ _⟩
    · have HR : Hid (shufR s n = none) := Lib.hid (if_neg (fun h => h1 h.2.1))
      clear hn hT
      have h3 : n < 0 := by omega
      go_enter Tryd.func20, Tryd.ntmps20
      go_wp2_with fail
      refine HN.out.mono ?_
      rintro e w' ⟨rfl, rfl⟩
      go_wp2_with fail
      go_ret2
      exact ⟨.no HR.out, Below.refl _ _⟩
  · rw [decide_eq_false hn] at HN
    have HR : Hid (shufR s n = none) := Lib.hid (if_neg (fun h => hn h.1))
    clear hn hT
    go_enter Tryd.func20, Tryd.ntmps20
    go_wp2_with fail
    refine HN.out.mono ?_
    rintro e w' ⟨rfl, rfl⟩
    go_wp2_with fail
    go_ret2
    exact ⟨.no HR.out, Below.refl _ _⟩
def sampOk (n k : Int) : Prop := 0 ≤ k ∧ k ≤ n
/-- How Sample ends. -/
inductive SampIs (s : ByteArray) (n k : Int) (w : World) : Ending → World → Prop
  | no {w'} : shufR s n = none ∨ ¬ sampOk n k → SampIs s n k w (.returned (.tuple #[.slice none 0 0, .int .i64 60])) w'
  | yes {w' g f} (m j : Nat) : n = (m : Nat) → k = (j : Nat) → j ≤ m → m ≤ 1000 → shufR s n = some f → UBox .i64 w' g m f → w.heap.size ≤ g → SampIs s n k w (.returned (.tuple #[.slice (some ⟨g, 0, none⟩) j j, .int .i64 0])) w'
theorem sample_any (s : ByteArray) (n k : Int) (w : World) (hT : RoundOk w) :
    Calls Tryd.prog 22 #[.string s, .int .i64 n, .int .i64 k] w fun e w' => SampIs s n k w e w' ∧ Below w.heap.size w w' := by
  have HC := Lib.hid (shuffle_any s n w hT)
  clear hT
  go_enter Tryd.func22, Tryd.ntmps22
  go_wp2_with fail
  refine HC.out.mono ?_
  rintro e w' ⟨h, hb⟩
  cases h with
  | no hno =>
    have HNO := Lib.hid hno
    clear hno HC
    go_wp2_with fail
    go_ret2
    exact ⟨.no (.inl HNO.out), hb⟩
  | yes m hm hm2 hs hub hg =>
    subst hm
    have HUB := Lib.hid hub
    have HS := Lib.hid hs
    clear hs HC hub
    by_cases k1 : k < 0
    · have HX : Hid (¬ sampOk (m : Nat) k) := Lib.hid (fun h => by have := h.1; omega)
      go_wp2_with fail
      go_ret2
      exact ⟨.no (.inr HX.out), hb⟩
    · by_cases k2 : (m : Int) < k
      · have HX : Hid (¬ sampOk (m : Nat) k) := Lib.hid (fun h => by have := h.2; omega)
        go_wp2_with fail
        go_ret2
        exact ⟨.no (.inr HX.out), hb⟩
      · obtain ⟨j, rfl⟩ : ∃ j : Nat, k = (j : Nat) := ⟨k.toNat, by omega⟩
        have hj : j ≤ m := by omega
        go_wp2_with fail
        go_ret2
        exact ⟨.yes m j rfl rfl hj hm2 HS.out HUB.out hg, hb⟩
end Go.Proofs.YtfdmmobadmmhdaaDoor
