/- Package digest: the bytes of eight words. Conditions: words of 32 bits. -/
import Derived.Test.YtcfplkbbgjiocaaDoorShaBox
namespace Go.Proofs.YtcfplkbbgjiocaaDoor
open Go Go.RowKit
/-- Byte j of words. -/
def byteOf (f : Nat → Nat) (j : Nat) : Nat := f (j / 4) / 2 ^ (24 - 8 * (j % 4)) % 256
theorem byteOf_lt (f : Nat → Nat) (j : Nat) : byteOf f j < 256 := Nat.mod_lt _ (by decide)
theorem Below_set' {B : Nat} {w W : World} (h : Below B w W) {b i : Nat} (hb : B ≤ b) (v : Value) : Below B w (W.setCell ⟨b, i, none⟩ v) := h.setCell hb _
theorem u8_string {W : World} {B n : Nat} {f : Nat → Nat} (h : UBox .u8 W B n f) (hf : ∀ j, f j < 256) (src : TypeId) {e : TypeId} (hs : Tryd.prog.underlying src = some (.slice e)) (he : Tryd.prog.underlying e = some (.int .u8)) (dst : TypeId) (hd : Tryd.prog.underlying dst = some .string) :
    (convert src dst (.slice (some ⟨B, 0, none⟩) n n)).run Tryd.prog W = .ok (.string ⟨((List.range n).map fun j => UInt8.ofNat (f j)).toArray⟩) W := by
  have hr := run_convert_bytes_back (P := Tryd.prog) W src dst e ⟨B, 0, none⟩ n ((List.range n).map fun j => UInt8.ofNat (f j)) hs he hd (fun j hj => by
    have hj' : j < n := by simpa using hj
    rw [show (⟨B, 0, none⟩ : Addr).add j = ⟨B, j, none⟩ by unfold Addr.add; split <;> simp_all]
    rw [h.cell j hj']
    have := hf j
    simp
    omega)
  simpa using hr
set_option maxRecDepth 100000 in
set_option maxHeartbeats 4000000 in
theorem digest_any (cs : Array Value) (f : Nat → Nat) (w : World) (hcs : cs.size = 8) (hc : ∀ i, i < 8 → cs[i]? = some (.int .u32 (f i : Nat))) (hf : ∀ i, i < 8 → f i < 4294967296) :
    Calls Tryd.prog 75 #[.agg cs] w fun e w' => (∃ s : ByteArray, e = .returned (.string s) ∧ s.data.toList = (List.range 32).map fun j => UInt8.ofNat (byteOf f j)) ∧ Below w.heap.size w w' := by
  have HC := Lib.hid hc
  have HF := Lib.hid hf
  have HX := Lib.hid (fun (k : Nat) (hk : k < 8) (W : World) => run_index_agg (w := W) Tryd.underlying120 hk (hc k hk))
  have hal1 : Below w.heap.size w (w.alloc (.cells cs 120)) := (Below.refl _ _).alloc (Nat.le_refl _) _
  clear hc hf
  have hel : #[cs[0], cs[1], cs[2], cs[3], cs[4], cs[5], cs[6], cs[7]] = cs := by
    apply Array.ext
    · simp [hcs]
    · intro i h1 h2
      have : i < 8 := by simpa using h1
      rcases (show i = 0 ∨ i = 1 ∨ i = 2 ∨ i = 3 ∨ i = 4 ∨ i = 5 ∨ i = 6 ∨ i = 7 by omega) with rfl | rfl | rfl | rfl | rfl | rfl | rfl | rfl <;> rfl
  go_enter Tryd.func75, Tryd.ntmps75
  go_wp2
  try rw [hel]
  clear hel
  obtain ⟨w1, hw1⟩ : ∃ w1, w.alloc (.cells cs 120) = w1 := ⟨_, rfl⟩
  have hz1 : w1.heap.size = w.heap.size + 1 := by rw [← hw1, World.size_alloc]
  rw [hw1] at hal1 ⊢
  clear hw1 hcs
  have hbx := UBox.new (K := .u8) (n := 32) w1 #[.int .u8 0, .int .u8 0, .int .u8 0, .int .u8 0, .int .u8 0, .int .u8 0, .int .u8 0, .int .u8 0, .int .u8 0, .int .u8 0, .int .u8 0, .int .u8 0, .int .u8 0, .int .u8 0, .int .u8 0, .int .u8 0, .int .u8 0, .int .u8 0, .int .u8 0, .int .u8 0, .int .u8 0, .int .u8 0, .int .u8 0, .int .u8 0, .int .u8 0, .int .u8 0, .int .u8 0, .int .u8 0, .int .u8 0, .int .u8 0, .int .u8 0, .int .u8 0] 130 (fun _ => 0) rfl (fun i hi => by show (Array.replicate 32 (Value.int .u8 0))[i]? = _; rw [Array.getElem?_replicate, if_pos hi]; rfl)
  have hal2 : Below w1.heap.size w1 (w1.alloc (.cells #[.int .u8 0, .int .u8 0, .int .u8 0, .int .u8 0, .int .u8 0, .int .u8 0, .int .u8 0, .int .u8 0, .int .u8 0, .int .u8 0, .int .u8 0, .int .u8 0, .int .u8 0, .int .u8 0, .int .u8 0, .int .u8 0, .int .u8 0, .int .u8 0, .int .u8 0, .int .u8 0, .int .u8 0, .int .u8 0, .int .u8 0, .int .u8 0, .int .u8 0, .int .u8 0, .int .u8 0, .int .u8 0, .int .u8 0, .int .u8 0, .int .u8 0, .int .u8 0] 130)) := (Below.refl _ _).alloc (Nat.le_refl _) _
  obtain ⟨w2, hw2⟩ : ∃ w2, (w1.alloc (.cells #[.int .u8 0, .int .u8 0, .int .u8 0, .int .u8 0, .int .u8 0, .int .u8 0, .int .u8 0, .int .u8 0, .int .u8 0, .int .u8 0, .int .u8 0, .int .u8 0, .int .u8 0, .int .u8 0, .int .u8 0, .int .u8 0, .int .u8 0, .int .u8 0, .int .u8 0, .int .u8 0, .int .u8 0, .int .u8 0, .int .u8 0, .int .u8 0, .int .u8 0, .int .u8 0, .int .u8 0, .int .u8 0, .int .u8 0, .int .u8 0, .int .u8 0, .int .u8 0] 130)) = w2 := ⟨_, rfl⟩
  rw [hw2] at hbx hal2 ⊢
  clear hw2
  obtain ⟨O, hO⟩ : ∃ O, w.heap.size + 1 = O := ⟨_, rfl⟩
  rw [hz1, hO] at hbx hal2
  rw [hO]
  have HB2 := Lib.hid (hal1.trans (hal2.mono (by omega)))
  have HBX := Lib.hid hbx
  have HO := Lib.hid hO
  clear hbx hal1 hal2 hz1 hO
  go_loopw [8] (fun iv wr => ∃ i : Nat, i ≤ 8 ∧ iv = .int .i64 i ∧ UBox .u8 wr O 32 (fun j => if j < 4 * i then byteOf f j else 0) ∧ Below O w2 wr) (fun iv _ => 8 - (intOf iv).toNat)
  case atStart => exact ⟨0, by omega, rfl, HBX.out.congr (fun i _ => if_neg (by omega)), Below.refl _ _⟩
  case round =>
    obtain ⟨i, hi, rfl, hbx, hb⟩ := hrel
    by_cases hlt : i < 8
    · have l0 : (i : Int) < 8 := by omega
      have l1 : (0 : Int) ≤ (i : Int) := by omega
      have hx := HX.out i hlt
      have hfl := HF.out i hlt
      obtain ⟨x, hxe⟩ : ∃ x, f i = x := ⟨_, rfl⟩
      rw [hxe] at hx hfl
      have HXE := Lib.hid hxe
      have HBX := Lib.hid hbx
      have HB := Lib.hid hb
      clear hxe hbx hb
      go_wp2
      go_loopw [12] (fun kv wr => ∃ k : Nat, k ≤ 4 ∧ kv = .int .i64 k ∧ UBox .u8 wr O 32 (fun j => if j < 4 * i + k then byteOf f j else 0) ∧ Below O w2 wr) (fun kv _ => 4 - (intOf kv).toNat)
      case atStart => exact ⟨0, by omega, rfl, HBX.out, HB.out⟩
      case round =>
        obtain ⟨k, hk, rfl, hbx, hb⟩ := hrel
        by_cases hk4 : k < 4
        · have l2 : (k : Int) < 4 := by omega
          have l3 : (0 : Int) ≤ (k : Int) := by omega
          obtain ⟨m, hm⟩ : ∃ m : Nat, m = 24 - 8 * k := ⟨_, rfl⟩
          have g1 : IntKind.i64.wrap (8 * (k : Int)) = 8 * (k : Int) := IntWalk.i64_in _ (by omega)
          have g2 : IntKind.i64.wrap (24 - 8 * (k : Int)) = (m : Int) := by rw [IntWalk.i64_in _ (by omega)]; omega
          have g3 : IntKind.i64.wrap (4 * (i : Int)) = 4 * (i : Int) := IntWalk.i64_in _ (by omega)
          obtain ⟨j, hj⟩ : ∃ j : Nat, j = 4 * i + k := ⟨_, rfl⟩
          have g4 : IntKind.i64.wrap (4 * (i : Int) + (k : Int)) = (j : Int) := by rw [IntWalk.i64_in _ (by omega)]; omega
          have l4 : (0 : Int) ≤ (m : Int) := by omega
          have l5 : (0 : Int) ≤ (j : Int) := by omega
          have l6 : (j : Int) < 32 := by omega
          have hcell := hbx.cell j (by omega)
          have hfr := hbx.free j
          have HBX := Lib.hid hbx
          have HB := Lib.hid hb
          have HJ := Lib.hid hj
          have HM := Lib.hid hm
          clear hbx hb hj hm
          go_wp2
          rw [show min m 32 = m from Nat.min_eq_left (by have := HM.out; omega)]
          have hv : (x : Int) / 2 ^ m % 256 = ((byteOf f j : Nat) : Int) := by
            unfold byteOf
            rw [HJ.out, show (4 * i + k) / 4 = i by omega, show (4 * i + k) % 4 = k by omega, ← HM.out, HXE.out, Int.natCast_emod, cast_div]
            rfl
          rw [hv]
          refine ⟨⟨k + 1, by omega, by go_num, (HBX.out.set j (by have := HJ.out; omega) (byteOf f j)).congr (fun a ha => ?_), Below_set' HB.out (Nat.le_refl _) _⟩, by simp [intOf]; omega⟩
          have hj := HJ.out
          by_cases e : a = j
          · rw [if_pos e, if_pos (by omega), e]
          · rw [if_neg e]
            by_cases e2 : a < 4 * i + k
            · rw [if_pos e2, if_pos (by omega)]
            · rw [if_neg e2, if_neg (by omega)]
        · obtain rfl : k = 4 := by omega
          go_wp2
          exact ⟨⟨i + 1, by omega, by go_num, hbx, hb⟩, by simp [intOf]; omega⟩
    · obtain rfl : i = 8 := by omega
      have hcv := u8_string (hbx.congr (f' := byteOf f) (fun a ha => (if_pos (by omega)).symm)) (byteOf_lt f) 57 Tryd.underlying57 Tryd.underlying5 9 Tryd.underlying9
      have HBF := Lib.hid (HB2.out.trans (hb.mono (by have := HO.out; omega)))
      clear hbx hb
      go_wp2
      go_ret
      exact ⟨⟨_, rfl, rfl⟩, HBF.out⟩
end Go.Proofs.YtcfplkbbgjiocaaDoor
