/- WireUnique returns true. Conditions: the checksum's table holds its words; numbers of 64 bits. -/
import Derived.Test.YteokkedaipbhlaaDoorLaw01Sane
import Derived.Test.YteokkedaipbhlaaDoorLaw01Num
import Derived.Test.YteokkedaipbhlaaDoorWireCalls
import Derived.RegionTactic
import Derived.ChangeAlike
namespace Go.Proofs.YteokkedaipbhlaaDoor
open Go Go.RowKit
/-- A string cut to n bytes, as the walk reads it. -/
theorem cut_str' (s : ByteArray) (n : Int) (k : Nat) (hk : (k : Int) = n) : ∃ (m : Nat) (F : ByteArray), m ≤ s.size ∧ F.size = m ∧ m ≤ k ∧ (if n < (s.size : Int) then n else (s.size : Int)) = (m : Int) ∧ (if k < s.size then n else (s.size : Int)) = (m : Int) ∧ s.extract 0 m = F := by
  subst hk
  by_cases h : k < s.size
  · exact ⟨k, s.extract 0 k, by omega, by simp; omega, by omega, by rw [if_pos (by omega)], by rw [if_pos h], rfl⟩
  · exact ⟨s.size, s.extract 0 s.size, by omega, by simp, by omega, by rw [if_neg (by omega)], by rw [if_neg h], rfl⟩
theorem slice_nat (W : World) (T : ByteArray) (a b : Nat) (G : ByteArray) (h1 : a ≤ b) (h2 : b ≤ T.size) (hG : T.extract a b = G) :
    (Instr.slice 9 (.string T) (some (.int .i64 (a : Int))) (some (.int .i64 (b : Int))) none).run Tryd.prog W = .ok (.string G) W := by
  rw [run_slice_string (P := Tryd.prog) W 9 T .i64 .i64 a b Tryd.underlying9 (by omega) (by omega) (by omega), ← hG]
  rfl
set_option maxRecDepth 100000 in
set_option maxHeartbeats 1000000 in
theorem wireUnique_any (s : ByteArray) (a : Int) (f : Int) (w : World) (n1 : -9223372036854775808 ≤ a) (n2 : a ≤ 9223372036854775807) (f1 : 0 ≤ f) (f2 : f ≤ 255)
    (hT : TabOk w) (hn : 0 < w.heap.size) :
    Calls Tryd.prog 5 #[.string s, .int .i64 a, .int .u8 f] w fun e w' => e = .returned (.bool true) ∧ Below w.heap.size w w' := by
  obtain ⟨ms, S, hs1, hs2, hs3, hs4, hs5, hs6⟩ := cut_str' s 300 300 rfl
  have hSs : S.size ≤ 300 := by omega
  have HT := Lib.hid hT
  have HS2 := Lib.hid hs2
  clear hT hs2
  go_enter Tryd.func5, Tryd.ntmps5
  go_wp2_with fail
  refine (sane_any _ HT.out hn).mono ?_
  rintro e w1 ⟨rfl, hB1⟩
  go_wp2_with fail
  obtain ⟨Z, hZ⟩ : ∃ Z : ByteArray, (⟨[UInt8.ofNat f.toNat].toArray⟩ : ByteArray) = Z := ⟨_, rfl⟩
  have hZs : Z.size = 1 := by rw [← hZ]; rfl
  have hcv : (convert 38 9 (.slice (some ⟨w1.heap.size, 0, none⟩) 1 1)).run Tryd.prog ((w1.alloc (.cells #[.int .u8 f] 5)).drew) = .ok (.string Z) ((w1.alloc (.cells #[.int .u8 f] 5)).drew) := by
    rw [← hZ]
    refine run_convert_bytes_back (P := Tryd.prog) _ 38 9 5 ⟨w1.heap.size, 0, none⟩ 1 [UInt8.ofNat f.toNat] Tryd.underlying38 Tryd.underlying5 Tryd.underlying9 fun j hj => ?_
    have : j = 0 := by simpa using hj
    subst this
    have e : (((UInt8.ofNat f.toNat).toNat : Nat) : Int) = f := by rw [byte_nat _ (by omega)]; omega
    simp only [List.getElem_cons_zero]
    rw [e, show (⟨w1.heap.size, 0, none⟩ : Addr).add 0 = ⟨w1.heap.size, 0, none⟩ by simp [Addr.add]]
    simp
  clear hZ
  go_region
  clear hcv
  obtain ⟨T, hTT⟩ : ∃ T, Z ++ S = T := ⟨_, rfl⟩
  have hTs : T.size ≤ 301 := by rw [← hTT]; simp; omega
  rw [hTT]
  clear hTT hs4 hs5 hs6
  obtain ⟨w2, hw2⟩ : ∃ w2, (w1.alloc (.cells #[.int .u8 f] 5)).drew = w2 := ⟨_, rfl⟩
  have hB2 : Below w.heap.size w w2 := by rw [← hw2]; exact (hB1.alloc hB1.size _).drew
  rw [hw2]
  clear hw2
  have hpk := pickI_bd a ((T.size : Int) + 1) (by omega)
  go_wp2_with fail
  refine (pick_any a _ _ n1 n2 (by omega) (by omega)).mono ?_
  rintro e w' ⟨rfl, rfl⟩
  obtain ⟨pk, hpkk⟩ : ∃ pk, pickI a ((T.size : Int) + 1) = pk := ⟨_, rfl⟩
  rw [hpkk] at hpk ⊢
  clear hpkk
  have p0i : ∀ w, Calls Tryd.prog 12 #[.int .i64 0] w fun e w' => e = .returned (.tuple #[.string ⟨(vbytes (zig 0)).toArray⟩, .int .i64 0]) ∧ Below w.heap.size w w' := putInt_ok 0 (by decide) (by decide)
  have p0s : ∀ w, Calls Tryd.prog 19 #[.string ⟨#[]⟩] w fun e w' => e = .returned (.tuple #[.string (⟨(vbytes (zig 0)).toArray⟩ ++ ⟨#[]⟩), .int .i64 0]) ∧ Below w.heap.size w w' := fun w => by
    have h := putString_any ⟨#[]⟩ w (by decide)
    unfold putS at h
    rwa [if_neg (by decide)] at h
  have P0I := Lib.hid p0i
  have P0S := Lib.hid p0s
  clear p0i p0s
  go_wp2_with fail
  have c0 : (w2.alloc (.cells #[.int .i64 0, .int .i64 pk] 3)).cell? ⟨w2.heap.size, 0, none⟩ = some (.int .i64 0) := by simp
  have c1 : (w2.alloc (.cells #[.int .i64 0, .int .i64 pk] 3)).cell? ⟨w2.heap.size, 1, none⟩ = some (.int .i64 pk) := by simp
  have hBW : Below w.heap.size w (w2.alloc (.cells #[.int .i64 0, .int .i64 pk] 3)) := hB2.alloc hB2.size _
  have hsz : w2.heap.size < (w2.alloc (.cells #[.int .i64 0, .int .i64 pk] 3)).heap.size := by simp
  generalize (w2.alloc (.cells #[.int .i64 0, .int .i64 pk] 3)) = W0 at *
  obtain ⟨B0, hB0⟩ : ∃ B0, w2.heap.size = B0 := ⟨_, rfl⟩
  rw [hB0] at c0 c1 hsz ⊢
  clear hB0
  have C0 := Lib.hid c0
  have C1 := Lib.hid c1
  clear c0 c1
  go_loopw [38] (fun i wr => ∃ k : Nat, k ≤ 2 ∧ i = .int .i64 k ∧ Below W0.heap.size W0 wr) (fun i _ => 2 - (intOf i).toNat)
  case atStart => exact ⟨0, by omega, rfl, Below.refl _ _⟩
  case round =>
    obtain ⟨k, hk, rfl, hBr⟩ := hrel
    have hcase : k = 0 ∨ k = 1 ∨ k = 2 := by omega
    rcases hcase with rfl | rfl | rfl
    · have hc : wr.cell? ⟨B0, 0, none⟩ = some (.int .i64 0) := (hBr.cell (p := ⟨B0, 0, none⟩) hsz).trans C0.out
      rcases int_ways T 0 (by omega) (by unfold maxLen; omega) with hI | ⟨n, x, E, hn1, hn2, hx1, hx2, hE, hI, hP⟩
      · rcases string_ways T 0 (by omega) (by unfold maxLen; omega) with hS | ⟨V, y, G, hy1, hy2, hG, hS, hQ⟩
        · have hP := P0I.out
          have hQ := P0S.out
          have HI := Lib.hid hI
          have HS := Lib.hid hS
          have HP := Lib.hid hP
          have HQ := Lib.hid hQ
          clear hI hS hP hQ
          go_wp2_with fail
          refine (HI.out _).mono ?_
          rintro e w' ⟨rfl, rfl⟩
          go_wp2_with fail
          refine (HP.out _).mono ?_
          rintro e w5 ⟨rfl, hB5⟩
          go_wp2_with fail
          refine (HS.out _).mono ?_
          rintro e w' ⟨rfl, rfl⟩
          go_wp2_with fail
          refine (HQ.out _).mono ?_
          rintro e w6 ⟨rfl, hB6⟩
          go_wp2
          go_roundw
          case rel => exact ⟨1, by omega, rfl, (hBr.trans (hB5.mono hBr.size)).trans (hB6.mono (Nat.le_trans hBr.size hB5.size))⟩
          case measure => simp [intOf]
        · have hP := P0I.out
          have hsl2 : ∀ W, (Instr.slice 9 (.string T) (some (.int .i64 0)) (some (.int .i64 (y : Int))) none).run Tryd.prog W = .ok (.string G) W := fun W => slice_nat W T 0 y G (by omega) hy2 hG
          have HI := Lib.hid hI
          have HS := Lib.hid hS
          have HP := Lib.hid hP
          have HQ := Lib.hid hQ
          clear hI hS hP hQ
          clear hG
          go_wp2_with fail
          refine (HI.out _).mono ?_
          rintro e w' ⟨rfl, rfl⟩
          go_wp2_with fail
          refine (HP.out _).mono ?_
          rintro e w5 ⟨rfl, hB5⟩
          go_wp2_with fail
          refine (HS.out _).mono ?_
          rintro e w' ⟨rfl, rfl⟩
          go_wp2_with fail
          refine (HQ.out _).mono ?_
          rintro e w6 ⟨rfl, hB6⟩
          go_wp2
          go_roundw
          case rel => exact ⟨1, by omega, rfl, (hBr.trans (hB5.mono hBr.size)).trans (hB6.mono (Nat.le_trans hBr.size hB5.size))⟩
          case measure => simp [intOf]
      · rcases string_ways T 0 (by omega) (by unfold maxLen; omega) with hS | ⟨V, y, G, hy1, hy2, hG, hS, hQ⟩
        · have hsl1 : ∀ W, (Instr.slice 9 (.string T) (some (.int .i64 0)) (some (.int .i64 (x : Int))) none).run Tryd.prog W = .ok (.string E) W := fun W => slice_nat W T 0 x E (by omega) hx2 hE
          have hQ := P0S.out
          have HI := Lib.hid hI
          have HS := Lib.hid hS
          have HP := Lib.hid hP
          have HQ := Lib.hid hQ
          clear hI hS hP hQ
          clear hE
          go_wp2_with fail
          refine (HI.out _).mono ?_
          rintro e w' ⟨rfl, rfl⟩
          go_wp2_with fail
          refine (HP.out _).mono ?_
          rintro e w5 ⟨rfl, hB5⟩
          go_wp2_with fail
          refine (HS.out _).mono ?_
          rintro e w' ⟨rfl, rfl⟩
          go_wp2_with fail
          refine (HQ.out _).mono ?_
          rintro e w6 ⟨rfl, hB6⟩
          go_wp2
          go_roundw
          case rel => exact ⟨1, by omega, rfl, (hBr.trans (hB5.mono hBr.size)).trans (hB6.mono (Nat.le_trans hBr.size hB5.size))⟩
          case measure => simp [intOf]
        · have hsl1 : ∀ W, (Instr.slice 9 (.string T) (some (.int .i64 0)) (some (.int .i64 (x : Int))) none).run Tryd.prog W = .ok (.string E) W := fun W => slice_nat W T 0 x E (by omega) hx2 hE
          have hsl2 : ∀ W, (Instr.slice 9 (.string T) (some (.int .i64 0)) (some (.int .i64 (y : Int))) none).run Tryd.prog W = .ok (.string G) W := fun W => slice_nat W T 0 y G (by omega) hy2 hG
          have HI := Lib.hid hI
          have HS := Lib.hid hS
          have HP := Lib.hid hP
          have HQ := Lib.hid hQ
          clear hI hS hP hQ
          clear hE
          clear hG
          go_wp2_with fail
          refine (HI.out _).mono ?_
          rintro e w' ⟨rfl, rfl⟩
          go_wp2_with fail
          refine (HP.out _).mono ?_
          rintro e w5 ⟨rfl, hB5⟩
          go_wp2_with fail
          refine (HS.out _).mono ?_
          rintro e w' ⟨rfl, rfl⟩
          go_wp2_with fail
          refine (HQ.out _).mono ?_
          rintro e w6 ⟨rfl, hB6⟩
          go_wp2
          go_roundw
          case rel => exact ⟨1, by omega, rfl, (hBr.trans (hB5.mono hBr.size)).trans (hB6.mono (Nat.le_trans hBr.size hB5.size))⟩
          case measure => simp [intOf]
    · obtain ⟨K, rfl⟩ : ∃ K : Nat, pk = (K : Int) := ⟨pk.toNat, by omega⟩
      have hc : wr.cell? ⟨B0, 1, none⟩ = some (.int .i64 (K : Int)) := (hBr.cell (p := ⟨B0, 1, none⟩) hsz).trans C1.out
      rcases int_ways T K (by omega) (by unfold maxLen; omega) with hI | ⟨n, x, E, hn1, hn2, hx1, hx2, hE, hI, hP⟩
      · rcases string_ways T K (by omega) (by unfold maxLen; omega) with hS | ⟨V, y, G, hy1, hy2, hG, hS, hQ⟩
        · have hP := P0I.out
          have hQ := P0S.out
          have HI := Lib.hid hI
          have HS := Lib.hid hS
          have HP := Lib.hid hP
          have HQ := Lib.hid hQ
          clear hI hS hP hQ
          go_wp2_with fail
          refine (HI.out _).mono ?_
          rintro e w' ⟨rfl, rfl⟩
          go_wp2_with fail
          refine (HP.out _).mono ?_
          rintro e w5 ⟨rfl, hB5⟩
          go_wp2_with fail
          refine (HS.out _).mono ?_
          rintro e w' ⟨rfl, rfl⟩
          go_wp2_with fail
          refine (HQ.out _).mono ?_
          rintro e w6 ⟨rfl, hB6⟩
          go_wp2
          go_roundw
          case rel => exact ⟨2, by omega, rfl, (hBr.trans (hB5.mono hBr.size)).trans (hB6.mono (Nat.le_trans hBr.size hB5.size))⟩
          case measure => simp [intOf]
        · have hP := P0I.out
          have hsl2 : ∀ W, (Instr.slice 9 (.string T) (some (.int .i64 (K : Int))) (some (.int .i64 (y : Int))) none).run Tryd.prog W = .ok (.string G) W := fun W => slice_nat W T K y G (by omega) hy2 hG
          have HI := Lib.hid hI
          have HS := Lib.hid hS
          have HP := Lib.hid hP
          have HQ := Lib.hid hQ
          clear hI hS hP hQ
          clear hG
          go_wp2_with fail
          refine (HI.out _).mono ?_
          rintro e w' ⟨rfl, rfl⟩
          go_wp2_with fail
          refine (HP.out _).mono ?_
          rintro e w5 ⟨rfl, hB5⟩
          go_wp2_with fail
          refine (HS.out _).mono ?_
          rintro e w' ⟨rfl, rfl⟩
          go_wp2_with fail
          refine (HQ.out _).mono ?_
          rintro e w6 ⟨rfl, hB6⟩
          go_wp2
          go_roundw
          case rel => exact ⟨2, by omega, rfl, (hBr.trans (hB5.mono hBr.size)).trans (hB6.mono (Nat.le_trans hBr.size hB5.size))⟩
          case measure => simp [intOf]
      · rcases string_ways T K (by omega) (by unfold maxLen; omega) with hS | ⟨V, y, G, hy1, hy2, hG, hS, hQ⟩
        · have hsl1 : ∀ W, (Instr.slice 9 (.string T) (some (.int .i64 (K : Int))) (some (.int .i64 (x : Int))) none).run Tryd.prog W = .ok (.string E) W := fun W => slice_nat W T K x E (by omega) hx2 hE
          have hQ := P0S.out
          have HI := Lib.hid hI
          have HS := Lib.hid hS
          have HP := Lib.hid hP
          have HQ := Lib.hid hQ
          clear hI hS hP hQ
          clear hE
          go_wp2_with fail
          refine (HI.out _).mono ?_
          rintro e w' ⟨rfl, rfl⟩
          go_wp2_with fail
          refine (HP.out _).mono ?_
          rintro e w5 ⟨rfl, hB5⟩
          go_wp2_with fail
          refine (HS.out _).mono ?_
          rintro e w' ⟨rfl, rfl⟩
          go_wp2_with fail
          refine (HQ.out _).mono ?_
          rintro e w6 ⟨rfl, hB6⟩
          go_wp2
          go_roundw
          case rel => exact ⟨2, by omega, rfl, (hBr.trans (hB5.mono hBr.size)).trans (hB6.mono (Nat.le_trans hBr.size hB5.size))⟩
          case measure => simp [intOf]
        · have hsl1 : ∀ W, (Instr.slice 9 (.string T) (some (.int .i64 (K : Int))) (some (.int .i64 (x : Int))) none).run Tryd.prog W = .ok (.string E) W := fun W => slice_nat W T K x E (by omega) hx2 hE
          have hsl2 : ∀ W, (Instr.slice 9 (.string T) (some (.int .i64 (K : Int))) (some (.int .i64 (y : Int))) none).run Tryd.prog W = .ok (.string G) W := fun W => slice_nat W T K y G (by omega) hy2 hG
          have HI := Lib.hid hI
          have HS := Lib.hid hS
          have HP := Lib.hid hP
          have HQ := Lib.hid hQ
          clear hI hS hP hQ
          clear hE
          clear hG
          go_wp2_with fail
          refine (HI.out _).mono ?_
          rintro e w' ⟨rfl, rfl⟩
          go_wp2_with fail
          refine (HP.out _).mono ?_
          rintro e w5 ⟨rfl, hB5⟩
          go_wp2_with fail
          refine (HS.out _).mono ?_
          rintro e w' ⟨rfl, rfl⟩
          go_wp2_with fail
          refine (HQ.out _).mono ?_
          rintro e w6 ⟨rfl, hB6⟩
          go_wp2
          go_roundw
          case rel => exact ⟨2, by omega, rfl, (hBr.trans (hB5.mono hBr.size)).trans (hB6.mono (Nat.le_trans hBr.size hB5.size))⟩
          case measure => simp [intOf]
    · go_wp2
      go_ret
      exact ⟨rfl, hBW.trans (hBr.mono hBW.size)⟩
end Go.Proofs.YteokkedaipbhlaaDoor
