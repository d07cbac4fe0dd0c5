/- Head of the reference and of package book. Conditions: those of the theorems. -/
import Derived.Test.YtcfplkbbgjiocaaDoorHeadsBase
import Derived.Test.YtcfplkbbgjiocaaDoorRefBook
import Derived.BigQuiet
import Derived.Test.YtcfplkbbgjiocaaDoorShelf
namespace Go.Proofs.YtcfplkbbgjiocaaDoor
open Go Go.RowKit
/-- The answer of Head. -/
noncomputable def bhV (teams closed : Int) (n : Nat) (g : Nat → Pst) : Value :=
  @ite Value (BookOk teams closed n g) (Classical.propDecidable _) (.tuple #[.string (headF (bookF g) n), .int .i64 0]) (.tuple #[.string ⟨#[]⟩, .int .i64 270])
theorem formed_enc {p : Pst} {top : Int} (h : Formed p top) (ht : top ≤ 100) : EncOk p := by
  obtain ⟨h1, h2, h3, -, h5, h6, h7⟩ := h
  intro c hc
  unfold within at *
  have hk : InI p.kind := by unfold InI; rcases h7 with ⟨h8, _⟩ | ⟨h8, _⟩ <;> omega
  have ho : InI p.of := by
    unfold InI
    rcases h7 with ⟨_, h8⟩ | ⟨_, h8⟩
    · omega
    · omega
  rcases (show c = 0 ∨ c = 1 ∨ c = 2 ∨ c = 3 ∨ c = 4 ∨ c = 5 ∨ c = 6 by omega) with rfl | rfl | rfl | rfl | rfl | rfl | rfl
  · exact hk
  · show InI p.day; unfold InI; omega
  · show InI p.deb; unfold InI; omega
  · show InI p.cre; unfold InI; omega
  · show InI p.amt; unfold InI; omega
  · show InI p.sub; unfold InI; omega
  · exact ho
theorem book_enc {teams closed : Int} {n : Nat} {g : Nat → Pst} (h : BookOk teams closed n g) : ∀ i, i < n → EncOk (g i) := fun i hi => by
  have h1 := h.1.1
  unfold within at h1
  exact formed_enc (h.2 i hi).2.1 (by omega)
set_option maxRecDepth 100000 in
set_option maxHeartbeats 2000000 in
theorem ref_Head27_any (teams closed : Int) (p : Option Addr) (n c : Nat) (g : Nat → Pst) (w : World) (hn : n ≤ 1000) (hr : ReadsP w p n g) :
    Calls Tryd.prog 10 #[.agg #[.int .i64 teams, .slice p n c, .int .i64 closed]] w fun e w' => e = .returned (bhV teams closed n g) ∧ Below w.heap.size w w' := by
  have hal : Below w.heap.size w (w.alloc (.cells #[.int .i64 teams, .slice p n c, .int .i64 closed] 24)) := (Below.refl _ _).alloc (Nat.le_refl _) _
  have HR := Lib.hid (hr.below hal)
  have HAL := Lib.hid hal
  have HE := Lib.hid (Encoded_any p n c g _ hn HR.out)
  have c0 : (w.alloc (.cells #[.int .i64 teams, .slice p n c, .int .i64 closed] 24)).cell? ⟨w.heap.size, 0, none⟩ = some (.int .i64 teams) := by simp
  have c1 : (w.alloc (.cells #[.int .i64 teams, .slice p n c, .int .i64 closed] 24)).cell? ⟨w.heap.size, 1, none⟩ = some (.slice p n c) := by simp
  have c2 : (w.alloc (.cells #[.int .i64 teams, .slice p n c, .int .i64 closed] 24)).cell? ⟨w.heap.size, 2, none⟩ = some (.int .i64 closed) := by simp
  have C0 := Lib.hid c0
  have C1 := Lib.hid c1
  have C2 := Lib.hid c2
  have HY : Hid (BookOk teams closed n g → bhV teams closed n g = .tuple #[.string (headF (bookF g) n), .int .i64 0]) := Lib.hid (fun h => by unfold bhV; rw [if_pos h])
  have HNO : Hid (¬ BookOk teams closed n g → bhV teams closed n g = .tuple #[.string ⟨#[]⟩, .int .i64 270]) := Lib.hid (fun h => by unfold bhV; rw [if_neg h])
  have hsz : w.heap.size < (w.alloc (.cells #[.int .i64 teams, .slice p n c, .int .i64 closed] 24)).heap.size := by rw [World.size_alloc]; omega
  have HSZ := Lib.hid hsz
  clear hr hal c0 c1 c2 hsz
  go_enter Tryd.func10, Tryd.ntmps10
  go_wp2_with fail
  refine HE.out.mono ?_
  rintro e w2 ⟨hcase, hb2⟩
  obtain ⟨W1, hW1⟩ : ∃ W1, w.alloc (.cells #[.int .i64 teams, .slice p n c, .int .i64 closed] 24) = W1 := ⟨_, rfl⟩
  rw [hW1] at HR HAL C0 C1 C2 HSZ hcase hb2
  clear hW1 HE
  have d0 := (hb2.cell (p := ⟨w.heap.size, 0, none⟩) HSZ.out).trans C0.out
  have d1 := (hb2.cell (p := ⟨w.heap.size, 1, none⟩) HSZ.out).trans C1.out
  have d2 := (hb2.cell (p := ⟨w.heap.size, 2, none⟩) HSZ.out).trans C2.out
  have HB2 := Lib.hid (HAL.out.trans (hb2.mono HAL.out.size))
  have HV := Lib.hid (ref_valid_any teams closed p n c g w2 (by unfold maxLen; omega) (HR.out.below hb2))
  rcases hcase with ⟨hall, v, rfl, hown⟩ | ⟨hno, rfl⟩
  · obtain ⟨q, cq, rfl, hcq, hrd⟩ := encsL_reads hown
    have HRD := Lib.hid hrd
    clear hall hown hb2 hrd
    go_wp2_with fail
    refine HV.out.mono ?_
    rintro e w3 ⟨⟨r, rfl, hiff⟩, hb3⟩
    have HB3 := Lib.hid (HB2.out.trans (hb3.mono HB2.out.size))
    have HN := Lib.hid (ref_Head02_any q n cq (bookF g) w3 hn (bookF_size g) (HRD.out.below hb3))
    clear hb3
    cases r with
    | true =>
      have HQ := Lib.hid (HY.out (hiff.1 rfl))
      clear hiff
      obtain ⟨S, hS⟩ : ∃ S, headF (bookF g) n = S := ⟨_, rfl⟩
      rw [hS] at HN HQ
      clear hS
      go_wp2_with fail
      refine HN.out.mono ?_
      rintro e w4 ⟨rfl, hb4⟩
      have HB4 := Lib.hid (HB3.out.trans (hb4.mono HB3.out.size))
      clear hb4
      go_wp2_with fail
      go_ret2
      exact ⟨by rw [HQ.out]; rfl, HB4.out⟩
    | false =>
      have HQ := Lib.hid (HNO.out (fun h => by have := hiff.2 h; simp at this))
      clear hiff HN
      go_wp2_with fail
      go_ret2
      exact ⟨by rw [HQ.out]; rfl, HB3.out⟩
  · have HQ := Lib.hid (HNO.out (fun h => hno (book_enc h)))
    clear hno hb2 HV
    go_wp2_with fail
    go_ret2
    exact ⟨by rw [HQ.out]; rfl, HB2.out⟩
end Go.Proofs.YtcfplkbbgjiocaaDoor
namespace Go.Proofs.YtcfplkbbgjiocaaDoor
open Go Go.RowKit Go.Shelf
theorem repeat_zero (w : World) : Calls Tryd.prog 34 #[.string ⟨#[0]⟩, .int .i64 32] w fun e w' => e = .returned (.string zero32) ∧ Below w.heap.size w w' := by
  have e1 : (⟨(Lib.repeatL (⟨#[0]⟩ : ByteArray).data.toList 32).toArray⟩ : ByteArray) = zero32 := by decide +kernel
  rw [← e1]
  exact Tryd.strings_Repeat_main ⟨#[0]⟩ 32 w (by omega) (by omega) (by decide) (by decide)
set_option maxRecDepth 100000 in
set_option maxHeartbeats 2000000 in
theorem Head27_any (teams closed : Int) (p : Option Addr) (n c : Nat) (g : Nat → Pst) (w : World) (hn : n ≤ maxLen) (hr : ReadsP w p n g) (hT : RoundOk w) :
    Calls Tryd.prog 9 #[.agg #[.int .i64 teams, .slice p n c, .int .i64 closed]] w fun e w' => e = .returned (bhV teams closed n g) ∧ Below w.heap.size w w' := by
  have hal : Below w.heap.size w (w.alloc (.cells #[.int .i64 teams, .slice p n c, .int .i64 closed] 24)) := (Below.refl _ _).alloc (Nat.le_refl _) _
  have HO := Lib.hid (open_any teams closed p n c g _ hn (hr.below hal))
  have HAL := Lib.hid hal
  have HT := Lib.hid hT
  have HY : Hid (BookOk teams closed n g → bhV teams closed n g = .tuple #[.string (headF (bookF g) n), .int .i64 0]) := Lib.hid (fun h => by unfold bhV; rw [if_pos h])
  have HNO : Hid (¬ BookOk teams closed n g → bhV teams closed n g = .tuple #[.string ⟨#[]⟩, .int .i64 270]) := Lib.hid (fun h => by unfold bhV; rw [if_neg h])
  clear hr hal hT
  go_enter Tryd.func9, Tryd.ntmps9
  go_wp2_with fail
  refine HO.out.mono ?_
  rintro e w2 ⟨q, r, rfl, hiff, hb2, hst⟩
  have HB2 := Lib.hid (HAL.out.trans (hb2.mono HAL.out.size))
  clear hb2 HO
  cases r with
  | false =>
    have HQ := Lib.hid (HNO.out (fun h => by have := hiff.2 h; simp at this))
    clear hiff hst
    go_wp2_with fail
    go_ret2
    exact ⟨by rw [HQ.out]; rfl, HB2.out⟩
  | true =>
    obtain ⟨B, base, v, rfl, hlt, hbs, hwb, hx, hown⟩ := hst rfl
    have HQ := Lib.hid (HY.out (hiff.1 rfl))
    have HE := Lib.hid (book_enc (hiff.1 rfl))
    obtain ⟨q, cq, rfl, hrd, -⟩ := own_readsP hown
    have HRD := Lib.hid hrd
    have HX := Lib.hid hx
    have HREP := Lib.hid (repeat_zero w2)
    have HZF : Hid (zero32 = headF (bookF g) 0) := Lib.hid rfl
    obtain ⟨z32, hz32⟩ : ∃ z, zero32 = z := ⟨_, rfl⟩
    rw [hz32] at HREP HZF
    have hn200 := (hiff.1 rfl).small
    clear hiff hst hx hown hrd hz32
    go_wp2_with fail
    refine HREP.out.mono ?_
    rintro e w3 ⟨rfl, hb3⟩
    have HB3 := Lib.hid (HB2.out.trans (hb3.mono HB2.out.size))
    have hx3 := HX.out.below hb3
    obtain ⟨c0, c1, c2, -⟩ := hx3.cells
    have HR3 := Lib.hid (HRD.out.below hb3)
    clear hb3 hx3 HX HRD
    go_wp2_with fail
    clear c0 c1 c2
    go_loopw [6, 25] (fun v6 v25 wr => ∃ k : Nat, v6 = .string (headF (bookF g) k) ∧ v25 = .int .i64 (k : Nat) ∧ k ≤ n ∧ Below w.heap.size w wr ∧ Hid (ReadsP wr q n g)) (fun _ v25 _ => n - (intOf v25).toNat)
    case atStart => exact ⟨0, by rw [← HZF.out], rfl, by omega, HB3.out, HR3⟩
    case round =>
      obtain ⟨k, rfl, rfl, hk, hB, HR⟩ := hrel
      by_cases hlt : k < n
      · obtain ⟨b, off, rfl, hcs⟩ := HR.out k hlt
        obtain ⟨p0, p1, p2, p3, p4, p5, p6⟩ := pcells_of (hcs k hlt)
        have v0 : (0 : Int) ≤ (k : Int) := by omega
        have v1 : (k : Int) < (n : Int) := by omega
        have hok := HE.out k hlt
        have hv : encV (g k) = .tuple #[.string (bookF g k), .int .i64 0] := by unfold encV; rw [if_pos hok]; rfl
        have hal : Below wr.heap.size wr (wr.alloc (.cells (g k).cells 27)) := (Below.refl _ _).alloc (Nat.le_refl _) _
        have HEN := Lib.hid (Encode_any (g k) (wr.alloc (.cells (g k).cells 27)))
        rw [hv] at HEN
        have HB := Lib.hid hB
        have HA := Lib.hid hal
        have HS1 : Hid (headF (bookF g) (k + 1) = chainS (headF (bookF g) k) (bookF g k)) := Lib.hid rfl
        have HZ : Hid ((headF (bookF g) k).size ≤ 4000) := Lib.hid (by rw [headF_size]; decide)
        have HZ2 := Lib.hid (bookF_size g k)
        obtain ⟨x, hx⟩ : ∃ x, bookF g k = x := ⟨_, rfl⟩
        obtain ⟨h, hh⟩ : ∃ x, headF (bookF g) k = x := ⟨_, rfl⟩
        rw [hx] at HEN HS1 HZ2
        rw [hh] at HS1 HZ ⊢
        clear hcs hv hal hB hx hh hok
        unfold Pst.cells at HEN HA
        go_wp2_with fail
        refine HEN.out.mono ?_
        rintro e w5 ⟨rfl, hb5⟩
        have HB5 := Lib.hid (HA.out.trans (hb5.mono HA.out.size))
        have HC := Lib.hid (chain_any h x w5 HZ.out HZ2.out (HT.out.below (HB.out.trans (HB5.out.mono HB.out.size))))
        clear hb5 p0 p1 p2 p3 p4 p5 p6
        go_wp2_with fail
        refine HC.out.mono ?_
        rintro e w6 ⟨rfl, hb6⟩
        have HB6 := Lib.hid (HB5.out.trans (hb6.mono HB5.out.size))
        clear hb6
        go_wp2_with fail
        exact ⟨⟨k + 1, by rw [HS1.out], by go_num, by omega, HB.out.trans (HB6.out.mono HB.out.size), Lib.hid (HR.out.below HB6.out)⟩, by simp [intOf]; omega⟩
      · obtain rfl : n = k := by omega
        go_wp2_with fail
        go_ret2
        exact ⟨by rw [HQ.out]; rfl, hB⟩
end Go.Proofs.YtcfplkbbgjiocaaDoor
