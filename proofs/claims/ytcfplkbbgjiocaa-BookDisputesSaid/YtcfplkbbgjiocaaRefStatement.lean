/- The reference of chapter 27: Statement. Conditions: a slice of postings that can be read; numbers of 64 bits. -/
import Derived.Test.YtcfplkbbgjiocaaRefBalance
namespace Go.Proofs.Ytcfplkbbgjiocaa
open Go Go.RowKit Go.Shelf
/-- Integers that can be read. -/
def ReadsI (W : World) (p : Option Addr) (n : Nat) (f : Nat → Int) : Prop :=
  ∀ i, i < n → ∃ b off, p = some ⟨b, off, none⟩ ∧ ∀ j, j < n → W.cell? ⟨b, off + j, none⟩ = some (.int .i64 (f j))
theorem ReadsI.below {W W' : World} {p : Option Addr} {n : Nat} {f : Nat → Int} (h : ReadsI W p n f) (hb : Below W.heap.size W W') : ReadsI W' p n f := fun i hi => by
  obtain ⟨b, off, hp, hc⟩ := h i hi
  exact ⟨b, off, hp, fun j hj => (hb.cell (p := ⟨b, off + j, none⟩) (cell_lt (hc j hj))).trans (hc j hj)⟩
theorem own_readsI {W : World} {base n : Nat} {v : Value} {f : Nat → Int} (h : W.ownsRow base 3 1 v n ((List.range n).map fun i => Value.int .i64 (f i))) : ∃ p c, v = .slice p n c ∧ ReadsI W p n f ∧ (∀ a, p = some a → base ≤ a.block) := by
  have hn : v = .slice none 0 0 ∧ n = 0 ∨ ∃ G cap, v = .slice (some ⟨G, 0, none⟩) n cap := by
    rcases h.2 with ⟨h1, h2⟩ | ⟨G, cap, cur, h1, _⟩
    · exact .inl ⟨h1, h2⟩
    · exact .inr ⟨G, cap, h1⟩
  rcases hn with ⟨rfl, rfl⟩ | ⟨G, cap, rfl⟩
  · exact ⟨none, 0, rfl, fun i hi => by omega, nofun⟩
  · refine ⟨_, cap, rfl, fun i hi => ⟨G, 0, rfl, fun j hj => ?_⟩, fun a ha => ?_⟩
    · rw [Nat.zero_add, h.cellAt j (by omega)]
      simp [hj]
    · cases ha
      exact (h.lt G rfl).1
theorem infoInt : ∃ i : TypeInfo, Try.prog.info? 3 = some i ∧ i.zero = some (.int .i64 0) ∧ i.size = 1 ∧ i.bytes = 8 := by
  have h : (Try.prog.info? 3).map (fun i => (i.zero, i.size, i.bytes)) = some (some (.int .i64 0), 1, 8) := by kernel_rfl
  cases hi : Try.prog.info? 3 with
  | none => rw [hi] at h; cases h
  | some i =>
    rw [hi] at h
    simp at h
    exact ⟨i, rfl, h.1, h.2.1, h.2.2⟩
def StatGood (teams closed : Int) (n : Nat) (g : Nat → Pst) (month : Int) : Prop := BookOk teams closed n g ∧ within month 0 11
/-- What Statement answers. -/
def StatSpec (teams closed : Int) (n : Nat) (g : Nat → Pst) (month : Int) (k : Nat) (f : Nat → Int) (er : Int) : Prop :=
  (StatGood teams closed n g month ∧ er = 0 ∧ (k : Int) = teams ∧ ∀ i, i < k → f i = balF g month i n) ∨ (¬ StatGood teams closed n g month ∧ er = 270 ∧ k = 0)
/-- A call that answers numbers and an error. -/
def IsInts (w : World) (Spec : Nat → (Nat → Int) → Int → Prop) (e : Ending) (w' : World) : Prop :=
  ∃ (p : Option Addr) (k kc : Nat) (f : Nat → Int) (er : Int), e = .returned (.tuple #[.slice p k kc, .int .i64 er]) ∧ Spec k f er ∧ ReadsI w' p k f ∧ (∀ a, p = some a → w.heap.size ≤ a.block) ∧ Below w.heap.size w w'
set_option maxRecDepth 100000 in
set_option maxHeartbeats 4000000 in
theorem ref_Statement_any (teams closed month : Int) (q : Option Addr) (n c : Nat) (g : Nat → Pst) (w : World) (hn : n ≤ maxLen) (hr : ReadsP w q n g) :
    Calls Try.prog 20 #[.agg #[.int .i64 teams, .slice q n c, .int .i64 closed], .int .i64 month] w (IsInts w (StatSpec teams closed n g month)) := by
  obtain ⟨i0, hi0, hj0, hj1, hj2⟩ := infoInt
  have hb1 := BkBox.new w teams closed (.slice q n c)
  have hal1 : Below w.heap.size w (w.alloc (.cells #[.int .i64 teams, .slice q n c, .int .i64 closed] 24)) := (Below.refl _ _).alloc (Nat.le_refl _) _
  obtain ⟨w1, hw1⟩ : ∃ w1, w.alloc (.cells #[.int .i64 teams, .slice q n c, .int .i64 closed] 24) = w1 := ⟨_, rfl⟩
  rw [hw1] at hb1 hal1
  have HW := Lib.hid hw1
  have hr1 := hr.below hal1
  have HRD := Lib.hid hr1
  have HO := Lib.hid (ref_valid_any teams closed q n c g w1 hn hr1)
  have HB1 := Lib.hid hal1
  have HBK1 := Lib.hid hb1
  obtain ⟨b0, b1, b2⟩ := hb1.cells
  clear hr hb1 hal1 hw1 hr1
  go_enter Try.func20, Try.ntmps20
  go_upto_region 1 with fail
  obtain ⟨S, hS⟩ : ∃ S, w.heap.size = S := ⟨_, rfl⟩
  have HS := Lib.hid hS
  rw [hS] at HBK1 b0 b1 b2
  rw [HW.out, hS]
  clear hS HW
  go_wp2_with fail
  refine HO.out.mono ?_
  rintro e w2 ⟨⟨r, rfl, hiff⟩, hb2⟩
  have HBK2 := Lib.hid (HBK1.out.below hb2)
  have HRD2 := Lib.hid (HRD.out.below hb2)
  have HB2 := Lib.hid (HB1.out.trans (hb2.mono HB1.out.size))
  have HIFF := Lib.hid hiff
  clear b0 b1 b2 hiff hb2
  cases r with
  | false =>
    have HNO : Hid (¬ StatGood teams closed n g month) := Lib.hid (fun h => by have := HIFF.out.2 h.1; simp at this)
    go_wp2_with fail
    refine bodyPost_ret (v := .tuple #[.slice none 0 0, .int .i64 270]) (by simp [results, Try.results20, go_sem]) rfl ?_
    exact ⟨none, 0, 0, fun _ => 0, 270, rfl, .inr ⟨HNO.out, rfl, rfl⟩, fun i hi => by omega, nofun, HB2.out⟩
  | true =>
    have HOK : Hid (BookOk teams closed n g) := Lib.hid (HIFF.out.1 (by trivial))
    have hts := HOK.out.1.1
    unfold within at hts
    obtain ⟨tn, rfl⟩ : ∃ tn : Nat, teams = (tn : Int) := ⟨teams.toNat, by omega⟩
    have htn : 2 ≤ tn ∧ tn ≤ 4 := by omega
    obtain ⟨htn1, htn2⟩ := htn
    clear hts
    have h0 : w2.ownsRow w2.heap.size 3 1 (.slice none 0 0) 0 ((List.range 0).map fun i : Nat => Value.int .i64 (balF g month i n)) := World.ownsRow_nil _ _ _ _
    go_wp2_with fail
    have hS2 := HBK2.out.lt
    go_loopw [6, 7] (fun v z wr => ∃ k : Nat, k ≤ tn ∧ z = .int .i64 k ∧ wr.ownsRow w2.heap.size 3 1 v k ((List.range k).map fun i : Nat => Value.int .i64 (balF g month i n)) ∧ Hid (k = 0 ∨ within month 0 11) ∧ Below w2.heap.size w2 wr) (fun _ z _ => tn - (intOf z).toNat)
    case atStart => exact ⟨0, by omega, rfl, h0, Lib.hid (.inl rfl), Below.refl _ _⟩
    case round =>
      obtain ⟨k, hk, rfl, hown, HM, hb⟩ := hrel
      clear h0
      obtain ⟨b0, b1, b2⟩ := (HBK2.out.below hb).cells
      by_cases hlt : k < tn
      · obtain ⟨vp, vc, rfl⟩ : ∃ vp vc, u6 = .slice vp k vc := by
          rcases hown.2 with ⟨h, h0⟩ | ⟨gg, cap, cur, h, _⟩
          · exact ⟨none, 0, by rw [h, h0]⟩
          · exact ⟨_, _, h⟩
        have v1 : (k : Int) < (tn : Int) := by omega
        have HBAL := Lib.hid (ref_Balance_any (tn : Int) closed (k : Int) month q n c g wr hn (HRD2.out.below hb))
        have HOWN := Lib.hid hown
        clear hown
        go_wp2_with fail
        refine HBAL.out.mono ?_
        rintro e w3 ⟨⟨x, er, rfl, hsp⟩, hb3⟩
        have hown3 := ownP_below HOWN.out hb3
        have hb23 := hb.trans (hb3.mono hb.size)
        by_cases hg : BalGood (tn : Int) closed n g (k : Int) month
        · have hx : er = 0 ∧ x = balF g month k n := by
            rcases hsp with h | h
            · exact ⟨h.2.1, h.2.2⟩
            · exact absurd hg h.1
          obtain ⟨rfl, hxe⟩ := hx
          have HX := Lib.hid hxe
          have HM2 : Hid (k + 1 = 0 ∨ within month 0 11) := Lib.hid (.inr hg.2.2)
          have HB23 := Lib.hid hb23
          clear hsp hg hxe b0 b1 b2 hb23
          go_wp2_with (
            at_builtin
            refine wpList_append_lies (o := ⟨some 32, _, _, _, _, _⟩) _ rfl _ _ 37 rfl w2.heap.size 3 i0 (.int .i64 0) 1 8 Try.underlying37 hi0 hj0 hj1 hj2 rfl (by decide) (.slice vp k vc) k _ rfl (hown3.alloc _) ⟨w3.heap.size, 0, none⟩ 1 1 [.int .i64 _] rfl rfl (cell_one_new _ _ _) (by simp [Value.oneCell']) (by decide) (by unfold maxLen; omega) (by omega) (by have := HB23.out.size; simp; omega) _ rfl ?_
            intro g2 cp2 w4 hown4 hgrow4 hat4 hlt4
            have hb4 := (HB23.out.alloc HB23.out.size (.cells #[.int .i64 x] 3)).grown hgrow4 (by have := HB23.out.size; simp; omega) (fun j e => (hown3.lt j e).1)
            clear hgrow4 hat4)
          exact ⟨⟨k + 1, by omega, by go_num, by rw [List.range_succ, List.map_append, List.map_cons, List.map_nil, ← HX.out]; exact hown4, HM2, hb4⟩, by simp [intOf]; omega⟩
        · have hx : er = 270 ∧ x = 0 := by
            rcases hsp with h | h
            · exact absurd h.1 hg
            · exact ⟨h.2.1, h.2.2⟩
          obtain ⟨rfl, rfl⟩ := hx
          have HNO : Hid (¬ StatGood (tn : Int) closed n g month) := Lib.hid (fun h => hg ⟨h.1, ⟨by omega, by omega⟩, h.2⟩)
          have HB23 := Lib.hid hb23
          clear hsp hg b0 b1 b2 hb23
          go_wp2_with fail
          refine bodyPost_ret (v := .tuple #[.slice none 0 0, .int .i64 270]) (by simp [results, Try.results20, go_sem]) rfl ?_
          exact ⟨none, 0, 0, fun _ => 0, 270, rfl, .inr ⟨HNO.out, rfl, rfl⟩, fun i hi => by omega, nofun, HB2.out.trans (HB23.out.mono HB2.out.size)⟩
      · obtain rfl : tn = k := by omega
        have hmm : within month 0 11 := by
          rcases HM.out with h | h
          · omega
          · exact h
        have HG : Hid (StatGood (tn : Int) closed n g month) := Lib.hid ⟨HOK.out, hmm⟩
        clear hmm
        obtain ⟨pp, cc, rfl, hrd, hpb⟩ := own_readsI hown
        have HRDF := Lib.hid hrd
        have HPB := Lib.hid hpb
        clear hown hrd hpb
        go_wp2_with fail
        refine bodyPost_ret (v := .tuple #[.slice pp tn cc, .int .i64 0]) (by simp [results, Try.results20, go_sem]) rfl ?_
        exact ⟨pp, tn, cc, _, 0, rfl, .inl ⟨HG.out, rfl, rfl, fun i _ => rfl⟩, HRDF.out, fun a h => Nat.le_trans HB2.out.size (HPB.out a h), HB2.out.trans (hb.mono HB2.out.size)⟩
end Go.Proofs.Ytcfplkbbgjiocaa
