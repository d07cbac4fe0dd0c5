/- The reference of chapter 27: Balance. Conditions: a slice of postings that can be read; numbers of 64 bits. -/
import Derived.Test.YtcfplkbbgjiocaaRefClose
namespace Go.Proofs.Ytcfplkbbgjiocaa
open Go Go.RowKit Go.Shelf
/-- What a posting books for a team. -/
def eff (p : Pst) (team : Int) : Int := (if p.cre = team then p.amt else 0) - (if p.deb = team then p.amt else 0)
def balF (g : Nat → Pst) (month team : Int) : Nat → Int
  | 0 => 0
  | k + 1 => balF g month team k + if (g k).day / 30 = month then eff (g k) team else 0
theorem eff_bd {p : Pst} {top team : Int} (h : Formed p top) : -1000000000 ≤ eff p team ∧ eff p team ≤ 1000000000 := by
  have := h.2.2.2.2.1
  unfold within at this
  unfold eff
  split <;> split <;> omega
theorem balF_bd {g : Nat → Pst} {month team top : Int} : ∀ k, (∀ i, i < k → Formed (g i) top) → -(k * 1000000000 : Int) ≤ balF g month team k ∧ balF g month team k ≤ (k * 1000000000 : Int)
  | 0, _ => by simp [balF]
  | k + 1, h => by
    have h1 := balF_bd (month := month) (team := team) k (fun i hi => h i (by omega))
    have h2 := eff_bd (team := team) (h k (by omega))
    unfold balF
    split <;> omega
def BalGood (teams closed : Int) (n : Nat) (g : Nat → Pst) (team month : Int) : Prop := BookOk teams closed n g ∧ within team 0 (teams - 1) ∧ within month 0 11
/-- What Balance answers. -/
def BalSpec (teams closed : Int) (n : Nat) (g : Nat → Pst) (team month : Int) (x er : Int) : Prop :=
  (BalGood teams closed n g team month ∧ er = 0 ∧ x = balF g month team n) ∨ (¬ BalGood teams closed n g team month ∧ er = 270 ∧ x = 0)
set_option maxRecDepth 100000 in
set_option maxHeartbeats 4000000 in
theorem ref_Balance_any (teams closed team month : Int) (q : Option Addr) (n c : Nat) (g : Nat → Pst) (w : World) (hn : n ≤ maxLen) (hr : ReadsP w q n g) :
    Calls Try.prog 22 #[.agg #[.int .i64 teams, .slice q n c, .int .i64 closed], .int .i64 team, .int .i64 month] w fun e w' => (∃ x er, e = .returned (.tuple #[.int .i64 x, .int .i64 er]) ∧ BalSpec teams closed n g team month x er) ∧ Below w.heap.size w w' := by
  have hb1 := BkBox.new w teams closed (.slice q n c)
  have hal1 : Below w.heap.size w (w.alloc (.cells #[.int .i64 teams, .slice q n c, .int .i64 closed] 24)) := (Below.refl _ _).alloc (Nat.le_refl _) _
  obtain ⟨w1, hw1⟩ : ∃ w1, w.alloc (.cells #[.int .i64 teams, .slice q n c, .int .i64 closed] 24) = w1 := ⟨_, rfl⟩
  rw [hw1] at hb1 hal1
  have HW := Lib.hid hw1
  have hr1 := hr.below hal1
  have HRD := Lib.hid hr1
  have HO := Lib.hid (ref_valid_any teams closed q n c g w1 hn hr1)
  have HB1 := Lib.hid hal1
  have HBK1 := Lib.hid hb1
  obtain ⟨b0, b1, b2⟩ := hb1.cells
  clear hr hb1 hal1 hw1 hr1
  go_enter Try.func22, Try.ntmps22
  go_upto_region 1 with fail
  obtain ⟨S, hS⟩ : ∃ S, w.heap.size = S := ⟨_, rfl⟩
  have HS := Lib.hid hS
  rw [hS] at HBK1 b0 b1 b2
  rw [HW.out, hS]
  clear hS HW
  go_wp2_with fail
  refine HO.out.mono ?_
  rintro e w2 ⟨⟨r, rfl, hiff⟩, hb2⟩
  have HBK2 := Lib.hid (HBK1.out.below hb2)
  have HRD2 := Lib.hid (HRD.out.below hb2)
  have HB2 := Lib.hid (HB1.out.trans (hb2.mono HB1.out.size))
  have HIFF := Lib.hid hiff
  clear b0 b1 b2 hiff hb2
  obtain ⟨b0, b1, b2⟩ := HBK2.out.cells
  cases r with
  | false =>
    have HNO : Hid (¬ BalGood teams closed n g team month) := Lib.hid (fun h => by have := HIFF.out.2 h.1; simp at this)
    go_wp2_with fail
    refine bodyPost_ret (v := .tuple #[.int .i64 0, .int .i64 270]) (by simp [results, Try.results22, go_sem]) rfl ?_
    exact ⟨⟨0, 270, rfl, .inr ⟨HNO.out, rfl, rfl⟩⟩, HB2.out⟩
  | true =>
    have HOK : Hid (BookOk teams closed n g) := Lib.hid (HIFF.out.1 (by trivial))
    have htop : IntKind.i64.wrap (teams - 1) = teams - 1 := by
      have := HOK.out.1.1
      unfold within at this
      exact IntWalk.i64_in _ (by omega)
    by_cases ht : within team 0 (teams - 1)
    · by_cases hm : within month 0 11
      · have d1 : decide (within team 0 (teams - 1)) = true := decide_eq_true ht
        have d2 : decide (within month 0 11) = true := decide_eq_true hm
        have HG : Hid (BalGood teams closed n g team month) := Lib.hid ⟨HOK.out, ht, hm⟩
        clear ht hm
        go_wp2_with (go_at_call 30; refine (in_any _ _ _ _).mono ?_; rintro e w1 ⟨rfl, rfl⟩)
        have hS2 := HBK2.out.lt
        go_loopw [8, 9] (fun x z wr => ∃ k : Nat, k ≤ n ∧ z = .int .i64 k ∧ x = .int .i64 (balF g month team k) ∧ Below w2.heap.size w2 wr) (fun _ z _ => n - (intOf z).toNat)
        case atStart => exact ⟨0, by omega, rfl, rfl, Below.refl _ _⟩
        case round =>
          obtain ⟨k, hk, rfl, rfl, hb⟩ := hrel
          clear b0 b1 b2
          obtain ⟨b0, b1, b2⟩ := (HBK2.out.below hb).cells
          by_cases hlt : k < n
          · obtain ⟨b, o, rfl, hcs⟩ := HRD2.out.below hb k hlt
            obtain ⟨p0, p1, p2, p3, p4, p5, p6⟩ := pcells_of (hcs k hlt)
            have v0 : (0 : Int) ≤ (k : Int) := by omega
            have v1 : (k : Int) < (n : Int) := by omega
            have hf := fun i (hi : i < k + 1) => (HOK.out.2 i (by omega)).2.1
            have hk200 := (HOK.out.2 k hlt).1
            have hbd := balF_bd (month := month) (team := team) k (fun i hi => hf i (by omega))
            have hday := (hf k (by omega)).1
            have hamt := (hf k (by omega)).2.2.2.2.1
            unfold within at hday hamt
            have hq : (g k).day.tdiv 30 = (g k).day / 30 := Int.tdiv_eq_ediv_of_nonneg hday.1
            have HSUC : Hid (balF g month team (k + 1) = balF g month team k + if (g k).day / 30 = month then eff (g k) team else 0) := Lib.hid rfl
            obtain ⟨mm, hmm⟩ : ∃ m, (g k).day / 30 = m := ⟨_, rfl⟩
            obtain ⟨x, hx⟩ : ∃ x, balF g month team k = x := ⟨_, rfl⟩
            obtain ⟨a, ha⟩ : ∃ a, (g k).amt = a := ⟨_, rfl⟩
            rw [hx] at hbd HSUC
            rw [hmm] at hq HSUC
            have hxb : -200000000000 ≤ x ∧ x ≤ 200000000000 := by omega
            rw [ha] at p4 hamt
            have HA := Lib.hid ha
            have hmb : 0 ≤ mm ∧ mm ≤ 12 := by omega
            obtain ⟨hmb1, hmb2⟩ := hmb
            obtain ⟨hx1, hx2⟩ := hxb
            obtain ⟨ha1, ha2⟩ := hamt
            obtain ⟨hd1, hd2⟩ := hday
            rw [hx]
            clear hcs hf hbd hx ha
            by_cases h1 : mm = month
            · have n1 : (mm != month) = false := by simp [h1]
              by_cases h2 : (g k).cre = team
              · have n2 : ((g k).cre == team) = true := by simp [h2]
                by_cases h3 : (g k).deb = team
                · have n3 : ((g k).deb == team) = true := by simp [h3]
                  have HE : Hid (balF g month team (k + 1) = x + a - a) := Lib.hid (by rw [HSUC.out, if_pos h1]; unfold eff; rw [if_pos h2, if_pos h3, HA.out]; omega)
                  clear h1 h2 h3 hmm
                  go_wp2_with fail
                  exact ⟨⟨k + 1, by omega, by go_num, congrArg (Value.int IntKind.i64) (by have := HE.out; omega), hb.alloc hb.size _⟩, by simp [intOf]; omega⟩
                · have n3 : ((g k).deb == team) = false := by simp [h3]
                  have HE : Hid (balF g month team (k + 1) = x + a) := Lib.hid (by rw [HSUC.out, if_pos h1]; unfold eff; rw [if_pos h2, if_neg h3, HA.out]; omega)
                  clear h1 h2 h3 hmm
                  go_wp2_with fail
                  exact ⟨⟨k + 1, by omega, by go_num, congrArg (Value.int IntKind.i64) (by have := HE.out; omega), hb.alloc hb.size _⟩, by simp [intOf]; omega⟩
              · have n2 : ((g k).cre == team) = false := by simp [h2]
                by_cases h3 : (g k).deb = team
                · have n3 : ((g k).deb == team) = true := by simp [h3]
                  have HE : Hid (balF g month team (k + 1) = x - a) := Lib.hid (by rw [HSUC.out, if_pos h1]; unfold eff; rw [if_neg h2, if_pos h3, HA.out]; omega)
                  clear h1 h2 h3 hmm
                  go_wp2_with fail
                  exact ⟨⟨k + 1, by omega, by go_num, congrArg (Value.int IntKind.i64) (by have := HE.out; omega), hb.alloc hb.size _⟩, by simp [intOf]; omega⟩
                · have n3 : ((g k).deb == team) = false := by simp [h3]
                  have HE : Hid (balF g month team (k + 1) = x) := Lib.hid (by rw [HSUC.out, if_pos h1]; unfold eff; rw [if_neg h2, if_neg h3]; omega)
                  clear h1 h2 h3 hmm
                  go_wp2_with fail
                  exact ⟨⟨k + 1, by omega, by go_num, congrArg (Value.int IntKind.i64) (by have := HE.out; omega), hb.alloc hb.size _⟩, by simp [intOf]; omega⟩
            · have n1 : (mm != month) = true := by simp [h1]
              have HE : Hid (balF g month team (k + 1) = x) := Lib.hid (by rw [HSUC.out, if_neg h1]; omega)
              clear h1 hmm
              go_wp2_with fail
              exact ⟨⟨k + 1, by omega, by go_num, congrArg (Value.int IntKind.i64) (by have := HE.out; omega), hb.alloc hb.size _⟩, by simp [intOf]; omega⟩
          · obtain rfl : n = k := by omega
            go_wp2_with fail
            refine bodyPost_ret (v := .tuple #[.int .i64 (balF g month team n), .int .i64 0]) (by simp [results, Try.results22, go_sem]) rfl ?_
            exact ⟨⟨_, 0, rfl, .inl ⟨HG.out, rfl, rfl⟩⟩, HB2.out.trans (hb.mono HB2.out.size)⟩
      · have d1 : decide (within team 0 (teams - 1)) = true := decide_eq_true ht
        have d2 : decide (within month 0 11) = false := decide_eq_false hm
        have HNO : Hid (¬ BalGood teams closed n g team month) := Lib.hid (fun h => hm h.2.2)
        clear ht hm
        go_wp2_with (go_at_call 30; refine (in_any _ _ _ _).mono ?_; rintro e w1 ⟨rfl, rfl⟩)
        refine bodyPost_ret (v := .tuple #[.int .i64 0, .int .i64 270]) (by simp [results, Try.results22, go_sem]) rfl ?_
        exact ⟨⟨0, 270, rfl, .inr ⟨HNO.out, rfl, rfl⟩⟩, HB2.out⟩
    · have d1 : decide (within team 0 (teams - 1)) = false := decide_eq_false ht
      have HNO : Hid (¬ BalGood teams closed n g team month) := Lib.hid (fun h => ht h.2.1)
      clear ht
      go_wp2_with (go_at_call 30; refine (in_any _ _ _ _).mono ?_; rintro e w1 ⟨rfl, rfl⟩)
      refine bodyPost_ret (v := .tuple #[.int .i64 0, .int .i64 270]) (by simp [results, Try.results22, go_sem]) rfl ?_
      exact ⟨⟨0, 270, rfl, .inr ⟨HNO.out, rfl, rfl⟩⟩, HB2.out⟩
end Go.Proofs.Ytcfplkbbgjiocaa
