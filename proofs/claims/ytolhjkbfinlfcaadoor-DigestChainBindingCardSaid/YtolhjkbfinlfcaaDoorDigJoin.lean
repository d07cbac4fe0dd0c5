/- Package digest: Leaf, Node, Chain; the reference's. Conditions: strings of at most 4000 bytes each; the table holds its words. -/
import Derived.Test.YtolhjkbfinlfcaaDoorShaSum
import Derived.Test.YtolhjkbfinlfcaaDoorRefSum
import Derived.Test.YtolhjkbfinlfcaaDoorShelf
import Derived.Lib.Join
import Derived.Deep.RegionHeld3
namespace Go.Proofs.YtolhjkbfinlfcaaDoor
open Go Go.RowKit
/-- The digest as a string. -/
def dS (s : ByteArray) : ByteArray := ⟨(sha s.data.toList).toArray⟩
theorem dS_size (s : ByteArray) : (dS s).size = 32 := rfl
theorem eq_dS {S s : ByteArray} (h : S.data.toList = sha s.data.toList) : S = dS s := by
  cases S with
  | mk d =>
    cases d with
    | mk l =>
      simp only at h
      rw [h]
      rfl
theorem dsum_s (s : ByteArray) (w : World) (hs : s.size ≤ 10000) (hT : RoundOk w) :
    Calls Tryd.prog 30 #[.string s] w fun e w' => e = .returned (.string (dS s)) ∧ Below w.heap.size w w' := by
  refine (dsum_any s w hs hT).mono ?_
  rintro e w' ⟨⟨S, rfl, h⟩, hb⟩
  exact ⟨by rw [eq_dS h], hb⟩
theorem ref_sum_s (s : ByteArray) (w : World) (hs : s.size ≤ 10000) :
    Calls Tryd.prog 33 #[.string s] w fun e w' => e = .returned (.string (dS s)) ∧ Below w.heap.size w w' := by
  refine (ref_sum_any s w hs).mono ?_
  rintro e w' ⟨⟨S, rfl, h⟩, hb⟩
  exact ⟨by rw [eq_dS h], hb⟩
def leafS (s : ByteArray) : ByteArray := dS (⟨#[0]⟩ ++ s)
def nodeS (a b : ByteArray) : ByteArray := dS (⟨#[1]⟩ ++ a ++ b)
def chainS (h r : ByteArray) : ByteArray := dS (⟨#[2]⟩ ++ h ++ r)
theorem join1 (a : ByteArray) : (⟨(Lib.join [a.data.toList] []).toArray⟩ : ByteArray) = a := by
  rw [Lib.join_one]
theorem join2 (a b : ByteArray) : (⟨(Lib.join [a.data.toList, b.data.toList] []).toArray⟩ : ByteArray) = a ++ b := by
  rw [Lib.join_cons]
  apply ByteArray.ext
  apply Array.toList_inj.1
  simp [Lib.joinTail]
theorem marked_any (m : ByteArray) (w : World) :
    Calls Tryd.prog 53 #[.string m] w fun e w' => e = .returned (.func (.func 64) #[] #[.pointer (some ⟨w.heap.size, 0, none⟩)]) ∧ w.alloc (.cells #[.string m] 9) = w' := by
  go_enter Tryd.func53, Tryd.ntmps53
  go_wp2
  go_ret
  exact ⟨rfl, rfl⟩
/-- The strings behind a mark, one or two. -/
theorem marked1_any (m x : ByteArray) (B b c : Nat) (xs : List ByteArray) (w : World) (hc : 1 ≤ xs.length) (hcap : xs.length ≤ c) (hm : w.cell? ⟨B, 0, none⟩ = some (.string m)) (hcells : ∀ (j : Nat) y, xs[j]? = some y → w.cell? ⟨b, j, none⟩ = some (.string y))
    (hx : (⟨(Lib.join (xs.map (·.data.toList)) []).toArray⟩ : ByteArray) = x) (hsz : m.size + x.size ≤ 10000) (hn : xs.length ≤ 1000) (hT : RoundOk w) :
    Calls Tryd.prog 64 #[.slice (some ⟨b, 0, none⟩) xs.length c, .pointer (some ⟨B, 0, none⟩)] w fun e w' => e = .returned (.string (dS (m ++ x))) ∧ Below w.heap.size w w' := by
  have hb : b < w.heap.size := by
    cases xs with
    | nil => simp at hc
    | cons y r => exact cell_lt' (hcells 0 y rfl)
  have hj : (Lib.join (xs.map (·.data.toList)) []).length = x.size := by rw [← hx]; simp [ByteArray.size]
  have HJ := Lib.hid (fun W (h : Below w.heap.size w W) => Tryd.strings_Join b 0 c xs ⟨#[]⟩ W (fun j y hy => by rw [Nat.zero_add]; exact (h.cell (p := ⟨b, j, none⟩) hb).trans (hcells j y hy)) (Nat.lt_of_lt_of_le hb h.size) (by omega) hcap (by
    show (Lib.join (xs.map (·.data.toList)) []).length ≤ _
    rw [hj]; omega))
  have HX : Hid ((⟨(Lib.join (xs.map (·.data.toList)) (⟨#[]⟩ : ByteArray).data.toList).toArray⟩ : ByteArray) = x) := Lib.hid hx
  rw [HX.out] at HJ
  have HT := Lib.hid hT
  have z1 : m.size ≤ 10000 := by omega
  have z2 : x.size ≤ 10000 := by omega
  have HS := Lib.hid (fun W (h : Below w.heap.size w W) => dsum_s (m ++ x) W (by rw [ByteArray.size_append]; omega) (HT.out.below h))
  clear hcells hx hT hj
  go_enter Tryd.func64, Tryd.ntmps64
  go_upto_region 1 with fail
  go_region_with ((first
      | (go_at_call 65; refine (HJ.out _ (Below.refl _ _).drew).mono ?_; rintro e w1 ⟨rfl, hb1⟩; have hB1 : Below w.heap.size w w1 := ((Below.refl _ _).drew).trans hb1; have hm1 : w1.cell? ⟨B, 0, none⟩ = some (.string m) := (Below.cell hB1 (cell_lt' hm)).trans hm)
      | (go_at_call 30; refine (HS.out _ ?_).mono ?_; (first | assumption | exact Below.drew (by assumption)); rintro e w2 ⟨rfl, hb2⟩; have hB2 : Below w.heap.size w w2 := hB1.trans (hb2.mono hB1.size))))
  all_goals go_wp2_with fail
  all_goals go_ret
  all_goals exact ⟨rfl, hB2⟩
theorem leaf_any (s : ByteArray) (w : World) (hs : s.size ≤ 4000) (hT : RoundOk w) :
    Calls Tryd.prog 29 #[.string s] w fun e w' => e = .returned (.string (leafS s)) ∧ Below w.heap.size w w' := by
  have hal : Below w.heap.size w ((w.alloc (.cells #[.string ⟨#[0]⟩] 9)).alloc (.cells #[.string s] 9)) := ((Below.refl _ _).alloc (Nat.le_refl _) _).alloc (by simp) _
  have HM := Lib.hid (marked1_any ⟨#[0]⟩ (s) w.heap.size (w.heap.size + 1) 1 [s] ((w.alloc (.cells #[.string ⟨#[0]⟩] 9)).alloc (.cells #[.string s] 9)) (by simp) (by simp) (by simp) (fun j y hy => by
    have hj : j < 1 := by have := (List.getElem?_eq_some_iff.1 hy).1; simpa using this
    rcases (show j = 0 by omega) with rfl <;> simp at hy ⊢ <;> exact hy) (join1 s) (by rw [show (⟨#[0]⟩ : ByteArray).size = 1 from rfl]; omega) (by simp) (hT.below hal))
  have HS : Hid (dS (⟨#[0]⟩ ++ (s)) = leafS s) := Lib.hid (by unfold leafS; rfl)
  rw [HS.out] at HM
  have HB := Lib.hid hal
  clear hal hT
  go_enter Tryd.func29, Tryd.ntmps29
  go_wp2_with fail
  refine (marked_any _ _).mono ?_
  rintro e w' ⟨rfl, rfl⟩
  go_wp2_with fail
  refine HM.out.mono ?_
  rintro e w2 ⟨rfl, hb⟩
  go_wp2_with fail
  go_ret
  exact ⟨rfl, HB.out.trans (hb.mono HB.out.size)⟩
theorem node_any (a b : ByteArray) (w : World) (ha : a.size ≤ 4000) (hb : b.size ≤ 4000) (hT : RoundOk w) :
    Calls Tryd.prog 32 #[.string a, .string b] w fun e w' => e = .returned (.string (nodeS a b)) ∧ Below w.heap.size w w' := by
  have hal : Below w.heap.size w ((w.alloc (.cells #[.string ⟨#[1]⟩] 9)).alloc (.cells #[.string a, .string b] 9)) := ((Below.refl _ _).alloc (Nat.le_refl _) _).alloc (by simp) _
  have HM := Lib.hid (marked1_any ⟨#[1]⟩ (a ++ b) w.heap.size (w.heap.size + 1) 2 [a, b] ((w.alloc (.cells #[.string ⟨#[1]⟩] 9)).alloc (.cells #[.string a, .string b] 9)) (by simp) (by simp) (by simp) (fun j y hy => by
    have hj : j < 2 := by have := (List.getElem?_eq_some_iff.1 hy).1; simpa using this
    rcases (show j = 0 ∨ j = 1 by omega) with rfl | rfl <;> simp at hy ⊢ <;> exact hy) (join2 a b) (by rw [show (⟨#[1]⟩ : ByteArray).size = 1 from rfl, ByteArray.size_append]; omega) (by simp) (hT.below hal))
  have HS : Hid (dS (⟨#[1]⟩ ++ (a ++ b)) = nodeS a b) := Lib.hid (by unfold nodeS; rw [ByteArray.append_assoc])
  rw [HS.out] at HM
  have HB := Lib.hid hal
  clear hal hT
  go_enter Tryd.func32, Tryd.ntmps32
  go_wp2_with fail
  refine (marked_any _ _).mono ?_
  rintro e w' ⟨rfl, rfl⟩
  go_wp2_with fail
  refine HM.out.mono ?_
  rintro e w2 ⟨rfl, hb⟩
  go_wp2_with fail
  go_ret
  exact ⟨rfl, HB.out.trans (hb.mono HB.out.size)⟩
theorem chain_any (h r : ByteArray) (w : World) (hh : h.size ≤ 4000) (hr : r.size ≤ 4000) (hT : RoundOk w) :
    Calls Tryd.prog 36 #[.string h, .string r] w fun e w' => e = .returned (.string (chainS h r)) ∧ Below w.heap.size w w' := by
  have hal : Below w.heap.size w ((w.alloc (.cells #[.string ⟨#[2]⟩] 9)).alloc (.cells #[.string h, .string r] 9)) := ((Below.refl _ _).alloc (Nat.le_refl _) _).alloc (by simp) _
  have HM := Lib.hid (marked1_any ⟨#[2]⟩ (h ++ r) w.heap.size (w.heap.size + 1) 2 [h, r] ((w.alloc (.cells #[.string ⟨#[2]⟩] 9)).alloc (.cells #[.string h, .string r] 9)) (by simp) (by simp) (by simp) (fun j y hy => by
    have hj : j < 2 := by have := (List.getElem?_eq_some_iff.1 hy).1; simpa using this
    rcases (show j = 0 ∨ j = 1 by omega) with rfl | rfl <;> simp at hy ⊢ <;> exact hy) (join2 h r) (by rw [show (⟨#[2]⟩ : ByteArray).size = 1 from rfl, ByteArray.size_append]; omega) (by simp) (hT.below hal))
  have HS : Hid (dS (⟨#[2]⟩ ++ (h ++ r)) = chainS h r) := Lib.hid (by unfold chainS; rw [ByteArray.append_assoc])
  rw [HS.out] at HM
  have HB := Lib.hid hal
  clear hal hT
  go_enter Tryd.func36, Tryd.ntmps36
  go_wp2_with fail
  refine (marked_any _ _).mono ?_
  rintro e w' ⟨rfl, rfl⟩
  go_wp2_with fail
  refine HM.out.mono ?_
  rintro e w2 ⟨rfl, hb⟩
  go_wp2_with fail
  go_ret
  exact ⟨rfl, HB.out.trans (hb.mono HB.out.size)⟩
theorem ref_leaf_any (s : ByteArray) (w : World) (hs : s.size ≤ 4000) :
    Calls Tryd.prog 34 #[.string s] w fun e w' => e = .returned (.string (leafS s)) ∧ Below w.heap.size w w' := by
  have HM := Lib.hid (ref_sum_s (⟨#[0]⟩ ++ s) w (by simp only [ByteArray.size_append, show (⟨#[0]⟩ : ByteArray).size = 1 from rfl]; omega))
  have HS : Hid (dS (⟨#[0]⟩ ++ s) = leafS s) := Lib.hid rfl
  rw [HS.out] at HM
  go_enter Tryd.func34, Tryd.ntmps34
  go_wp2_with fail
  refine HM.out.mono ?_
  rintro e w2 ⟨rfl, hb⟩
  go_wp2_with fail
  go_ret
  exact ⟨rfl, hb⟩
theorem ref_node_any (a b : ByteArray) (w : World) (ha : a.size ≤ 4000) (hb : b.size ≤ 4000) :
    Calls Tryd.prog 35 #[.string a, .string b] w fun e w' => e = .returned (.string (nodeS a b)) ∧ Below w.heap.size w w' := by
  have HM := Lib.hid (ref_sum_s (⟨#[1]⟩ ++ a ++ b) w (by simp only [ByteArray.size_append, show (⟨#[1]⟩ : ByteArray).size = 1 from rfl]; omega))
  have HS : Hid (dS (⟨#[1]⟩ ++ a ++ b) = nodeS a b) := Lib.hid rfl
  rw [HS.out] at HM
  go_enter Tryd.func35, Tryd.ntmps35
  go_wp2_with fail
  refine HM.out.mono ?_
  rintro e w2 ⟨rfl, hb⟩
  go_wp2_with fail
  go_ret
  exact ⟨rfl, hb⟩
theorem ref_chain_any (h r : ByteArray) (w : World) (hh : h.size ≤ 4000) (hr : r.size ≤ 4000) :
    Calls Tryd.prog 37 #[.string h, .string r] w fun e w' => e = .returned (.string (chainS h r)) ∧ Below w.heap.size w w' := by
  have HM := Lib.hid (ref_sum_s (⟨#[2]⟩ ++ h ++ r) w (by simp only [ByteArray.size_append, show (⟨#[2]⟩ : ByteArray).size = 1 from rfl]; omega))
  have HS : Hid (dS (⟨#[2]⟩ ++ h ++ r) = chainS h r) := Lib.hid rfl
  rw [HS.out] at HM
  go_enter Tryd.func37, Tryd.ntmps37
  go_wp2_with fail
  refine HM.out.mono ?_
  rintro e w2 ⟨rfl, hb⟩
  go_wp2_with fail
  go_ret
  exact ⟨rfl, hb⟩
end Go.Proofs.YtolhjkbfinlfcaaDoor
