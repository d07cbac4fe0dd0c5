/- Heads, encodings and their lists: what the two laws of heads stand on. Conditions: those of the theorems. -/
import Derived.Test.YtcfplkbbgjiocaaDoorShaSum
import Derived.Test.YtcfplkbbgjiocaaDoorRefSum
import Derived.Test.YtcfplkbbgjiocaaDoorShelf
import Derived.Lib.Join
import Derived.Deep.RegionHeld3
import Derived.Test.YtcfplkbbgjiocaaDoorBookCode
import Derived.Test.YtcfplkbbgjiocaaDoorBookEnc
import Derived.Deep.AppendLies
import Derived.Deep.RegionLaw
import Derived.BigQuiet
namespace Go.Proofs.YtcfplkbbgjiocaaDoor
open Go Go.RowKit
/-- The digest as a string. -/
def dS (s : ByteArray) : ByteArray := ⟨(sha s.data.toList).toArray⟩
theorem dS_size (s : ByteArray) : (dS s).size = 32 := rfl
theorem eq_dS {S s : ByteArray} (h : S.data.toList = sha s.data.toList) : S = dS s := by
  cases S with
  | mk d =>
    cases d with
    | mk l =>
      simp only at h
      rw [h]
      rfl
theorem dsum_s (s : ByteArray) (w : World) (hs : s.size ≤ 10000) (hT : RoundOk w) :
    Calls Tryd.prog 70 #[.string s] w fun e w' => e = .returned (.string (dS s)) ∧ Below w.heap.size w w' := by
  refine (dsum_any s w hs hT).mono ?_
  rintro e w' ⟨⟨S, rfl, h⟩, hb⟩
  exact ⟨by rw [eq_dS h], hb⟩
theorem ref_sum_s (s : ByteArray) (w : World) (hs : s.size ≤ 10000) :
    Calls Tryd.prog 13 #[.string s] w fun e w' => e = .returned (.string (dS s)) ∧ Below w.heap.size w w' := by
  refine (ref_sum_any s w hs).mono ?_
  rintro e w' ⟨⟨S, rfl, h⟩, hb⟩
  exact ⟨by rw [eq_dS h], hb⟩
def chainS (h r : ByteArray) : ByteArray := dS (⟨#[2]⟩ ++ h ++ r)
theorem join1 (a : ByteArray) : (⟨(Lib.join [a.data.toList] []).toArray⟩ : ByteArray) = a := by
  rw [Lib.join_one]
theorem join2 (a b : ByteArray) : (⟨(Lib.join [a.data.toList, b.data.toList] []).toArray⟩ : ByteArray) = a ++ b := by
  rw [Lib.join_cons]
  apply ByteArray.ext
  apply Array.toList_inj.1
  simp [Lib.joinTail]
theorem marked_any (m : ByteArray) (w : World) :
    Calls Tryd.prog 56 #[.string m] w fun e w' => e = .returned (.func (.func 69) #[] #[.pointer (some ⟨w.heap.size, 0, none⟩)]) ∧ w.alloc (.cells #[.string m] 9) = w' := by
  go_enter Tryd.func56, Tryd.ntmps56
  go_wp2
  go_ret
  exact ⟨rfl, rfl⟩
/-- The strings behind a mark, one or two. -/
theorem marked1_any (m x : ByteArray) (B b c : Nat) (xs : List ByteArray) (w : World) (hc : 1 ≤ xs.length) (hcap : xs.length ≤ c) (hm : w.cell? ⟨B, 0, none⟩ = some (.string m)) (hcells : ∀ (j : Nat) y, xs[j]? = some y → w.cell? ⟨b, j, none⟩ = some (.string y))
    (hx : (⟨(Lib.join (xs.map (·.data.toList)) []).toArray⟩ : ByteArray) = x) (hsz : m.size + x.size ≤ 10000) (hn : xs.length ≤ 1000) (hT : RoundOk w) :
    Calls Tryd.prog 69 #[.slice (some ⟨b, 0, none⟩) xs.length c, .pointer (some ⟨B, 0, none⟩)] w fun e w' => e = .returned (.string (dS (m ++ x))) ∧ Below w.heap.size w w' := by
  have hb : b < w.heap.size := by
    cases xs with
    | nil => simp at hc
    | cons y r => exact cell_lt' (hcells 0 y rfl)
  have hj : (Lib.join (xs.map (·.data.toList)) []).length = x.size := by rw [← hx]; simp [ByteArray.size]
  have HJ := Lib.hid (fun W (h : Below w.heap.size w W) => Tryd.strings_Join b 0 c xs ⟨#[]⟩ W (fun j y hy => by rw [Nat.zero_add]; exact (h.cell (p := ⟨b, j, none⟩) hb).trans (hcells j y hy)) (Nat.lt_of_lt_of_le hb h.size) (by omega) hcap (by
    show (Lib.join (xs.map (·.data.toList)) []).length ≤ _
    rw [hj]; omega))
  have HX : Hid ((⟨(Lib.join (xs.map (·.data.toList)) (⟨#[]⟩ : ByteArray).data.toList).toArray⟩ : ByteArray) = x) := Lib.hid hx
  rw [HX.out] at HJ
  have HT := Lib.hid hT
  have z1 : m.size ≤ 10000 := by omega
  have z2 : x.size ≤ 10000 := by omega
  have HS := Lib.hid (fun W (h : Below w.heap.size w W) => dsum_s (m ++ x) W (by rw [ByteArray.size_append]; omega) (HT.out.below h))
  clear hcells hx hT hj
  go_enter Tryd.func69, Tryd.ntmps69
  go_upto_region 1 with fail
  go_region_with ((first
      | (go_at_call 71; refine (HJ.out _ (Below.refl _ _).drew).mono ?_; rintro e w1 ⟨rfl, hb1⟩; have hB1 : Below w.heap.size w w1 := ((Below.refl _ _).drew).trans hb1; have hm1 : w1.cell? ⟨B, 0, none⟩ = some (.string m) := (Below.cell hB1 (cell_lt' hm)).trans hm)
      | (go_at_call 70; refine (HS.out _ ?_).mono ?_; (first | assumption | exact Below.drew (by assumption)); rintro e w2 ⟨rfl, hb2⟩; have hB2 : Below w.heap.size w w2 := hB1.trans (hb2.mono hB1.size))))
  all_goals go_wp2_with fail
  all_goals go_ret
  all_goals exact ⟨rfl, hB2⟩
theorem chain_any (h r : ByteArray) (w : World) (hh : h.size ≤ 4000) (hr : r.size ≤ 4000) (hT : RoundOk w) :
    Calls Tryd.prog 35 #[.string h, .string r] w fun e w' => e = .returned (.string (chainS h r)) ∧ Below w.heap.size w w' := by
  have hal : Below w.heap.size w ((w.alloc (.cells #[.string ⟨#[2]⟩] 9)).alloc (.cells #[.string h, .string r] 9)) := ((Below.refl _ _).alloc (Nat.le_refl _) _).alloc (by simp) _
  have HM := Lib.hid (marked1_any ⟨#[2]⟩ (h ++ r) w.heap.size (w.heap.size + 1) 2 [h, r] ((w.alloc (.cells #[.string ⟨#[2]⟩] 9)).alloc (.cells #[.string h, .string r] 9)) (by simp) (by simp) (by simp) (fun j y hy => by
    have hj : j < 2 := by have := (List.getElem?_eq_some_iff.1 hy).1; simpa using this
    rcases (show j = 0 ∨ j = 1 by omega) with rfl | rfl <;> simp at hy ⊢ <;> exact hy) (join2 h r) (by rw [show (⟨#[2]⟩ : ByteArray).size = 1 from rfl, ByteArray.size_append]; omega) (by simp) (hT.below hal))
  have HS : Hid (dS (⟨#[2]⟩ ++ (h ++ r)) = chainS h r) := Lib.hid (by unfold chainS; rw [ByteArray.append_assoc])
  rw [HS.out] at HM
  have HB := Lib.hid hal
  clear hal hT
  go_enter Tryd.func35, Tryd.ntmps35
  go_wp2_with fail
  refine (marked_any _ _).mono ?_
  rintro e w' ⟨rfl, rfl⟩
  go_wp2_with fail
  refine HM.out.mono ?_
  rintro e w2 ⟨rfl, hb⟩
  go_wp2_with fail
  go_ret
  exact ⟨rfl, HB.out.trans (hb.mono HB.out.size)⟩
theorem ref_chain_any (h r : ByteArray) (w : World) (hh : h.size ≤ 4000) (hr : r.size ≤ 4000) :
    Calls Tryd.prog 16 #[.string h, .string r] w fun e w' => e = .returned (.string (chainS h r)) ∧ Below w.heap.size w w' := by
  have HM := Lib.hid (ref_sum_s (⟨#[2]⟩ ++ h ++ r) w (by simp only [ByteArray.size_append, show (⟨#[2]⟩ : ByteArray).size = 1 from rfl]; omega))
  have HS : Hid (dS (⟨#[2]⟩ ++ h ++ r) = chainS h r) := Lib.hid rfl
  rw [HS.out] at HM
  go_enter Tryd.func16, Tryd.ntmps16
  go_wp2_with fail
  refine HM.out.mono ?_
  rintro e w2 ⟨rfl, hb⟩
  go_wp2_with fail
  go_ret
  exact ⟨rfl, hb⟩
end Go.Proofs.YtcfplkbbgjiocaaDoor
namespace Go.Proofs.YtcfplkbbgjiocaaDoor
open Go Go.RowKit
theorem cat_inj {a b c d : ByteArray} (h : a.size = c.size) (e : a ++ b = c ++ d) : a = c ∧ b = d := by
  have e2 : a.data ++ b.data = c.data ++ d.data := by
    have := congrArg ByteArray.data e
    simpa using this
  have h2 := Array.append_inj e2 h
  exact ⟨ByteArray.ext h2.1, ByteArray.ext h2.2⟩
theorem mark_inj {k : UInt8} {a b c d : ByteArray} (h : a.size = c.size) (e : ⟨#[k]⟩ ++ a ++ b = ⟨#[k]⟩ ++ c ++ d) : a = c ∧ b = d := by
  rw [ByteArray.append_assoc, ByteArray.append_assoc] at e
  exact cat_inj h (cat_inj rfl e).2
def zero32 : ByteArray := ⟨#[0, 0, 0, 0, 0, 0, 0, 0, 0, 0, 0, 0, 0, 0, 0, 0, 0, 0, 0, 0, 0, 0, 0, 0, 0, 0, 0, 0, 0, 0, 0, 0]⟩
/-- The head of the first records. -/
def headF (F : Nat → ByteArray) : Nat → ByteArray
  | 0 => zero32
  | i + 1 => chainS (headF F i) (F i)
theorem headF_size (F : Nat → ByteArray) : ∀ n, (headF F n).size = 32
  | 0 => rfl
  | _ + 1 => rfl
theorem headF_congr {F G : Nat → ByteArray} : ∀ n, (∀ i, i < n → F i = G i) → headF F n = headF G n
  | 0, _ => rfl
  | n + 1, h => by
    show chainS (headF F n) (F n) = chainS (headF G n) (G n)
    rw [headF_congr n (fun i hi => h i (by omega)), h n (by omega)]
/-- The string that is hashed for record i. -/
def chI (F : Nat → ByteArray) (i : Nat) : ByteArray := ⟨#[2]⟩ ++ headF F i ++ F i
theorem chI_sum (F : Nat → ByteArray) (i : Nat) : dS (chI F i) = headF F (i + 1) := rfl
theorem heads_equal (F G : Nat → ByteArray) : ∀ (n m : Nat), headF F n = headF G m → (n = m ∧ ∀ i, i < n → F i = G i) ∨ (∃ i k, i < n ∧ k < m ∧ chI F i ≠ chI G k ∧ dS (chI F i) = dS (chI G k)) ∨ (∃ i, i < n ∧ dS (chI F i) = zero32) ∨ (∃ k, k < m ∧ dS (chI G k) = zero32)
  | 0, 0, _ => .inl ⟨rfl, fun i hi => by omega⟩
  | 0, m + 1, h => .inr (.inr (.inr ⟨m, by omega, h.symm⟩))
  | n + 1, 0, h => .inr (.inr (.inl ⟨n, by omega, h⟩))
  | n + 1, m + 1, h => by
    by_cases he : chI F n = chI G m
    · obtain ⟨e1, e2⟩ := mark_inj (by rw [headF_size, headF_size]) he
      rcases heads_equal F G n m e1 with ⟨rfl, h2⟩ | ⟨i, k, h1, h2, h3, h4⟩ | ⟨i, h1, h2⟩ | ⟨k, h1, h2⟩
      · refine .inl ⟨rfl, fun i hi => ?_⟩
        by_cases hi2 : i = n
        · rw [hi2]; exact e2
        · exact h2 i (by omega)
      · exact .inr (.inl ⟨i, k, by omega, by omega, h3, h4⟩)
      · exact .inr (.inr (.inl ⟨i, by omega, h2⟩))
      · exact .inr (.inr (.inr ⟨k, by omega, h2⟩))
    · exact .inr (.inl ⟨n, m, by omega, by omega, he, h⟩)
end Go.Proofs.YtcfplkbbgjiocaaDoor
namespace Go.Proofs.YtcfplkbbgjiocaaDoor
open Go Go.RowKit
theorem infoStr : ∃ i : TypeInfo, Tryd.prog.info? 9 = some i ∧ i.zero = some (.string ⟨#[]⟩) ∧ i.size = 1 ∧ i.bytes = 16 := by
  have h : (Tryd.prog.info? 9).map (fun i => (i.zero, i.size, i.bytes)) = some (some (.string ⟨#[]⟩), 1, 16) := by kernel_rfl
  cases hi : Tryd.prog.info? 9 with
  | none => rw [hi] at h; cases h
  | some i =>
    rw [hi] at h
    simp at h
    exact ⟨i, rfl, h.1, h.2.1, h.2.2⟩
theorem own_below {W W' : World} {base n size : Nat} {e : TypeId} {v : Value} {xs : List Value} (h : W.ownsRow base e size v n xs) (hb : Below W.heap.size W W') : W'.ownsRow base e size v n xs := by
  refine ⟨h.1, ?_⟩
  rcases h.2 with h0 | ⟨g, cap, cur, rfl, h1, h2, h3⟩
  · exact .inl h0
  · exact .inr ⟨g, cap, cur, rfl, h1, (hb.block _ (Array.getElem?_eq_some_iff.1 h2).1).trans h2, h3⟩
theorem own_cell {W : World} {base n cap g i : Nat} {e : TypeId} {xs : List Value} {u : Value} (h : W.ownsRow base e 1 (.slice (some ⟨g, 0, none⟩) n cap) n xs) (hu : xs[i]? = some u) : W.cell? ⟨g, i, none⟩ = some u := by
  have h2 := h.cells (g := g) rfl i u hu
  rwa [addr_add0] at h2
theorem own_nil {W : World} {base size : Nat} {e : TypeId} {v : Value} {xs : List Value} (h : W.ownsRow base e size v 0 xs) : ∃ p c, v = .slice p 0 c := by
  rcases h.2 with ⟨rfl, _⟩ | ⟨g, cap, cur, rfl, _⟩
  · exact ⟨_, _, rfl⟩
  · exact ⟨_, _, rfl⟩
theorem own_cap {W : World} {base n cap g : Nat} {e : TypeId} {xs : List Value} (h : W.ownsRow base e 1 (.slice (some ⟨g, 0, none⟩) n cap) n xs) : n ≤ cap ∧ cap ≤ maxLen := by
  rcases h.2 with ⟨h0, _⟩ | ⟨g', cap', cur, h0, _, _, h1, h2, _⟩
  · cases h0
  · cases h0; exact ⟨h1, h2⟩
def strV (s : ByteArray) : Value := .string s
/-- Strings that can be read. -/
def ReadsS (W : World) (p : Option Addr) (n : Nat) (F : Nat → ByteArray) : Prop :=
  ∀ i, i < n → ∃ b off, p = some ⟨b, off, none⟩ ∧ ∀ j, j < n → W.cell? ⟨b, off + j, none⟩ = some (.string (F j))
theorem ReadsS.below {W W' : World} {p : Option Addr} {n : Nat} {F : Nat → ByteArray} (h : ReadsS W p n F) (hb : Below W.heap.size W W') : ReadsS W' p n F := fun i hi => by
  obtain ⟨b, off, hp, hc⟩ := h i hi
  exact ⟨b, off, hp, fun j hj => (hb.cell (p := ⟨b, off + j, none⟩) (cell_lt' (hc j hj))).trans (hc j hj)⟩
theorem ReadsS.less {W : World} {p : Option Addr} {n m : Nat} {F : Nat → ByteArray} (h : ReadsS W p n F) (hm : m ≤ n) : ReadsS W p m F := fun i hi => by
  obtain ⟨b, off, hp, hc⟩ := h i (by omega)
  exact ⟨b, off, hp, fun j hj => hc j (by omega)⟩
theorem ReadsS.congr {W : World} {p : Option Addr} {n : Nat} {F G : Nat → ByteArray} (h : ReadsS W p n F) (e : ∀ i, i < n → F i = G i) : ReadsS W p n G := fun i hi => by
  obtain ⟨b, off, hp, hc⟩ := h i hi
  exact ⟨b, off, hp, fun j hj => by rw [hc j hj, e j hj]⟩
def getS (L : List ByteArray) (j : Nat) : ByteArray := L.getD j ⟨#[]⟩
theorem own_readsS {W : World} {base : Nat} {v : Value} {L : List ByteArray} (h : W.ownsRow base 9 1 v L.length (L.map strV)) : ∃ p c, v = .slice p L.length c ∧ L.length ≤ c ∧ ReadsS W p L.length (getS L) := by
  cases hL : L with
  | nil =>
    rw [hL] at h
    rcases h.2 with ⟨rfl, _⟩ | ⟨g, cap, cur, rfl, _, _, h1, _⟩
    · exact ⟨none, 0, rfl, Nat.le_refl _, fun i hi => by simp at hi⟩
    · exact ⟨_, _, rfl, h1, fun i hi => by simp at hi⟩
  | cons x r =>
    rw [← hL]
    obtain ⟨m, hm⟩ : ∃ m, L.length = m + 1 := ⟨r.length, by rw [hL]; rfl⟩
    rw [hm] at h ⊢
    obtain ⟨g, cap, rfl⟩ := ownsRow_succ h
    refine ⟨_, _, rfl, (own_cap h).1, fun i _ => ⟨g, 0, rfl, fun j hj => ?_⟩⟩
    rw [Nat.zero_add]
    refine own_cell h ?_
    rw [List.getElem?_map, getS, List.getD_eq_getElem?_getD, List.getElem?_eq_getElem (by omega)]
    rfl
theorem ReadsS.slice {W : World} {p : Option Addr} {n k : Nat} {F : Nat → ByteArray} (h : ReadsS W p n F) (hk : k < n) : ∃ b off, p = some ⟨b, off, none⟩ ∧ ReadsS W (some ⟨b, off + k, none⟩) (n - k) (fun i => F (k + i)) := by
  obtain ⟨b, off, hp, hc⟩ := h 0 (by omega)
  exact ⟨b, off, hp, fun i _ => ⟨b, off + k, rfl, fun j hj => by rw [Nat.add_assoc]; exact hc (k + j) (by omega)⟩⟩
theorem ReadsS.last {W : World} {p : Option Addr} {k : Nat} {F : Nat → ByteArray} (h : ReadsS W p (k + 1) F) : ∃ b off, p = some ⟨b, off, none⟩ ∧ W.cell? ⟨b, off + k, none⟩ = some (.string (F k)) := by
  obtain ⟨b, off, hp, hc⟩ := h k (by omega)
  exact ⟨b, off, hp, hc k (by omega)⟩
theorem beq_dec (a b : ByteArray) : (a.toList == b.toList) = decide (a = b) := by
  by_cases h : a = b
  · subst h
    simp
  · rw [decide_eq_false h]
    refine beq_false_of_ne (fun e => h ?_)
    rw [ByteArray.toList_eq, ByteArray.toList_eq] at e
    exact ByteArray.ext (Array.toList_inj.1 e)
theorem getS_lt {L M : List ByteArray} {j : Nat} (h : j < L.length) : getS (L ++ M) j = getS L j := by
  unfold getS
  rw [List.getD_eq_getElem?_getD, List.getElem?_append_left h, ← List.getD_eq_getElem?_getD]
theorem getS_snoc (L : List ByteArray) (x : ByteArray) : getS (L ++ [x]) L.length = x := by
  unfold getS
  simp
theorem getS_mem {L : List ByteArray} {j : Nat} (h : j < L.length) : getS L j ∈ L := by
  unfold getS
  rw [List.getD_eq_getElem?_getD, List.getElem?_eq_getElem h]
  exact List.getElem_mem h
theorem getS_le {L : List ByteArray} {k : Nat} (h : ∀ x ∈ L, x.size ≤ k) (i : Nat) : (getS L i).size ≤ k := by
  by_cases hi : i < L.length
  · exact h _ (getS_mem hi)
  · have e : getS L i = ⟨#[]⟩ := by
      unfold getS
      rw [List.getD_eq_getElem?_getD, List.getElem?_eq_none (by omega)]
      rfl
    rw [e]
    exact Nat.zero_le _
end Go.Proofs.YtcfplkbbgjiocaaDoor
namespace Go.Proofs.YtcfplkbbgjiocaaDoor
open Go Go.RowKit
def encsL (g : Nat → Pst) (n : Nat) : List ByteArray := (List.range n).map (fun i => encP (g i))
theorem encsL_length (g : Nat → Pst) (n : Nat) : (encsL g n).length = n := by simp [encsL]
theorem encsL_succ (g : Nat → Pst) (n : Nat) : encsL g (n + 1) = encsL g n ++ [encP (g n)] := by simp [encsL, List.range_succ]
theorem encsL_at (g : Nat → Pst) (n i : Nat) (h : i < n) : getS (encsL g n) i = encP (g i) := by
  unfold getS encsL
  rw [List.getD_eq_getElem?_getD, List.getElem?_map, List.getElem?_range h]
  rfl
/-- What Encoded hands back. -/
def EncdRet (g : Nat → Pst) (n base : Nat) (e : Ending) (w' : World) : Prop :=
  ((∀ i, i < n → EncOk (g i)) ∧ ∃ v, e = .returned (.tuple #[v, .bool true]) ∧ w'.ownsRow base 9 1 v n ((encsL g n).map strV)) ∨ (¬ (∀ i, i < n → EncOk (g i)) ∧ e = .returned (.tuple #[.slice none 0 0, .bool false]))
set_option maxRecDepth 100000 in
set_option maxHeartbeats 2000000 in
theorem Encoded_any (p : Option Addr) (n c : Nat) (g : Nat → Pst) (w : World) (hn : n ≤ 1000) (hr : ReadsP w p n g) :
    Calls Tryd.prog 36 #[.slice p n c] w fun e w' => EncdRet g n w.heap.size e w' ∧ Below w.heap.size w w' := by
  obtain ⟨i0, hi, hz0, hz1, hz2⟩ := infoStr
  have HR := Lib.hid hr
  clear hr
  go_enter Tryd.func36, Tryd.ntmps36
  go_wp2_with fail
  go_loopw [4, 5] (fun v4 v5 wr => ∃ i : Nat, v5 = .int .i64 (i : Nat) ∧ i ≤ n ∧ Hid (∀ j, j < i → EncOk (g j)) ∧ wr.ownsRow w.heap.size 9 1 v4 i ((encsL g i).map strV) ∧ Below w.heap.size w wr) (fun _ v5 _ => n - (intOf v5).toNat)
  case atStart => exact ⟨0, rfl, by omega, Lib.hid (fun j h => by omega), World.ownsRow_nil _ _ _ _, Below.refl _ _⟩
  case round =>
    obtain ⟨i, rfl, hin, hall, hown, hB⟩ := hrel
    by_cases hlt : i < n
    · obtain ⟨b, o, rfl, hc⟩ := HR.out i hlt
      obtain ⟨e0, e1, e2, e3, e4, e5, e6⟩ := pcells_of (W := wr) (b := b) (o := o + i * 7) (p := g i) (fun c hc7 => (hB.cell (p := ⟨b, o + i * 7 + c, none⟩) (cell_lt (hc i hlt c hc7))).trans (hc i hlt c hc7))
      have v0 : (0 : Int) ≤ (i : Int) := by omega
      have v1 : (i : Int) < (n : Int) := by omega
      have hsu := encsL_succ g i
      obtain ⟨P, hP⟩ : ∃ P, g i = P := ⟨_, rfl⟩
      rw [hP] at e0 e1 e2 e3 e4 e5 e6 hsu
      have HP := Lib.hid hP
      have HSU := Lib.hid hsu
      have HE := Lib.hid (ref_Encode_any P wr)
      have hsz := hB.size
      have HOWN := Lib.hid hown
      have HBO := Lib.hid hB
      clear hc hP hsu hown hB
      by_cases hok : EncOk P
      · have HOK := Lib.hid hok
        have hv : encV P = .tuple #[.string (encP P), .int .i64 0] := by unfold encV; rw [if_pos hok]
        rw [hv] at HE
        obtain ⟨X, hX⟩ : ∃ X, encP P = X := ⟨_, rfl⟩
        rw [hX] at HE HSU
        clear hv hok hX
        unfold Pst.cells at HE
        go_wp2_with fail
        refine HE.out.mono ?_
        rintro e w2 ⟨rfl, hb2⟩
        have h22 := own_below HOWN.out hb2
        have HB2 := Lib.hid (HBO.out.trans (hb2.mono HBO.out.size))
        have hw2 := HB2.out.size
        clear hb2 e0 e1 e2 e3 e4 e5 e6
        go_wp2_with (at_builtin; refine wpList_append_own _ rfl _ _ 36 rfl w.heap.size 9 i0 (.string ⟨#[]⟩) 1 16 Tryd.underlying36 hi hz0 hz1 hz2 rfl (by decide) _ i _ rfl (h22.alloc _) ⟨w2.heap.size, 0, none⟩ 1 1 [.string X] rfl rfl (cell_one_new _ _ _) (by simp [Value.oneCell']) (by unfold maxLen; omega) (by omega) (by simp; omega) ?_; intro v' w6 hown6 hgrow6 _; obtain ⟨g6, cap6, rfl⟩ := ownsRow_succ hown6; have hbb := (HB2.out.alloc hw2 (.cells #[.string X] 9)).grown hgrow6 (by simp; omega) (fun q ej => (h22.lt q ej).1))
        refine ⟨⟨i + 1, by go_num, by omega, Lib.hid (fun j hj => ?_), ?_, hbb⟩, by simp [intOf]; omega⟩
        · by_cases hji : j = i
          · rw [hji, HP.out]; exact HOK.out
          · exact hall.out j (by omega)
        · rw [HSU.out, List.map_append]
          exact hown6
      · have hv : encV P = .tuple #[.string ⟨#[]⟩, .int .i64 270] := by unfold encV; rw [if_neg hok]
        have HNO : Hid (¬ ∀ i, i < n → EncOk (g i)) := Lib.hid (fun h => hok (by rw [← HP.out]; exact h i hlt))
        rw [hv] at HE
        clear hv hok
        unfold Pst.cells at HE
        go_wp2_with fail
        refine HE.out.mono ?_
        rintro e w2 ⟨rfl, hb2⟩
        have HB2 := Lib.hid (HBO.out.trans (hb2.mono HBO.out.size))
        clear hb2
        go_wp2_with fail
        go_ret2
        exact ⟨.inr ⟨HNO.out, rfl⟩, HB2.out⟩
    · obtain rfl : i = n := by omega
      have HO := Lib.hid hown
      have HB := Lib.hid hB
      clear hown hB
      go_wp2_with fail
      go_ret2
      exact ⟨.inl ⟨hall.out, _, rfl, HO.out⟩, HB.out⟩
end Go.Proofs.YtcfplkbbgjiocaaDoor
namespace Go.Proofs.YtcfplkbbgjiocaaDoor
open Go Go.RowKit
theorem make_zero (W : World) : ∃ o : Obj, (Instr.makeSlice 57 (.int .i64 32) (.int .i64 32)).run Tryd.prog W = .ok (.slice (some ⟨W.heap.size, 0, none⟩) 32 32) (W.alloc o) ∧
    (convert 57 9 (.slice (some ⟨W.heap.size, 0, none⟩) 32 32)).run Tryd.prog (W.alloc o) = .ok (.string zero32) (W.alloc o) := by
  obtain ⟨i0, hi, hz0, hz1, hz2⟩ := infoU8
  have h := run_make (P := Tryd.prog) W 57 5 i0 (.int .u8 0) Tryd.underlying57 hi hz0 .i64 .i64 32 32 (by decide) (by decide) (by rw [hz2]; decide) (by decide)
  have e : ∀ n : Nat, madeCells (Value.int .u8 0).cells (n * 1) = ((List.range n).map fun _ => Value.int .u8 0).toArray := fun n => by
    apply Array.toList_inj.1
    rw [made_one _ rfl]
    apply List.ext_getElem <;> simp
  rw [hz1, e] at h
  refine ⟨_, h, ?_⟩
  have hb : UBox .u8 (W.alloc (.cells ((List.range 32).map fun _ => Value.int .u8 0).toArray 5)) W.heap.size 32 (fun _ => 0) := UBox.new W _ _ _ (by simp) (fun i hi => by simp [hi])
  exact u8_string hb (fun _ => by decide) 57 Tryd.underlying57 Tryd.underlying5 9 Tryd.underlying9
set_option maxRecDepth 100000 in
set_option maxHeartbeats 2000000 in
theorem ref_Head02_any (p : Option Addr) (n c : Nat) (F : Nat → ByteArray) (w : World) (hn : n ≤ 1000) (hF : ∀ i, (F i).size ≤ 4000) (hp : ReadsS w p n F) :
    Calls Tryd.prog 12 #[.slice p n c] w fun e w' => e = .returned (.string (headF F n)) ∧ Below w.heap.size w w' := by
  have HP := Lib.hid hp
  have HF := Lib.hid hF
  obtain ⟨o9, hmk, hcv⟩ := make_zero w
  have hal := (Below.refl w.heap.size w).alloc (Nat.le_refl _) o9
  have HZF : Hid (zero32 = headF F 0) := Lib.hid rfl
  obtain ⟨z32, hz32⟩ : ∃ z, zero32 = z := ⟨_, rfl⟩
  rw [hz32] at hcv HZF
  have HAL := Lib.hid hal
  clear hp hF hz32 hal
  go_enter Tryd.func12, Tryd.ntmps12
  go_wp2_with fail
  clear hmk hcv
  go_loopw [3, 4] (fun v3 v4 wr => ∃ k : Nat, v3 = .string (headF F k) ∧ v4 = .int .i64 (k : Nat) ∧ k ≤ n ∧ Below w.heap.size w wr) (fun _ v4 _ => n - (intOf v4).toNat)
  case atStart => exact ⟨0, by rw [← HZF.out], rfl, by omega, HAL.out⟩
  case round =>
    obtain ⟨k, rfl, rfl, hk, hB⟩ := hrel
    by_cases hlt : k < n
    · obtain ⟨b, o, rfl, hc⟩ := HP.out k hlt
      have c1 := (hB.cell (p := ⟨b, o + k, none⟩) (cell_lt' (hc k hlt))).trans (hc k hlt)
      have v0 : (0 : Int) ≤ (k : Int) := by omega
      have v1 : (k : Int) < (n : Int) := by omega
      have HN := Lib.hid (ref_chain_any (headF F k) (F k) wr (by rw [headF_size]; decide) (HF.out k))
      have HS1 : Hid (headF F (k + 1) = chainS (headF F k) (F k)) := Lib.hid rfl
      obtain ⟨x, hx⟩ : ∃ x, F k = x := ⟨_, rfl⟩
      obtain ⟨h, hh⟩ : ∃ x, headF F k = x := ⟨_, rfl⟩
      rw [hx] at c1 HN HS1
      rw [hh] at HN HS1 ⊢
      clear hx hh hc
      go_wp2_with fail
      refine HN.out.mono ?_
      rintro e w6 ⟨rfl, hb6⟩
      have HB6 := Lib.hid (hB.trans (hb6.mono hB.size))
      clear hb6 hB
      go_wp2_with fail
      exact ⟨⟨k + 1, by rw [HS1.out], by go_num, by omega, HB6.out⟩, by simp [intOf]; omega⟩
    · obtain rfl : n = k := by omega
      go_wp2_with fail
      go_ret
      exact ⟨rfl, hB⟩
end Go.Proofs.YtcfplkbbgjiocaaDoor
namespace Go.Proofs.YtcfplkbbgjiocaaDoor
open Go Go.RowKit
def bookF (g : Nat → Pst) : Nat → ByteArray := fun i => encP (g i)
theorem bookF_size (g : Nat → Pst) (i : Nat) : (bookF g i).size ≤ 4000 := by
  have h := encB_size (g i) 7
  show (encB (g i) 7).size ≤ 4000
  omega
theorem encsL_reads {W : World} {base n : Nat} {v : Value} {g : Nat → Pst} (h : W.ownsRow base 9 1 v n ((encsL g n).map strV)) : ∃ p c, v = .slice p n c ∧ n ≤ c ∧ ReadsS W p n (bookF g) := by
  have hl := encsL_length g n
  have h2 : W.ownsRow base 9 1 v (encsL g n).length ((encsL g n).map strV) := by rw [hl]; exact h
  obtain ⟨p, c, e, hc, hr⟩ := own_readsS h2
  rw [hl] at e hc hr
  exact ⟨p, c, e, hc, hr.congr (fun i hi => encsL_at g n i hi)⟩
end Go.Proofs.YtcfplkbbgjiocaaDoor
namespace Go.Proofs.YtcfplkbbgjiocaaDoor
open Go Go.RowKit
theorem step_call {P : Program} {ops : Array Oper} {o : Oper} {a : Act} {w : World} {K : Act → World → Prop} {Q : Exit → Act → World → Prop} {E : Prop} (hg : o.guard = none) (f : FuncId) (args : Array Value) {v : Value} {R : World → Prop}
    (hrun : (execOp a.eval o).run P w = .ok (.enter f args) w) (hc : Calls P f args w fun e w' => e = .returned v ∧ R w') (h : ∀ w', R w' → K (a.put o.dst v) w') :
    if Region.wanted o (yielded ops a.tmps) = true then Oper.wp P o a w K Q else E := by
  have hw : Region.wanted o (yielded ops a.tmps) = true := by simp [Region.wanted, hg]
  rw [if_pos hw]
  unfold Oper.wp
  rw [hrun]
  simp only [Oper.upon]
  exact hc.mono fun e w' ⟨he, hr⟩ => by subst he; exact h w' hr
end Go.Proofs.YtcfplkbbgjiocaaDoor
namespace Go.Proofs.YtcfplkbbgjiocaaDoor
open Go Go.RowKit
def chL (F : Nat → ByteArray) (n : Nat) : List ByteArray := (List.range n).map (chI F)
theorem chL_length (F : Nat → ByteArray) (n : Nat) : (chL F n).length = n := by simp [chL]
theorem chL_succ (F : Nat → ByteArray) (n : Nat) : chL F (n + 1) = chL F n ++ [chI F n] := by simp [chL, List.range_succ]
theorem chL_at (F : Nat → ByteArray) (n i : Nat) (h : i < n) : getS (chL F n) i = chI F i := by
  unfold getS chL
  rw [List.getD_eq_getElem?_getD, List.getElem?_map, List.getElem?_range h]
  rfl
theorem chI_size {F : Nat → ByteArray} (i : Nat) (h : (F i).size ≤ 4000) : (chI F i).size ≤ 5000 := by
  unfold chI
  rw [ByteArray.size_append, ByteArray.size_append, headF_size, show (⟨#[2]⟩ : ByteArray).size = 1 from rfl]
  omega
theorem chL_reads {W : World} {base n : Nat} {v : Value} {F : Nat → ByteArray} (h : W.ownsRow base 9 1 v n ((chL F n).map strV)) : ∃ p c, v = .slice p n c ∧ n ≤ c ∧ ReadsS W p n (chI F) := by
  have h2 : W.ownsRow base 9 1 v (chL F n).length ((chL F n).map strV) := by rw [chL_length]; exact h
  obtain ⟨q, cq, e, hc, hr⟩ := own_readsS h2
  rw [chL_length] at e hc hr
  exact ⟨q, cq, e, hc, hr.congr (fun i hi => chL_at F n i hi)⟩
set_option maxRecDepth 100000 in
set_option maxHeartbeats 2000000 in
theorem Chained_any (p : Option Addr) (n c : Nat) (g : Nat → Pst) (w : World) (hn : n ≤ 1000) (hr : ReadsP w p n g) (hok : ∀ i, i < n → EncOk (g i)) :
    Calls Tryd.prog 11 #[.slice p n c] w fun e w' => (∃ q cq, e = .returned (.slice q n cq) ∧ n ≤ cq ∧ ReadsS w' q n (chI (bookF g))) ∧ Below w.heap.size w w' := by
  obtain ⟨i0, hi, hz0, hz1, hz2⟩ := infoStr
  have HE := Lib.hid (Encoded_any p n c g w hn hr)
  have HOK := Lib.hid hok
  have z3 : (⟨#[2]⟩ : ByteArray).size = 1 := rfl
  have hFs := bookF_size g
  obtain ⟨F, hF⟩ : ∃ F, bookF g = F := ⟨_, rfl⟩
  rw [hF] at hFs ⊢
  have HFs := Lib.hid hFs
  have HFE := Lib.hid hF
  clear hr hok hFs hF
  go_enter Tryd.func11, Tryd.ntmps11
  go_wp2_with fail
  refine HE.out.mono ?_
  rintro e w2 ⟨hcase, hb2⟩
  rcases hcase with ⟨hall, v, rfl, hown⟩ | ⟨hno, -⟩
  rotate_left
  · exact absurd HOK.out hno
  obtain ⟨q, cq, rfl, hcq, hrd⟩ := encsL_reads hown
  have HRD := Lib.hid hrd
  have HB2 := Lib.hid hb2
  rw [HFE.out] at HRD
  clear hall hown hrd hb2 HE
  go_wp2_with fail
  go_loopw [5, 6] (fun v5 v6 wr => ∃ k : Nat, v6 = .int .i64 (k : Nat) ∧ k ≤ n ∧ wr.ownsRow w2.heap.size 9 1 v5 k ((chL F k).map strV) ∧ Below w2.heap.size w2 wr) (fun _ v6 _ => n - (intOf v6).toNat)
  case atStart => exact ⟨0, rfl, by omega, World.ownsRow_nil _ _ _ _, Below.refl _ _⟩
  case round =>
    obtain ⟨k, rfl, hk, hown, hB⟩ := hrel
    by_cases hlt : k < n
    · obtain ⟨b, o, rfl, hc⟩ := HRD.out k hlt
      have c1 := (hB.cell (p := ⟨b, o + k, none⟩) (cell_lt' (hc k hlt))).trans (hc k hlt)
      have v0 : (0 : Int) ≤ (k : Int) := by omega
      have v1 : (k : Int) < (n : Int) := by omega
      have v2 : (k : Int) ≤ (cq : Int) := by omega
      have v3 : ¬ cq = k := by omega
      have hx9 := HFs.out k
      have hsu := chL_succ F k
      have hch : chI F k = ⟨#[2]⟩ ++ headF F k ++ F k := rfl
      have HN := Lib.hid (fun W (h : Below w2.heap.size w2 W) => ref_Head02_any (some ⟨b, o, none⟩) k cq F W (by omega) HFs.out ((HRD.out.less (by omega : k ≤ n)).below h))
      have hh9 := headF_size F k
      obtain ⟨x, hx⟩ : ∃ x, F k = x := ⟨_, rfl⟩
      obtain ⟨h, hh⟩ : ∃ x, headF F k = x := ⟨_, rfl⟩
      obtain ⟨L, hL⟩ : ∃ x, chL F k = x := ⟨_, rfl⟩
      rw [hx] at c1 hx9 hch
      rw [hh] at hh9 hch
      simp only [hh] at HN
      rw [hL, hch] at hsu
      rw [hL] at hown
      have HSU := Lib.hid hsu
      have HOWN := Lib.hid hown
      have q1 : (⟨#[2]⟩ ++ h : ByteArray).size ≤ 100 := by rw [ByteArray.size_append]; omega
      have q2 : ¬ 9223372036854775807 < 1 + h.size := by omega
      have q3 : ¬ 9223372036854775807 < (⟨#[2]⟩ ++ h : ByteArray).size + x.size := by omega
      have q4 : ¬ 9223372036854775807 < 33 + x.size := by omega
      obtain ⟨Y, hY⟩ : ∃ y, (⟨#[2]⟩ ++ h ++ x : ByteArray) = y := ⟨_, rfl⟩
      rw [hY] at HSU
      have hw := hB.size
      have HB := Lib.hid hB
      have HB1 : Hid (Below w2.heap.size w2 wr.drew) := Lib.hid hB.drew
      obtain ⟨wo, rfl⟩ : ∃ W : World, W = wr := ⟨_, rfl⟩
      clear hx hh hL hch hsu hown hc hB
      go_wp2_with fail
      have hb1 := HB1.out
      go_region_law (first
        | (refine step_call (by rfl) 12 #[.slice (some ⟨b, o, none⟩) k cq] ?_ (HN.out wo.drew hb1) ?_; (focus (go_simp; done)); intro w6 hb6; have hown6 := own_below HOWN.out.drew hb6; have hb6w : Below w2.heap.size w2 w6 := hb1.trans (hb6.mono hb1.size); have hw6 := hb6w.size; have c6 := (hb6.cell (p := ⟨b, o + k, none⟩) (cell_lt' c1)).trans c1)
        | (refine step_append_lies _ (by rfl) (.tmp 21) (.tmp 32) 36 (by rfl) w2.heap.size 9 i0 (.string ⟨#[]⟩) 1 16 Tryd.underlying36 hi hz0 hz1 hz2 rfl (by decide) _ k _ (by rfl) (hown6.alloc _) ⟨w6.heap.size, 0, none⟩ 1 1 [.string Y] (by rfl) rfl (cell_one_new w6 _ _) (h1 := by simp [Value.oneCell']) (hm := by decide) (h63 := by unfold maxLen; omega) (hbytes := by omega) (hbase := Nat.le_trans hw6 (by show w6.heap.size ≤ (w6.alloc _).heap.size; simp)) (H := w6.heap.size + 1) (hH := by show (w6.alloc _).heap.size = _; simp) ?_; intro g cp1 w7 hown1 hgrow1 hat1 hlt1; have hb7 := (hb6w.alloc hw6 _).grown hgrow1 (by simp; omega) (fun j ej => (hown6.lt j ej).1)))
      all_goals (go_wp2_with fail)
      all_goals
        refine ⟨⟨k + 1, by go_num, by omega, ?_, hb7⟩, by simp [intOf]; omega⟩
        rw [HSU.out, List.map_append]
        exact hown1
    · obtain rfl : n = k := by omega
      have HO := Lib.hid hown
      have HB := Lib.hid hB
      clear hown hB
      go_wp2_with fail
      go_ret
      obtain ⟨q, cq, rfl, hc, hr⟩ := chL_reads HO.out
      exact ⟨⟨q, cq, rfl, hc, hr⟩, HB2.out.trans (HB.out.mono HB2.out.size)⟩
end Go.Proofs.YtcfplkbbgjiocaaDoor
namespace Go.Proofs.YtcfplkbbgjiocaaDoor
open Go Go.RowKit
theorem pst_ext {p q : Pst} (h : ∀ c, c < 7 → fld p c = fld q c) : p = q := by
  obtain ⟨a, b, c, d, e, f, g⟩ := p
  obtain ⟨a', b', c', d', e', f', g'⟩ := q
  have h0 := h 0 (by decide)
  have h1 := h 1 (by decide)
  have h2 := h 2 (by decide)
  have h3 := h 3 (by decide)
  have h4 := h 4 (by decide)
  have h5 := h 5 (by decide)
  have h6 := h 6 (by decide)
  simp only [fld] at h0 h1 h2 h3 h4 h5 h6
  subst h0 h1 h2 h3 h4 h5 h6
  rfl
theorem fld_inj {p q : Pst} (hp : EncOk p) (hq : EncOk q) (h : encP p = encP q) : p = q := by
  have e : encN p 7 = encN q 7 := by
    have := congrArg (fun x : ByteArray => x.data.toList) h
    simpa [encP, encB] using this
  have e2 := encL_inj _ _ (by simp) (fun n hn => by
    obtain ⟨c, hc, rfl⟩ := List.mem_map.1 hn
    exact hp c (List.mem_range.1 hc)) (fun n hn => by
    obtain ⟨c, hc, rfl⟩ := List.mem_map.1 hn
    exact hq c (List.mem_range.1 hc)) e
  refine pst_ext fun c hc => ?_
  have := congrArg (fun l => l[c]?) e2
  simpa [List.getElem?_range hc] using this
end Go.Proofs.YtcfplkbbgjiocaaDoor
namespace Go.Proofs.YtcfplkbbgjiocaaDoor
open Go Go.RowKit Go.Shelf
set_option maxHeartbeats 2000000 in
theorem sameP_no (p q : Option Addr) (n c d k : Nat) (f g : Nat → Pst) (w : World) (hn : n ≤ 1000) (hp : ReadsP w p n f) (hq : ReadsP w q n g) (hk : k < n) (h : f k ≠ g k) :
    Calls Tryd.prog 14 #[.slice p n c, .slice q n d] w fun e w' => e = .returned (.bool false) ∧ Below w.heap.size w w' := by
  have HP := Lib.hid hp
  have HQ := Lib.hid hq
  have HE := Lib.hid h
  clear hp hq h
  go_enter Tryd.func14, Tryd.ntmps14
  go_wp2_with fail
  go_loopw [5] (fun i wr => ∃ j : Nat, j ≤ k ∧ i = .int .i64 j ∧ Below w.heap.size w wr) (fun i _ => n - (intOf i).toNat)
  case atStart => exact ⟨0, by omega, rfl, Below.refl _ _⟩
  case round =>
    obtain ⟨j, hj, rfl, hB⟩ := hrel
    obtain ⟨b, o, rfl, hc⟩ := HP.out.below hB j (by omega)
    obtain ⟨b', o', rfl, hc'⟩ := HQ.out.below hB j (by omega)
    obtain ⟨p0, p1, p2, p3, p4, p5, p6⟩ := pcells_of (hc j (by omega))
    obtain ⟨q0, q1, q2, q3, q4, q5, q6⟩ := pcells_of (hc' j (by omega))
    have v0 : (0 : Int) ≤ (j : Int) := by omega
    have v1 : (j : Int) < (n : Int) := by omega
    clear hc hc'
    obtain ⟨P, hP⟩ : ∃ P, f j = P := ⟨_, rfl⟩
    obtain ⟨Q, hQ⟩ : ∃ Q, g j = Q := ⟨_, rfl⟩
    rw [hP] at p0 p1 p2 p3 p4 p5 p6
    rw [hQ] at q0 q1 q2 q3 q4 q5 q6
    have HPQ : Hid (f j = P ∧ g j = Q) := Lib.hid ⟨hP, hQ⟩
    clear hP hQ
    obtain ⟨x0, x1, x2, x3, x4, x5, x6⟩ := P
    obtain ⟨y0, y1, y2, y3, y4, y5, y6⟩ := Q
    simp only at p0 p1 p2 p3 p4 p5 p6 q0 q1 q2 q3 q4 q5 q6
    by_cases n0 : x0 = y0
    · subst n0
      by_cases n1 : x1 = y1
      · subst n1
        by_cases n2 : x2 = y2
        · subst n2
          by_cases n3 : x3 = y3
          · subst n3
            by_cases n4 : x4 = y4
            · subst n4
              by_cases n5 : x5 = y5
              · subst n5
                by_cases n6 : x6 = y6
                · subst n6
                  go_wp2_with fail
                  go_quiet (fail)
                  go_wp2_with fail
                  have hjk : j ≠ k := fun e => HE.out (by rw [← e, HPQ.out.1, HPQ.out.2])
                  exact ⟨⟨j + 1, by omega, by go_num, Below_dn hB _⟩, by simp [intOf]; omega⟩
                · have m6 : (x6 == y6) = false := by simpa using n6
                  go_wp2_with fail
                  go_quiet (fail)
                  go_wp2_with fail
                  go_ret
                  exact ⟨rfl, Below_dn hB _⟩
              · have m5 : (x5 == y5) = false := by simpa using n5
                go_wp2_with fail
                go_quiet (fail)
                go_wp2_with fail
                go_ret
                exact ⟨rfl, Below_dn hB _⟩
            · have m4 : (x4 == y4) = false := by simpa using n4
              go_wp2_with fail
              go_quiet (fail)
              go_wp2_with fail
              go_ret
              exact ⟨rfl, Below_dn hB _⟩
          · have m3 : (x3 == y3) = false := by simpa using n3
            go_wp2_with fail
            go_quiet (fail)
            go_wp2_with fail
            go_ret
            exact ⟨rfl, Below_dn hB _⟩
        · have m2 : (x2 == y2) = false := by simpa using n2
          go_wp2_with fail
          go_quiet (fail)
          go_wp2_with fail
          go_ret
          exact ⟨rfl, Below_dn hB _⟩
      · have m1 : (x1 == y1) = false := by simpa using n1
        go_wp2_with fail
        go_quiet (fail)
        go_wp2_with fail
        go_ret
        exact ⟨rfl, Below_dn hB _⟩
    · have m0 : (x0 == y0) = false := by simpa using n0
      go_wp2_with fail
      go_quiet (fail)
      go_wp2_with fail
      go_ret
      exact ⟨rfl, Below_dn hB _⟩
end Go.Proofs.YtcfplkbbgjiocaaDoor
