/- Chapter 27: what the functions answer is one; numbers. Conditions: those of the theorems. -/
import Derived.Test.YtcfplkbbgjiocaaDoorRefClose
import Derived.Test.YtcfplkbbgjiocaaDoorBookDispute
import Derived.ChangeKeysEq
namespace Go.Proofs.YtcfplkbbgjiocaaDoor
open Go Go.RowKit Go.Shelf
/-- What a posting books for a team. -/
def eff (p : Pst) (team : Int) : Int := (if p.cre = team then p.amt else 0) - (if p.deb = team then p.amt else 0)
def balF (g : Nat → Pst) (month team : Int) : Nat → Int
  | 0 => 0
  | k + 1 => balF g month team k + if (g k).day / 30 = month then eff (g k) team else 0
theorem eff_bd {p : Pst} {top team : Int} (h : Formed p top) : -1000000000 ≤ eff p team ∧ eff p team ≤ 1000000000 := by
  have := h.2.2.2.2.1
  unfold within at this
  unfold eff
  split <;> split <;> omega
theorem balF_bd {g : Nat → Pst} {month team top : Int} : ∀ k, (∀ i, i < k → Formed (g i) top) → -(k * 1000000000 : Int) ≤ balF g month team k ∧ balF g month team k ≤ (k * 1000000000 : Int)
  | 0, _ => by simp [balF]
  | k + 1, h => by
    have h1 := balF_bd (month := month) (team := team) k (fun i hi => h i (by omega))
    have h2 := eff_bd (team := team) (h k (by omega))
    unfold balF
    split <;> omega
def BalGood (teams closed : Int) (n : Nat) (g : Nat → Pst) (team month : Int) : Prop := BookOk teams closed n g ∧ within team 0 (teams - 1) ∧ within month 0 11
/-- What Balance answers. -/
def BalSpec (teams closed : Int) (n : Nat) (g : Nat → Pst) (team month : Int) (x er : Int) : Prop :=
  (BalGood teams closed n g team month ∧ er = 0 ∧ x = balF g month team n) ∨ (¬ BalGood teams closed n g team month ∧ er = 270 ∧ x = 0)
end Go.Proofs.YtcfplkbbgjiocaaDoor
namespace Go.Proofs.YtcfplkbbgjiocaaDoor
open Go Go.RowKit Go.Shelf
/-- Integers that can be read. -/
def ReadsI (W : World) (p : Option Addr) (n : Nat) (f : Nat → Int) : Prop :=
  ∀ i, i < n → ∃ b off, p = some ⟨b, off, none⟩ ∧ ∀ j, j < n → W.cell? ⟨b, off + j, none⟩ = some (.int .i64 (f j))
theorem ReadsI.below {W W' : World} {p : Option Addr} {n : Nat} {f : Nat → Int} (h : ReadsI W p n f) (hb : Below W.heap.size W W') : ReadsI W' p n f := fun i hi => by
  obtain ⟨b, off, hp, hc⟩ := h i hi
  exact ⟨b, off, hp, fun j hj => (hb.cell (p := ⟨b, off + j, none⟩) (cell_lt (hc j hj))).trans (hc j hj)⟩
theorem own_readsI {W : World} {base n : Nat} {v : Value} {f : Nat → Int} (h : W.ownsRow base 3 1 v n ((List.range n).map fun i => Value.int .i64 (f i))) : ∃ p c, v = .slice p n c ∧ ReadsI W p n f ∧ (∀ a, p = some a → base ≤ a.block) := by
  have hn : v = .slice none 0 0 ∧ n = 0 ∨ ∃ G cap, v = .slice (some ⟨G, 0, none⟩) n cap := by
    rcases h.2 with ⟨h1, h2⟩ | ⟨G, cap, cur, h1, _⟩
    · exact .inl ⟨h1, h2⟩
    · exact .inr ⟨G, cap, h1⟩
  rcases hn with ⟨rfl, rfl⟩ | ⟨G, cap, rfl⟩
  · exact ⟨none, 0, rfl, fun i hi => by omega, nofun⟩
  · refine ⟨_, cap, rfl, fun i hi => ⟨G, 0, rfl, fun j hj => ?_⟩, fun a ha => ?_⟩
    · rw [Nat.zero_add, h.cellAt j (by omega)]
      simp [hj]
    · cases ha
      exact (h.lt G rfl).1
theorem infoInt : ∃ i : TypeInfo, Tryd.prog.info? 3 = some i ∧ i.zero = some (.int .i64 0) ∧ i.size = 1 ∧ i.bytes = 8 := by
  have h : (Tryd.prog.info? 3).map (fun i => (i.zero, i.size, i.bytes)) = some (some (.int .i64 0), 1, 8) := by kernel_rfl
  cases hi : Tryd.prog.info? 3 with
  | none => rw [hi] at h; cases h
  | some i =>
    rw [hi] at h
    simp at h
    exact ⟨i, rfl, h.1, h.2.1, h.2.2⟩
def StatGood (teams closed : Int) (n : Nat) (g : Nat → Pst) (month : Int) : Prop := BookOk teams closed n g ∧ within month 0 11
/-- What Statement answers. -/
def StatSpec (teams closed : Int) (n : Nat) (g : Nat → Pst) (month : Int) (k : Nat) (f : Nat → Int) (er : Int) : Prop :=
  (StatGood teams closed n g month ∧ er = 0 ∧ (k : Int) = teams ∧ ∀ i, i < k → f i = balF g month i n) ∨ (¬ StatGood teams closed n g month ∧ er = 270 ∧ k = 0)
/-- A call that answers numbers and an error. -/
def IsInts (w : World) (Spec : Nat → (Nat → Int) → Int → Prop) (e : Ending) (w' : World) : Prop :=
  ∃ (p : Option Addr) (k kc : Nat) (f : Nat → Int) (er : Int), e = .returned (.tuple #[.slice p k kc, .int .i64 er]) ∧ Spec k f er ∧ ReadsI w' p k f ∧ (∀ a, p = some a → w.heap.size ≤ a.block) ∧ Below w.heap.size w w'
end Go.Proofs.YtcfplkbbgjiocaaDoor
namespace Go.Proofs.YtcfplkbbgjiocaaDoor
open Go Go.RowKit Go.Shelf
theorem PostSpec.unique {teams closed : Int} {n : Nat} {g : Nat → Pst} {p : Pst} {t c t' c' : Int} {k k' : Nat} {f f' : Nat → Pst} {i e i' e' : Int} (h : PostSpec teams closed n g p t c k f i e) (h' : PostSpec teams closed n g p t' c' k' f' i' e') :
    e = e' ∧ i = i' ∧ k = k' ∧ t = t' ∧ c = c' ∧ ∀ j, j < k → f j = f' j := by
  rcases h with ⟨a, rfl, rfl, rfl, rfl, rfl, hf⟩ | ⟨a, rfl, rfl, rfl, rfl, rfl⟩
  · rcases h' with ⟨_, rfl, rfl, rfl, rfl, rfl, hf'⟩ | ⟨b, _⟩
    · exact ⟨rfl, rfl, rfl, rfl, rfl, fun j hj => by rw [hf j hj, hf' j hj]⟩
    · exact absurd a b
  · rcases h' with ⟨b, _⟩ | ⟨_, rfl, rfl, rfl, rfl, rfl⟩
    · exact absurd b a
    · exact ⟨rfl, rfl, rfl, rfl, rfl, fun j hj => by omega⟩
theorem CloseSpec.unique {teams closed month : Int} {n : Nat} {g : Nat → Pst} {t c t' c' : Int} {k k' : Nat} {f f' : Nat → Pst} {e e' : Int} (h : CloseSpec teams closed n g month t c k f e) (h' : CloseSpec teams closed n g month t' c' k' f' e') :
    e = e' ∧ k = k' ∧ t = t' ∧ c = c' ∧ ∀ j, j < k → f j = f' j := by
  rcases h with ⟨a, rfl, rfl, rfl, rfl, hf⟩ | ⟨a, rfl, rfl, rfl, rfl⟩
  · rcases h' with ⟨_, rfl, rfl, rfl, rfl, hf'⟩ | ⟨b, _⟩
    · exact ⟨rfl, rfl, rfl, rfl, fun j hj => by rw [hf j hj, hf' j hj]⟩
    · exact absurd a b
  · rcases h' with ⟨b, _⟩ | ⟨_, rfl, rfl, rfl, rfl⟩
    · exact absurd b a
    · exact ⟨rfl, rfl, rfl, rfl, fun j hj => by omega⟩
theorem DispSpec.unique {teams closed i day amount : Int} {n : Nat} {g : Nat → Pst} {t c t' c' : Int} {k k' : Nat} {f f' : Nat → Pst} {e e' : Int} (h : DispSpec teams closed n g i day amount t c k f e) (h' : DispSpec teams closed n g i day amount t' c' k' f' e') :
    e = e' ∧ k = k' ∧ t = t' ∧ c = c' ∧ ∀ j, j < k → f j = f' j := by
  rcases h with ⟨a, rfl, rfl, rfl, h1, h2⟩ | ⟨a, rfl, rfl, rfl, rfl⟩
  · rcases h' with ⟨_, rfl, rfl, rfl, h1', h2'⟩ | ⟨b, _⟩
    · by_cases hp : 0 < amount
      · obtain ⟨rfl, hf⟩ := h1 hp
        obtain ⟨rfl, hf'⟩ := h1' hp
        exact ⟨rfl, rfl, rfl, rfl, fun j hj => by rw [hf j hj, hf' j hj]⟩
      · obtain ⟨rfl, hf⟩ := h2 hp
        obtain ⟨rfl, hf'⟩ := h2' hp
        exact ⟨rfl, rfl, rfl, rfl, fun j hj => by rw [hf j hj, hf' j hj]⟩
    · exact absurd a b
  · rcases h' with ⟨b, _⟩ | ⟨_, rfl, rfl, rfl, rfl⟩
    · exact absurd b a
    · exact ⟨rfl, rfl, rfl, rfl, fun j hj => by omega⟩
theorem BalSpec.unique {teams closed team month : Int} {n : Nat} {g : Nat → Pst} {x e x' e' : Int} (h : BalSpec teams closed n g team month x e) (h' : BalSpec teams closed n g team month x' e') : e = e' ∧ x = x' := by
  rcases h with ⟨a, rfl, rfl⟩ | ⟨a, rfl, rfl⟩
  · rcases h' with ⟨_, rfl, rfl⟩ | ⟨b, _⟩
    · exact ⟨rfl, rfl⟩
    · exact absurd a b
  · rcases h' with ⟨b, _⟩ | ⟨_, rfl, rfl⟩
    · exact absurd b a
    · exact ⟨rfl, rfl⟩
theorem StatSpec.unique {teams closed month : Int} {n : Nat} {g : Nat → Pst} {k k' : Nat} {f f' : Nat → Int} {e e' : Int} (h : StatSpec teams closed n g month k f e) (h' : StatSpec teams closed n g month k' f' e') : e = e' ∧ k = k' ∧ ∀ j, j < k → f j = f' j := by
  rcases h with ⟨a, rfl, hk, hf⟩ | ⟨a, rfl, rfl⟩
  · rcases h' with ⟨_, rfl, hk', hf'⟩ | ⟨b, _⟩
    · obtain rfl : k = k' := by omega
      exact ⟨rfl, rfl, fun j hj => by rw [hf j hj, hf' j hj]⟩
    · exact absurd a b
  · rcases h' with ⟨b, _⟩ | ⟨_, rfl, rfl⟩
    · exact absurd b a
    · exact ⟨rfl, rfl, fun j hj => by omega⟩
end Go.Proofs.YtcfplkbbgjiocaaDoor
namespace Go.Proofs.YtcfplkbbgjiocaaDoor
open Go Go.RowKit Go.Shelf
/-- Four numbers in a block that may be written. -/
def ABox (W : World) (G : Nat) (f : Nat → Int) : Prop := ∃ (cs : Array Value) (t : TypeId), W.heap[G]? = some (.cells cs t (0, 0)) ∧ ∀ i, i < 4 → cs[i]? = some (.int .i64 (f i))
section
variable {W W' : World} {G : Nat} {f : Nat → Int}
theorem ABox.lt (h : ABox W G f) : G < W.heap.size := by
  obtain ⟨cs, t, h, _⟩ := h
  exact (Array.getElem?_eq_some_iff.1 h).1
theorem ABox.cell (h : ABox W G f) (i : Nat) (hi : i < 4) : W.cell? ⟨G, i, none⟩ = some (.int .i64 (f i)) := by
  obtain ⟨cs, t, h, hc⟩ := h
  unfold World.cell?
  simp only [h]
  exact hc i hi
theorem ABox.free (h : ABox W G f) (i : Nat) : W.frozen? ⟨G, i, none⟩ = false := by
  obtain ⟨cs, t, h, _⟩ := h
  unfold World.frozen?
  rw [h]
  simp
theorem ABox.below (h : ABox W G f) (hb : Below W.heap.size W W') : ABox W' G f := by
  have hl := h.lt
  obtain ⟨cs, t, h, hc⟩ := h
  exact ⟨cs, t, (hb.block _ hl).trans h, hc⟩
theorem ABox.drew (h : ABox W G f) : ABox W.drew G f := h
theorem ABox.set (h : ABox W G f) (j : Nat) (hj : j < 4) (x : Int) : ABox (W.setCell ⟨G, j, none⟩ (.int .i64 x)) G (fun i => if i = j then x else f i) := by
  obtain ⟨cs, t, h, hc⟩ := h
  have hl := (Array.getElem?_eq_some_iff.1 (hc j hj)).1
  refine ⟨_, t, heap_set h _, fun i hi => ?_⟩
  by_cases e : i = j
  · subst e
    rw [Array.getElem?_setIfInBounds_self_of_lt hl]
    simp
  · rw [Array.getElem?_setIfInBounds_ne (by omega), hc i hi]
    simp [e]
theorem ABox.congr {f' : Nat → Int} (h : ABox W G f) (e : ∀ i, i < 4 → f' i = f i) : ABox W G f' := by
  obtain ⟨cs, t, h, hc⟩ := h
  exact ⟨cs, t, h, fun i hi => by rw [hc i hi, e i hi]⟩
end
set_option maxRecDepth 100000 in
set_option maxHeartbeats 4000000 in
theorem add_any (G : Nat) (f : Nat → Int) (p : Pst) (c d : Nat) (w : World) (hA : ABox w G f) (hc : p.cre = (c : Int)) (hd : p.deb = (d : Int)) (hc4 : c < 4) (hd4 : d < 4) (hcd : c ≠ d) (hf : ∀ i, i < 4 → -300000000000 ≤ f i ∧ f i ≤ 300000000000) (ha : 0 ≤ p.amt ∧ p.amt ≤ 1000000000) :
    Calls Tryd.prog 44 #[.pointer (some ⟨G, 0, none⟩), .agg p.cells] w fun e w' => (∃ v, e = .returned v) ∧ ABox w' G (fun i => f i + eff p i) ∧ Below G w w' ∧ (∀ b, b < w.heap.size → b ≠ G → w'.heap[b]? = w.heap[b]?) := by
  have hGl := hA.lt
  have hal : Below w.heap.size w (w.alloc (.cells p.cells 27)) := (Below.refl _ _).alloc (Nat.le_refl _) _
  have hA1 := hA.below hal
  have hp1 := PCells.new w p 27
  obtain ⟨P, hP⟩ : ∃ P, w.heap.size = P := ⟨_, rfl⟩
  have HP := Lib.hid hP
  obtain ⟨w1, hw1⟩ : ∃ w1, w.alloc (.cells p.cells 27) = w1 := ⟨_, rfl⟩
  have HW1 := Lib.hid hw1
  rw [hw1] at hal hA1 hp1
  rw [hP] at hp1 hGl
  obtain ⟨q0, q1, q2, q3, q4, q5, q6⟩ := hp1
  rw [hc] at q3
  rw [hd] at q2
  have HA1 := Lib.hid hA1
  have HAL := Lib.hid hal
  have x1 := hA1.cell c hc4
  have x2 := hA1.free c
  have v0 : (0 : Int) ≤ (c : Int) := by omega
  have v1 : (c : Int) < 4 := by omega
  have v2 : (0 : Int) ≤ (d : Int) := by omega
  have v3 : (d : Int) < 4 := by omega
  have hfc := hf c hc4
  have hfd := hf d hd4
  have HEF : Hid (∀ i : Nat, eff p i = (if i = c then p.amt else 0) - (if i = d then p.amt else 0)) := Lib.hid (fun i => by
    unfold eff
    rw [hc, hd]
    by_cases e1 : i = c <;> by_cases e2 : i = d
    · omega
    · rw [if_pos (by omega), if_neg (by omega), if_pos e1, if_neg e2]
    · rw [if_neg (by omega), if_pos (by omega), if_neg e1, if_pos e2]
    · rw [if_neg (by omega), if_neg (by omega), if_neg e1, if_neg e2])
  obtain ⟨a, hae⟩ : ∃ a, p.amt = a := ⟨_, rfl⟩
  rw [hae] at q4 ha HEF
  obtain ⟨y, hy⟩ : ∃ y, f c = y := ⟨_, rfl⟩
  obtain ⟨z, hz⟩ : ∃ z, f d = z := ⟨_, rfl⟩
  have HY := Lib.hid hy
  have HZ := Lib.hid hz
  rw [hy] at x1 hfc
  rw [hz] at hfd
  obtain ⟨ha1, ha2⟩ := ha
  obtain ⟨hfc1, hfc2⟩ := hfc
  obtain ⟨hfd1, hfd2⟩ := hfd
  clear hA hal hA1 hw1 hP hf hae hy hz hc hd
  go_enter Tryd.func44, Tryd.ntmps44
  go_upto_region 1 with fail
  rw [HW1.out, HP.out]
  clear HW1
  go_region
  all_goals (try go_wp2_with fail)
  have hPG : G ≠ P := by have := HA1.out.lt; omega
  have k : ∀ o, (w1.setCell ⟨G, c, none⟩ (.int .i64 (y + a))).drew.cell? ⟨P, o, none⟩ = w1.cell? ⟨P, o, none⟩ := fun o => World.cell?_setCell_far w1 ⟨G, c, none⟩ ⟨P, o, none⟩ _ hPG
  have r2 := (k _).trans q2
  have r4 := (k _).trans q4
  have hA2 := (HA1.out.set c hc4 (y + a)).drew
  have HK2 : Hid (∀ b, b < w.heap.size → b ≠ G → (w1.setCell ⟨G, c, none⟩ (.int .i64 (y + a))).drew.heap[b]? = w.heap[b]?) := Lib.hid (fun b hb hne => (Below.heap_setCell _ _ _ b hne).trans (HAL.out.block b hb))
  have HB2 : Hid (Below G w (w1.setCell ⟨G, c, none⟩ (.int .i64 (y + a))).drew) := Lib.hid (Below_set (HAL.out.mono (by have := HP.out; omega)) (b := G) (i := c) (Nat.le_refl G) (.int .i64 (y + a))).drew
  obtain ⟨w2, hw2⟩ : ∃ w2, (w1.setCell ⟨G, c, none⟩ (.int .i64 (y + a))).drew = w2 := ⟨_, rfl⟩
  rw [hw2] at r2 r4 hA2 HK2 HB2 ⊢
  have x3 := hA2.cell d hd4
  have x4 := hA2.free d
  rw [if_neg (fun e => hcd e.symm), HZ.out] at x3
  have HA2 := Lib.hid hA2
  clear hw2 k hA2 x1 x2 q0 q1 q2 q3 q4 q5 q6
  go_region
  all_goals (try go_wp2_with fail)
  have hA3 : ABox (w2.setCell ⟨G, d, none⟩ (.int .i64 (z - a))).drew G (fun i => f i + eff p i) := (HA2.out.set d hd4 (z - a)).drew.congr (fun i hi => by
    rw [HEF.out i]
    by_cases e1 : i = d
    · rw [if_pos e1, if_pos e1, if_neg (by omega), e1, HZ.out]
      omega
    · rw [if_neg e1, if_neg e1]
      by_cases e2 : i = c
      · rw [if_pos e2, if_pos e2, e2, HY.out]
        omega
      · rw [if_neg e2, if_neg e2]
        omega)
  have HA3 := Lib.hid hA3
  clear hA3
  refine bodyPost_end (v := .tuple #[]) (by simp [results, Tryd.results44, go_sem]) rfl ?_
  exact ⟨⟨_, rfl⟩, HA3.out, (Below_set HB2.out (b := G) (i := d) (Nat.le_refl G) (.int .i64 (z - a))).drew, fun b hb hne => (Below.heap_setCell _ _ _ b hne).trans (HK2.out b hb hne)⟩
end Go.Proofs.YtcfplkbbgjiocaaDoor
namespace Go.Proofs.YtcfplkbbgjiocaaDoor
open Go Go.RowKit Go.Shelf
def pickN (c : Int) (n : Nat) : Nat := ((if c < 0 then -(c + 1) else c) % (n : Int)).toNat
theorem pickN_lt (c : Int) {n : Nat} (hn : 0 < n) : pickN c n < n := by
  unfold pickN
  have h1 := Int.emod_nonneg (if c < 0 then -(c + 1) else c) (show (n : Int) ≠ 0 by omega)
  have h2 := Int.emod_lt_of_pos (if c < 0 then -(c + 1) else c) (show 0 < (n : Int) by omega)
  omega
theorem pickN_int (c : Int) {n : Nat} (hn : 0 < n) : ((pickN c n : Nat) : Int) = (if c < 0 then -(c + 1) else c) % (n : Int) := by
  unfold pickN
  have h1 := Int.emod_nonneg (if c < 0 then -(c + 1) else c) (show (n : Int) ≠ 0 by omega)
  omega
set_option maxHeartbeats 400000 in
theorem ref_pick_any (c m : Int) (n : Nat) (w : World) (hm : (n : Int) = m) (hc : -9223372036854775808 ≤ c) (hc2 : c ≤ 9223372036854775807) (hn : 0 < n) (hn2 : n ≤ 9223372036854775807) :
    Calls Tryd.prog 29 #[.int .i64 c, .int .i64 m] w fun e w' => e = .returned (.int .i64 (pickN c n : Nat)) ∧ w = w' := by
  subst hm
  by_cases h : c < 0
  · have hp : -((c + 1).tmod n) = ((pickN c n : Nat) : Int) := by
      rw [pickN_int c hn, if_pos h, ← Int.neg_tmod, Int.tmod_eq_emod_of_nonneg (by omega)]
    have HP := Lib.hid hp
    clear hp
    go_enter Tryd.func29, Tryd.ntmps29
    go_wp2
    go_ret
    exact ⟨by rw [← HP.out]; rfl, rfl⟩
  · have hp : c % n = ((pickN c n : Nat) : Int) := by rw [pickN_int c hn, if_neg h]
    have HP := Lib.hid hp
    clear hp
    go_enter Tryd.func29, Tryd.ntmps29
    go_wp2
    go_ret
    exact ⟨by rw [← HP.out]; rfl, rfl⟩
theorem ints_yes (p q : Option Addr) (n m c d : Nat) (f g : Nat → Int) (w : World) (hn : n ≤ 1000) (hmn : n = m) (hp : ReadsI w p n f) (hq : ReadsI w q n g) (h : ∀ i, i < n → f i = g i) :
    Calls Tryd.prog 23 #[.slice p n c, .slice q m d] w fun e w' => e = .returned (.bool true) ∧ Below w.heap.size w w' := by
  subst hmn
  have HP := Lib.hid hp
  have HQ := Lib.hid hq
  have HH := Lib.hid h
  clear hp hq h
  go_enter Tryd.func23, Tryd.ntmps23
  go_wp2_with fail
  go_loopw [5] (fun i wr => ∃ k : Nat, k ≤ n ∧ i = .int .i64 k ∧ Below w.heap.size w wr) (fun i _ => n - (intOf i).toNat)
  case atStart => exact ⟨0, by omega, rfl, Below.refl _ _⟩
  case round =>
    obtain ⟨k, hk, rfl, hB⟩ := hrel
    by_cases hlt : k < n
    · obtain ⟨b, off, rfl, hc⟩ := HP.out.below hB k hlt
      obtain ⟨b', off', rfl, hc'⟩ := HQ.out.below hB k hlt
      have c1 := hc k hlt
      have c2 := hc' k hlt
      rw [← HH.out k hlt] at c2
      have k0 : (0 : Int) ≤ (k : Int) := by omega
      have k1 : (k : Int) < (n : Int) := by omega
      clear hc hc'
      go_wp2_with fail
      go_quiet (fail)
      go_wp2
      exact ⟨⟨k + 1, by omega, by go_num, Below_drewN' hB _⟩, by simp [intOf]; omega⟩
    · obtain rfl : k = n := by omega
      go_wp2
      go_ret
      exact ⟨rfl, hB⟩
end Go.Proofs.YtcfplkbbgjiocaaDoor
namespace Go.Proofs.YtcfplkbbgjiocaaDoor
open Go Go.RowKit Go.Shelf
theorem eq4 (x0 x1 x2 x3 : Int) (W : World) : (Op.equalIn 10000 85 (.agg #[.int .i64 x0, .int .i64 x1, .int .i64 x2, .int .i64 x3]) (.agg #[.int .i64 0, .int .i64 0, .int .i64 0, .int .i64 0])).run Tryd.prog W = .ok (decide (x0 = 0 ∧ x1 = 0 ∧ x2 = 0 ∧ x3 = 0)) W := by
  obtain ⟨i0, hi0, hj0, hj1, hj2⟩ := infoInt
  have hc : Tryd.prog.cellsOf 3 = 1 := by kernel_rfl
  have hs : ∀ w, (sizeOf 3).run Tryd.prog w = .ok 1 w := fun w => by simp [sizeOf, typeInfo, hi0, hj1]
  have hu := Tryd.underlying3
  rw [run_equalIn_array (P := Tryd.prog) W 9999 _ _ Tryd.underlying85 hi0, hc]
  simp only [show List.range 4 = [0, 1, 2, 3] from rfl, Op.eqItems]
  by_cases h0 : x0 = 0
  · by_cases h1 : x1 = 0
    · by_cases h2 : x2 = 0
      · by_cases h3 : x3 = 0 <;> simp [part, hs, run_equalIn_int, hu, h0, h1, h2, h3]
      · simp [part, hs, run_equalIn_int, hu, h0, h1, h2]
    · simp [part, hs, run_equalIn_int, hu, h0, h1]
  · simp [part, hs, run_equalIn_int, hu, h0]
/-- The block of a slice may be written. -/
def FreeAt (W : World) (p : Option Addr) : Prop := ∀ a, p = some a → ∃ (cs : Array Value) (t : TypeId), W.heap[a.block]? = some (.cells cs t (0, 0))
theorem FreeAt.below {W W' : World} {p : Option Addr} (h : FreeAt W p) (hb : Below W.heap.size W W') : FreeAt W' p := fun a ha => by
  obtain ⟨cs, t, hc⟩ := h a ha
  exact ⟨cs, t, (hb.block a.block (Array.getElem?_eq_some_iff.1 hc).1).trans hc⟩
theorem FreeAt.put {W : World} {p : Option Addr} {D : Nat} {o : Obj} (h : FreeAt W p) (hp : ∀ a, p = some a → D < a.block) : FreeAt (W.putObj D o) p := fun a ha => by
  obtain ⟨cs, t, hc⟩ := h a ha
  have := hp a ha
  exact ⟨cs, t, (World.putObj_heap_other (by omega)).trans hc⟩
theorem own_freeI {W : World} {base e size n : Nat} {p : Option Addr} {c : Nat} {xs : List Value} (h : W.ownsRow base e size (.slice p n c) n xs) : FreeAt W p := fun a ha => by
  rcases h.2 with ⟨h1, _⟩ | ⟨G, cap, cur, h1, _, h2, _⟩
  · cases h1
    cases ha
  · cases h1
    cases ha
    exact ⟨cur, e, h2⟩
set_option maxRecDepth 100000 in
set_option maxHeartbeats 4000000 in
theorem list_any (f : Nat → Int) (tn : Nat) (w : World) (h1 : 1 ≤ tn) (h4 : tn ≤ 4) :
    Calls Tryd.prog 45 #[.agg #[.int .i64 (f 0), .int .i64 (f 1), .int .i64 (f 2), .int .i64 (f 3)], .int .i64 (tn : Int)] w fun e w' => ∃ (p : Option Addr) (c : Nat), e = .returned (.slice p tn c) ∧ ReadsI w' p tn f ∧ (∀ a, p = some a → w.heap.size ≤ a.block) ∧ FreeAt w' p ∧ Below w.heap.size w w' := by
  obtain ⟨i0, hi0, hj0, hj1, hj2⟩ := infoInt
  obtain ⟨x0, hx0⟩ : ∃ x, f 0 = x := ⟨_, rfl⟩
  obtain ⟨x1, hx1⟩ : ∃ x, f 1 = x := ⟨_, rfl⟩
  obtain ⟨x2, hx2⟩ : ∃ x, f 2 = x := ⟨_, rfl⟩
  obtain ⟨x3, hx3⟩ : ∃ x, f 3 = x := ⟨_, rfl⟩
  have HF : Hid (∀ i, i < 4 → f i = if i = 0 then x0 else if i = 1 then x1 else if i = 2 then x2 else x3) := Lib.hid (fun i hi => by
    rcases (show i = 0 ∨ i = 1 ∨ i = 2 ∨ i = 3 by omega) with rfl | rfl | rfl | rfl <;> simp [hx0, hx1, hx2, hx3])
  rw [hx0, hx1, hx2, hx3]
  clear hx0 hx1 hx2 hx3
  have v0 : (0 : Int) ≤ (tn : Int) := by omega
  have v1 : (tn : Int) ≤ 4 := by omega
  have hq := eq4 x0 x1 x2 x3
  by_cases hz : x0 = 0 ∧ x1 = 0 ∧ x2 = 0 ∧ x3 = 0
  · have HZ := Lib.hid hz
    have d1 : decide (x0 = 0 ∧ x1 = 0 ∧ x2 = 0 ∧ x3 = 0) = true := decide_eq_true hz
    rw [d1] at hq
    clear hz d1
    have hmk := fun W : World => run_make (P := Tryd.prog) W 46 3 i0 (.int .i64 0) Tryd.underlying46 hi0 hj0 .i64 .i64 (tn : Int) (tn : Int) (by omega) (by omega) (by rw [hj2]; omega) (by omega)
    simp only [Int.toNat_natCast, hj1] at hmk
    go_enter Tryd.func45, Tryd.ntmps45
    go_wp2_with fail
    go_ret
    refine ⟨_, tn, rfl, fun i hi => ⟨_, 0, rfl, fun j hj => ?_⟩, fun a h => ?_, fun a h => ?_, ?_⟩
    · have e : f j = 0 := by
        rw [HF.out j (by omega), HZ.out.1, HZ.out.2.1, HZ.out.2.2.1, HZ.out.2.2.2]
        simp
      have h := World.alloc_heap_new (w.alloc (.cells #[.int .i64 x0, .int .i64 x1, .int .i64 x2, .int .i64 x3] 85)) (.cells (madeCells #[Value.int .i64 0] tn) 3)
      have hm : (madeCells #[Value.int .i64 0] tn).toList = List.replicate tn (.int .i64 0) := by
        have := made_one (.int .i64 0) rfl tn
        rw [Nat.mul_one] at this
        exact this
      rw [World.size_alloc] at h
      rw [e, Nat.zero_add]
      unfold World.cell?
      rw [h]
      show (madeCells #[Value.int .i64 0] tn)[j]? = _
      rw [← Array.getElem?_toList, hm, List.getElem?_replicate, if_pos hj]
    · cases h
      show w.heap.size ≤ _
      simp
    · cases h
      have h := World.alloc_heap_new (w.alloc (.cells #[.int .i64 x0, .int .i64 x1, .int .i64 x2, .int .i64 x3] 85)) (.cells (madeCells #[Value.int .i64 0] tn) 3)
      rw [World.size_alloc] at h
      exact ⟨_, _, h⟩
    · exact ((Below.refl _ _).alloc (Nat.le_refl _) _).alloc (by simp) _
  · have d1 : decide (x0 = 0 ∧ x1 = 0 ∧ x2 = 0 ∧ x3 = 0) = false := decide_eq_false hz
    rw [d1] at hq
    clear hz d1
    go_enter Tryd.func45, Tryd.ntmps45
    have hown : ((w.alloc (.cells #[.int .i64 x0, .int .i64 x1, .int .i64 x2, .int .i64 x3] 85)).alloc (.cells #[] 3)).ownsRow w.heap.size 3 1 (.slice (some ⟨w.heap.size + 1, 0, none⟩) 0 0) 0 [] := by
      have h := World.ownsRow_lit (base := w.heap.size) (e := 3) (size := 1) (w.alloc (.cells #[.int .i64 x0, .int .i64 x1, .int .i64 x2, .int .i64 x3] 85)) #[] 0 (by simp) (by decide) rfl
      rw [World.size_alloc] at h
      exact h
    have hB : Below w.heap.size w ((w.alloc (.cells #[.int .i64 x0, .int .i64 x1, .int .i64 x2, .int .i64 x3] 85)).alloc (.cells #[] 3)) := ((Below.refl _ _).alloc (Nat.le_refl _) _).alloc (by simp) _
    have hnw : ∀ j u, ((List.range tn).map fun i => Value.int .i64 (f i))[j]? = some u → ((w.alloc (.cells #[.int .i64 x0, .int .i64 x1, .int .i64 x2, .int .i64 x3] 85)).alloc (.cells #[] 3)).cell? ((⟨w.heap.size, 0, none⟩ : Addr).add j) = some u := fun j u hu => by
      have hj : j < tn := by have := (List.getElem?_eq_some_iff.1 hu).1; simpa using this
      have h := World.alloc_heap_new w (.cells #[.int .i64 x0, .int .i64 x1, .int .i64 x2, .int .i64 x3] 85)
      have hk := (((Below.refl (w.alloc (.cells #[.int .i64 x0, .int .i64 x1, .int .i64 x2, .int .i64 x3] 85)).heap.size _).alloc (Nat.le_refl _) (.cells #[] 3)).block w.heap.size (by rw [World.size_alloc]; omega)).trans h
      rw [addr_add', Nat.zero_add]
      unfold World.cell?
      simp only [hk]
      simp only [List.getElem?_map, List.getElem?_range hj, Option.map_some, Option.some.injEq] at hu
      rw [← hu, HF.out j (by omega)]
      rcases (show j = 0 ∨ j = 1 ∨ j = 2 ∨ j = 3 by omega) with rfl | rfl | rfl | rfl <;> simp
    have hone : ∀ u ∈ ((List.range tn).map fun i => Value.int .i64 (f i)), u.oneCell' = true := fun u hu => by
      obtain ⟨i, _, rfl⟩ := List.mem_map.1 hu
      rfl
    have HOWN := Lib.hid hown
    have HNW := Lib.hid hnw
    have HONE := Lib.hid hone
    have HB := Lib.hid hB
    clear hown hnw hone hB
    go_wp2_with (
      at_builtin
      refine wpList_append_lies (o := ⟨some 13, _, _, _, _, _⟩) _ rfl _ _ 46 rfl w.heap.size 3 i0 (.int .i64 0) 1 8 Tryd.underlying46 hi0 hj0 hj1 hj2 rfl (by decide) (.slice (some ⟨w.heap.size + 1, 0, none⟩) 0 0) 0 [] rfl HOWN.out ⟨w.heap.size, 0, none⟩ tn 4 ((List.range tn).map fun i => Value.int .i64 (f i)) rfl (by simp) HNW.out HONE.out (by omega) (by unfold maxLen; omega) (by omega) (by simp; omega) _ rfl ?_
      intro g2 cp2 w4 hown4 hgrow4 hat4 hlt4
      have hb4 := HB.out.grown hgrow4 (by simp; omega) (fun k e => by simp [Value.ownBlock] at e; omega)
      clear hgrow4 hat4)
    go_ret
    have hown5 : w4.ownsRow w.heap.size 3 1 (.slice (some ⟨g2, 0, none⟩) tn cp2) tn ((List.range tn).map fun i => Value.int .i64 (f i)) := by simpa using hown4
    obtain ⟨pp, cc, he, hrd, hpb⟩ := own_readsI hown5
    cases he
    have hfr := own_freeI hown5
    first | exact ⟨_, _, rfl, hrd, hpb, hfr, hb4⟩ | (simp only [Nat.zero_add]; exact ⟨_, _, rfl, hrd, hpb, hfr, hb4⟩)
end Go.Proofs.YtcfplkbbgjiocaaDoor
