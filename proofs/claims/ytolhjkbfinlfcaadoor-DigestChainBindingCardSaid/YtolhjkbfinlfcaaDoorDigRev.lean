/- Lists of strings that a call hands back; a list reversed in place; (side).join. Conditions: strings of at most 4000 bytes; the table holds its words. -/
import Derived.Test.YtolhjkbfinlfcaaDoorDigRoot
import Derived.Laws.IdiomCopy
import Derived.Lib.RowBridge
namespace Go.Proofs.YtolhjkbfinlfcaaDoor
open Go Go.RowKit
def getS (L : List ByteArray) (j : Nat) : ByteArray := L.getD j ⟨#[]⟩
/-- The list is returned, and an error. -/
def RetStrs (L : List ByteArray) (er : Int) (e : Ending) (w' : World) : Prop :=
  ∃ (p : Option Addr) (m c : Nat), e = .returned (.tuple #[.slice p m c, .int .i64 er]) ∧ m = L.length ∧ ReadsS w' p m (getS L) ∧ m ≤ c
theorem Below_setCells {B b : Nat} {w : World} (hb : B ≤ b) : ∀ (vs : List Value) (o : Nat) (W : World), Below B w W → Below B w (W.setCells b o vs)
  | [], _, _, h => h
  | v :: r, o, _, h => Below_setCells hb r (o + 1) _ (Below_set' h hb v)
theorem own_readsS {W : World} {base : Nat} {v : Value} {L : List ByteArray} (h : W.ownsRow base 9 1 v L.length (L.map strV)) : ∃ p c, v = .slice p L.length c ∧ L.length ≤ c ∧ ReadsS W p L.length (getS L) := by
  cases hL : L with
  | nil =>
    rw [hL] at h
    rcases h.2 with ⟨rfl, _⟩ | ⟨g, cap, cur, rfl, _, _, h1, _⟩
    · exact ⟨none, 0, rfl, Nat.le_refl _, fun i hi => by simp at hi⟩
    · exact ⟨_, _, rfl, h1, fun i hi => by simp at hi⟩
  | cons x r =>
    rw [← hL]
    obtain ⟨m, hm⟩ : ∃ m, L.length = m + 1 := ⟨r.length, by rw [hL]; rfl⟩
    rw [hm] at h ⊢
    obtain ⟨g, cap, rfl⟩ := ownsRow_succ h
    refine ⟨_, _, rfl, (own_cap h).1, fun i _ => ⟨g, 0, rfl, fun j hj => ?_⟩⟩
    rw [Nat.zero_add]
    refine own_cell h ?_
    rw [List.getElem?_map, getS, List.getD_eq_getElem?_getD, List.getElem?_eq_getElem (by omega)]
    rfl
theorem strs_rev (L : List ByteArray) : (Lib.strsOf (getS L) L.length).reverse.map Go.Proofs.encStr = L.reverse.map strV := by
  have h : Lib.strsOf (getS L) L.length = L.map (·.data.toList) := by
    apply List.ext_getElem
    · simp [Lib.strsOf]
    · intro i h1 h2
      simp only [Lib.strsOf, List.getElem_map, List.getElem_range]
      have hi : i < L.length := by simpa using h2
      rw [getS, List.getD_eq_getElem?_getD, List.getElem?_eq_getElem hi]
      rfl
  rw [h, ← List.map_reverse, List.map_map]
  rfl
set_option maxHeartbeats 1000000 in
/-- A list of the call's own, reversed. -/
theorem reverse_any (base : Nat) (v : Value) (L : List ByteArray) (w : World) (hn : L.length ≤ 1000) (h : w.ownsRow base 9 1 v L.length (L.map strV)) :
    Calls Tryd.prog 41 #[v] w fun e w' => e = .returned (.tuple #[]) ∧ (∃ p c, v = .slice p L.length c ∧ L.length ≤ c ∧ ReadsS w' p L.length (getS L.reverse)) ∧ Below base w w' := by
  cases hL : L with
  | nil =>
    rw [hL] at h
    obtain ⟨p, c, rfl⟩ := own_nil h
    refine (Tryd.slices_Reverse_string_empty p c w).mono ?_
    rintro e w' ⟨rfl, rfl⟩
    exact ⟨rfl, ⟨p, c, rfl, Nat.zero_le _, fun i hi => by simp at hi⟩, Below.refl _ _⟩
  | cons x r =>
    rw [← hL]
    obtain ⟨m, hm⟩ : ∃ m, L.length = m + 1 := ⟨r.length, by rw [hL]; rfl⟩
    rw [hm] at h hn ⊢
    obtain ⟨g, cap, rfl⟩ := ownsRow_succ h
    have hcell : ∀ i, i < m + 1 → w.cell? ⟨g, i, none⟩ = some (.string (getS L i)) := fun i hi => by
      refine own_cell h ?_
      rw [List.getElem?_map, getS, List.getD_eq_getElem?_getD, List.getElem?_eq_getElem (by omega)]
      rfl
    have hgb : base ≤ g := (h.lt g rfl).1
    have hfr : ∀ i, w.frozen? ⟨g, i, none⟩ = false := fun i => by
      rcases h.2 with ⟨h0, _⟩ | ⟨g', cap', cur, h0, _, h2, _⟩
      · cases h0
      · cases h0
        unfold World.frozen?
        rw [h2]
        simp
    refine (Tryd.slices_Reverse_string_cells g 0 (m + 1) cap (getS L) w (by omega) (fun i hi => by rw [Nat.zero_add]; exact hcell i hi) (fun i _ => by rw [Nat.zero_add]; exact hfr i)).mono ?_
    rintro e w' ⟨rfl, q, rfl⟩
    refine ⟨rfl, ⟨_, _, rfl, (own_cap h).1, fun i _ => ⟨g, 0, rfl, fun j hj => ?_⟩⟩, Below_setCells hgb _ _ _ (Below_dn (Below.refl _ _) q)⟩
    have hl : ((Lib.strsOf (getS L) (m + 1)).reverse.map Go.Proofs.encStr) = L.reverse.map strV := by rw [← hm]; exact strs_rev L
    rw [hl]
    have hlen : (L.reverse.map strV).length = m + 1 := by simp [hm]
    rw [World.cell?_setCells_in g _ 0 (w.drewN q) (fun i hi => by
      rw [hlen] at hi
      rw [Nat.zero_add, show (w.drewN q).cell? ⟨g, i, none⟩ = w.cell? ⟨g, i, none⟩ from rfl, hcell i hi]
      rfl) j (by rw [hlen]; exact hj)]
    rw [List.getElem_map, getS, List.getD_eq_getElem?_getD, List.getElem?_eq_getElem (by simp; omega)]
    rfl
theorem join_any (x : ByteArray) (b : Bool) (part : ByteArray) (w : World) (hx : x.size ≤ 4000) (hp : part.size ≤ 4000) (hT : RoundOk w) :
    Calls Tryd.prog 48 #[.agg #[.string x, .bool b], .string part] w fun e w' => e = .returned (.string (if b = true then nodeS x part else nodeS part x)) ∧ Below w.heap.size w w' := by
  have hal : Below w.heap.size w (w.alloc (.cells #[.string x, .bool b] 58)) := (Below.refl _ _).alloc (Nat.le_refl _) _
  have HAL := Lib.hid hal
  cases b with
  | true =>
    have HN := Lib.hid (node_any x part _ hx hp (hT.below hal))
    clear hal hT
    go_enter Tryd.func48, Tryd.ntmps48
    go_wp2_with fail
    refine HN.out.mono ?_
    rintro e w2 ⟨rfl, hb⟩
    go_wp2_with fail
    go_ret
    exact ⟨rfl, HAL.out.trans (hb.mono HAL.out.size)⟩
  | false =>
    have HN := Lib.hid (node_any part x _ hp hx (hT.below hal))
    clear hal hT
    go_enter Tryd.func48, Tryd.ntmps48
    go_wp2_with fail
    refine HN.out.mono ?_
    rintro e w2 ⟨rfl, hb⟩
    go_wp2_with fail
    go_ret
    exact ⟨rfl, HAL.out.trans (hb.mono HAL.out.size)⟩
end Go.Proofs.YtolhjkbfinlfcaaDoor
