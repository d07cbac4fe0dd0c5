/- The strings that are hashed on a way, and collisions. No program. -/
import Derived.Test.YtolhjkbfinlfcaaDoorDigLaw
namespace Go.Proofs.YtolhjkbfinlfcaaDoor
open Go Go.RowKit
theorem cat_inj {a b c d : ByteArray} (h : a.size = c.size) (e : a ++ b = c ++ d) : a = c ∧ b = d := by
  have e2 : a.data ++ b.data = c.data ++ d.data := by
    have := congrArg ByteArray.data e
    simpa using this
  have h2 := Array.append_inj e2 h
  exact ⟨ByteArray.ext h2.1, ByteArray.ext h2.2⟩
theorem mark_inj {k : UInt8} {a b c d : ByteArray} (h : a.size = c.size) (e : ⟨#[k]⟩ ++ a ++ b = ⟨#[k]⟩ ++ c ++ d) : a = c ∧ b = d := by
  rw [ByteArray.append_assoc, ByteArray.append_assoc] at e
  exact cat_inj h (cat_inj rfl e).2
/-- Two different strings with one digest at one place. -/
def Coll (a b : List ByteArray) : Prop := ∃ j, j < a.length ∧ j < b.length ∧ getS a j ≠ getS b j ∧ dS (getS a j) = dS (getS b j)
theorem coll_head {x y : ByteArray} (a b : List ByteArray) (h : x ≠ y) (e : dS x = dS y) : Coll (x :: a) (y :: b) := ⟨0, by simp, by simp, h, e⟩
theorem coll_cons {a b : List ByteArray} (x y : ByteArray) (h : Coll a b) : Coll (x :: a) (y :: b) := by
  obtain ⟨j, h1, h2, h3, h4⟩ := h
  exact ⟨j + 1, by simpa using h1, by simpa using h2, h3, h4⟩
/-- The strings of which Sum is computed for a proof of which c elements are left, from the root on, and the value. -/
def wayL (s : ByteArray) (P : Nat → ByteArray) : Nat → Nat → Nat → List ByteArray × ByteArray
  | 0, _, _ => ([⟨#[0]⟩ ++ s], leafS s)
  | c + 1, n, i => if n ≤ 1 then ([⟨#[0]⟩ ++ s], leafS s) else if i < leftN n then
      ((⟨#[1]⟩ ++ (wayL s P c (leftN n) i).2 ++ P c) :: (wayL s P c (leftN n) i).1, nodeS (wayL s P c (leftN n) i).2 (P c)) else
      ((⟨#[1]⟩ ++ P c ++ (wayL s P c (n - leftN n) (i - leftN n)).2) :: (wayL s P c (n - leftN n) (i - leftN n)).1, nodeS (P c) (wayL s P c (n - leftN n) (i - leftN n)).2)
theorem value_size (s : ByteArray) (P : Nat → ByteArray) : ∀ (c n i : Nat) (v : ByteArray), valueV s P c n i = some v → v.size = 32
  | 0, n, i, v, h => by
    rw [valueV] at h
    split at h
    · cases h; rfl
    · cases h
  | c + 1, n, i, v, h => by
    rw [valueV] at h
    split at h
    · cases h
    · split at h
      · obtain ⟨u, _, rfl⟩ := Option.map_eq_some_iff.1 h; rfl
      · obtain ⟨u, _, rfl⟩ := Option.map_eq_some_iff.1 h; rfl
theorem way_value (s : ByteArray) (P : Nat → ByteArray) : ∀ (c n i : Nat) (v : ByteArray), valueV s P c n i = some v → (wayL s P c n i).2 = v
  | 0, n, i, v, h => by
    rw [valueV] at h
    split at h
    · cases h; rfl
    · cases h
  | c + 1, n, i, v, h => by
    rw [valueV] at h
    rw [wayL]
    split at h
    · cases h
    · rename_i h1
      rw [if_neg h1]
      split at h
      · rename_i h2
        obtain ⟨u, hu, rfl⟩ := Option.map_eq_some_iff.1 h
        rw [if_pos h2, way_value s P c _ _ u hu]
      · rename_i h2
        obtain ⟨u, hu, rfl⟩ := Option.map_eq_some_iff.1 h
        rw [if_neg h2, way_value s P c _ _ u hu]
theorem way_bind {s t : ByteArray} (hst : s ≠ t) (P Q : Nat → ByteArray) : ∀ (c n i : Nat) (v : ByteArray), Digs c P → Digs c Q → valueV s P c n i = some v → valueV t Q c n i = some v →
    Coll (wayL s P c n i).1 (wayL t Q c n i).1
  | 0, n, i, v, _, _, h1, h2 => by
    rw [valueV] at h1 h2
    split at h1
    · rename_i hn
      rw [if_pos hn] at h2
      have e : leafS s = leafS t := Option.some.inj (h1.trans h2.symm)
      exact coll_head [] [] (fun e2 => hst (cat_inj rfl e2).2) e
    · cases h1
  | c + 1, n, i, v, hP, hQ, h1, h2 => by
    rw [valueV] at h1 h2
    rw [wayL, wayL]
    split at h1
    · cases h1
    · rename_i hn
      rw [if_neg hn] at h2
      rw [if_neg hn, if_neg hn]
      have hP1 : Digs c P := fun j hj => hP j (by omega)
      have hQ1 : Digs c Q := fun j hj => hQ j (by omega)
      split at h1
      · rename_i hk
        rw [if_pos hk] at h2
        rw [if_pos hk, if_pos hk]
        obtain ⟨u, hu, e1⟩ := Option.map_eq_some_iff.1 h1
        obtain ⟨z, hz, e2⟩ := Option.map_eq_some_iff.1 h2
        rw [way_value s P c _ _ u hu, way_value t Q c _ _ z hz]
        by_cases he : ⟨#[1]⟩ ++ u ++ P c = ⟨#[1]⟩ ++ z ++ Q c
        · have := (mark_inj (by rw [value_size _ _ _ _ _ _ hu, value_size _ _ _ _ _ _ hz]) he).1
          rw [this] at hu
          exact coll_cons _ _ (way_bind hst P Q c _ _ z hP1 hQ1 hu hz)
        · exact coll_head _ _ he (by rw [← e2] at e1; exact e1)
      · rename_i hk
        rw [if_neg hk] at h2
        rw [if_neg hk, if_neg hk]
        obtain ⟨u, hu, e1⟩ := Option.map_eq_some_iff.1 h1
        obtain ⟨z, hz, e2⟩ := Option.map_eq_some_iff.1 h2
        rw [way_value s P c _ _ u hu, way_value t Q c _ _ z hz]
        by_cases he : ⟨#[1]⟩ ++ P c ++ u = ⟨#[1]⟩ ++ Q c ++ z
        · have := (mark_inj (by rw [hP c (by omega), hQ c (by omega)]) he).2
          rw [this] at hu
          exact coll_cons _ _ (way_bind hst P Q c _ _ z hP1 hQ1 hu hz)
        · exact coll_head _ _ he (by rw [← e2] at e1; exact e1)
theorem verify_bind {root s t : ByteArray} {n i : Int} {P Q : Nat → ByteArray} {c d : Nat} (h1 : VerifyOk root n i s P c) (h2 : VerifyOk root n i t Q d) (hst : s ≠ t) :
    Coll (wayL s P c n.toNat i.toNat).1 (wayL t Q d n.toNat i.toNat).1 := by
  have e1 := verify_count (F := P) h1
  have e2 := verify_count (F := P) h2
  obtain rfl : c = d := by rw [e1, e2]
  exact way_bind hst P Q c _ _ root h1.2.2.1 h2.2.2.1 h1.2.2.2 h2.2.2.2
/-- The strings of which Sum is computed for the new root of an extension, from the root on, and the value. -/
def sidesL (old : ByteArray) (P : Nat → ByteArray) : Nat → Nat → Nat → Bool → List ByteArray × ByteArray
  | 0, _, _, _ => ([], old)
  | c + 1, m, n, wh => if n ≤ m then ([], if wh = true then old else P 0) else if m ≤ leftN n then
      ((⟨#[1]⟩ ++ (sidesL old P c m (leftN n) wh).2 ++ P c) :: (sidesL old P c m (leftN n) wh).1, nodeS (sidesL old P c m (leftN n) wh).2 (P c)) else
      ((⟨#[1]⟩ ++ P c ++ (sidesL old P c (m - leftN n) (n - leftN n) false).2) :: (sidesL old P c (m - leftN n) (n - leftN n) false).1, nodeS (P c) (sidesL old P c (m - leftN n) (n - leftN n) false).2)
theorem both_size {old : ByteArray} (ho : old.size = 32) (P : Nat → ByteArray) : ∀ (c m n : Nat) (wh : Bool) (v : ByteArray × ByteArray), Digs c P → bothV old P c m n wh = some v → v.2.size = 32
  | 0, m, n, wh, v, _, h => by
    rw [bothV] at h
    split at h
    · split at h
      · cases h; exact ho
      · cases h
    · cases h
  | c + 1, m, n, wh, v, hP, h => by
    rw [bothV] at h
    split at h
    · split at h
      · cases h
      · split at h
        · cases h; exact hP 0 (by omega)
        · cases h
    · split at h
      · obtain ⟨u, _, rfl⟩ := Option.map_eq_some_iff.1 h; rfl
      · obtain ⟨u, _, rfl⟩ := Option.map_eq_some_iff.1 h; rfl
theorem sides_value (old : ByteArray) (P : Nat → ByteArray) : ∀ (c m n : Nat) (wh : Bool) (v : ByteArray × ByteArray), bothV old P c m n wh = some v → (sidesL old P c m n wh).2 = v.2
  | 0, m, n, wh, v, h => by
    rw [bothV] at h
    split at h
    · split at h
      · cases h; rfl
      · cases h
    · cases h
  | c + 1, m, n, wh, v, h => by
    rw [bothV] at h
    rw [sidesL]
    split at h
    · rename_i h1
      rw [if_pos h1]
      split at h
      · cases h
      · rename_i h2
        split at h
        · cases h
          show (if wh = true then old else P 0) = P 0
          rw [if_neg h2]
        · cases h
    · rename_i h1
      rw [if_neg h1]
      split at h
      · rename_i h2
        obtain ⟨u, hu, rfl⟩ := Option.map_eq_some_iff.1 h
        rw [if_pos h2, sides_value old P c _ _ _ u hu]
      · rename_i h2
        obtain ⟨u, hu, rfl⟩ := Option.map_eq_some_iff.1 h
        rw [if_neg h2, sides_value old P c _ _ _ u hu]
theorem both_bind {a b : ByteArray} (ha : a.size = 32) (hb : b.size = 32) (P Q : Nat → ByteArray) : ∀ (c d m n : Nat) (wh : Bool) (v u : ByteArray × ByteArray), Digs c P → Digs d Q → v.2 = u.2 →
    bothV a P c m n wh = some v → bothV b Q d m n wh = some u → v.1 = u.1 ∨ Coll (sidesL a P c m n wh).1 (sidesL b Q d m n wh).1
  | 0, d, m, n, wh, v, u, _, _, hv, h1, h2 => by
    rw [bothV] at h1
    split at h1
    · rename_i hn
      split at h1
      · rename_i hw
        cases h1
        cases d with
        | zero =>
          rw [bothV, if_pos hn, if_pos hw] at h2
          cases h2
          exact .inl hv
        | succ d =>
          rw [bothV, if_pos hn, if_pos hw] at h2
          cases h2
      · cases h1
    · cases h1
  | c + 1, 0, m, n, wh, v, u, _, _, hv, h1, h2 => by
    rw [bothV] at h2
    split at h2
    · rename_i hn
      split at h2
      · rename_i hw
        rw [bothV, if_pos hn, if_pos hw] at h1
        cases h1
      · cases h2
    · cases h2
  | c + 1, d + 1, m, n, wh, v, u, hP, hQ, hv, h1, h2 => by
    rw [bothV] at h1 h2
    rw [sidesL, sidesL]
    split at h1
    · rename_i hn
      rw [if_pos hn] at h2
      split at h1
      · cases h1
      · rename_i hw
        rw [if_neg hw] at h2
        split at h1
        · cases h1
          split at h2
          · cases h2
            exact .inl hv
          · cases h2
        · cases h1
    · rename_i hn
      rw [if_neg hn] at h2
      rw [if_neg hn, if_neg hn]
      have hP1 : Digs c P := fun j hj => hP j (by omega)
      have hQ1 : Digs d Q := fun j hj => hQ j (by omega)
      split at h1
      · rename_i hk
        rw [if_pos hk] at h2
        rw [if_pos hk, if_pos hk]
        obtain ⟨x, hx, rfl⟩ := Option.map_eq_some_iff.1 h1
        obtain ⟨z, hz, rfl⟩ := Option.map_eq_some_iff.1 h2
        rw [sides_value a P c _ _ _ x hx, sides_value b Q d _ _ _ z hz]
        by_cases he : ⟨#[1]⟩ ++ x.2 ++ P c = ⟨#[1]⟩ ++ z.2 ++ Q d
        · have := (mark_inj (by rw [both_size ha _ _ _ _ _ _ hP1 hx, both_size hb _ _ _ _ _ _ hQ1 hz]) he).1
          rcases both_bind ha hb P Q c d _ _ _ x z hP1 hQ1 this hx hz with h | h
          · exact .inl h
          · exact .inr (coll_cons _ _ h)
        · exact .inr (coll_head _ _ he hv)
      · rename_i hk
        rw [if_neg hk] at h2
        rw [if_neg hk, if_neg hk]
        obtain ⟨x, hx, rfl⟩ := Option.map_eq_some_iff.1 h1
        obtain ⟨z, hz, rfl⟩ := Option.map_eq_some_iff.1 h2
        rw [sides_value a P c _ _ _ x hx, sides_value b Q d _ _ _ z hz]
        by_cases he : ⟨#[1]⟩ ++ P c ++ x.2 = ⟨#[1]⟩ ++ Q d ++ z.2
        · obtain ⟨e1, e2⟩ := mark_inj (by rw [hP c (by omega), hQ d (by omega)]) he
          rcases both_bind ha hb P Q c d _ _ _ x z hP1 hQ1 e2 hx hz with h | h
          · exact .inl (by show nodeS (P c) x.1 = nodeS (Q d) z.1; rw [e1, h])
          · exact .inr (coll_cons _ _ h)
        · exact .inr (coll_head _ _ he hv)
theorem verext_bind {a b root : ByteArray} {m n : Int} {P Q : Nat → ByteArray} {c d : Nat} (h1 : VerExtOk a m root n P c) (h2 : VerExtOk b m root n Q d) (hab : a ≠ b) :
    Coll (sidesL a P c m.toNat n.toNat true).1 (sidesL b Q d m.toNat n.toNat true).1 := by
  obtain ⟨_, _, hP, ha, _, h1⟩ := h1
  obtain ⟨_, _, hQ, hb, _, h2⟩ := h2
  split at h1
  · rename_i hm
    rw [if_pos hm] at h2
    exact absurd (h1.2.trans h2.2.symm) hab
  · rename_i hm
    rw [if_neg hm] at h2
    split at h1
    · rename_i hn
      rw [if_pos hn] at h2
      exact absurd (h1.2.trans h2.2.symm) hab
    · rename_i hn
      rw [if_neg hn] at h2
      rcases both_bind ha hb P Q c d _ _ _ (a, root) (b, root) hP hQ rfl h1 h2 with h | h
      · exact absurd h hab
      · exact h
def zero32 : ByteArray := ⟨#[0, 0, 0, 0, 0, 0, 0, 0, 0, 0, 0, 0, 0, 0, 0, 0, 0, 0, 0, 0, 0, 0, 0, 0, 0, 0, 0, 0, 0, 0, 0, 0]⟩
/-- The head of the first records. -/
def headF (F : Nat → ByteArray) : Nat → ByteArray
  | 0 => zero32
  | i + 1 => chainS (headF F i) (F i)
/-- The strings of which Sum is computed for it, the last one first. -/
def headsL (F : Nat → ByteArray) : Nat → List ByteArray
  | 0 => []
  | i + 1 => (⟨#[2]⟩ ++ headF F i ++ F i) :: headsL F i
theorem headF_size (F : Nat → ByteArray) : ∀ n, (headF F n).size = 32
  | 0 => rfl
  | _ + 1 => rfl
theorem headsL_length (F : Nat → ByteArray) : ∀ n, (headsL F n).length = n
  | 0 => rfl
  | n + 1 => by rw [headsL, List.length_cons, headsL_length F n]
theorem heads_bind (F G : Nat → ByteArray) : ∀ (n m : Nat), headF F n = headF G m → (n = m ∧ ∀ i, i < n → F i = G i) ∨ Coll (headsL F n) (headsL G m) ∨ (n ≠ m ∧ dS (getS (if n < m then headsL G m else headsL F n) (min n m)) = zero32)
  | 0, 0, _ => .inl ⟨rfl, fun i hi => by omega⟩
  | 0, m + 1, h => .inr (.inr ⟨by omega, by rw [if_pos (by omega), Nat.zero_min]; exact h.symm⟩)
  | n + 1, 0, h => .inr (.inr ⟨by omega, by rw [if_neg (by omega), Nat.min_zero]; exact h⟩)
  | n + 1, m + 1, h => by
    by_cases he : ⟨#[2]⟩ ++ headF F n ++ F n = ⟨#[2]⟩ ++ headF G m ++ G m
    · obtain ⟨e1, e2⟩ := mark_inj (by rw [headF_size, headF_size]) he
      rcases heads_bind F G n m e1 with ⟨rfl, h2⟩ | h2 | ⟨h2, h3⟩
      · refine .inl ⟨rfl, fun i hi => ?_⟩
        by_cases hi2 : i = n
        · rw [hi2]; exact e2
        · exact h2 i (by omega)
      · exact .inr (.inl (coll_cons _ _ h2))
      · refine .inr (.inr ⟨by omega, ?_⟩)
        rw [show min (n + 1) (m + 1) = min n m + 1 by omega]
        by_cases hnm : n < m
        · rw [if_pos hnm] at h3
          rw [if_pos (by omega)]
          exact h3
        · rw [if_neg hnm] at h3
          rw [if_neg (by omega)]
          exact h3
    · exact .inr (.inl (coll_head _ _ he h))
end Go.Proofs.YtolhjkbfinlfcaaDoor
