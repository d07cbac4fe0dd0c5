/- The laws of chapter 2: binary; an append of strings that can be read. Conditions: those of the theorems. -/
import Derived.Test.YtolhjkbfinlfcaaDoorLaw02Match
import Derived.Laws.OwnMore
namespace Go.Proofs.YtolhjkbfinlfcaaDoor
open Go Go.RowKit
def newsS (F : Nat → ByteArray) (m : Nat) : List Value := (List.range m).map fun i => strV (F i)
theorem newsS_eq (L : List ByteArray) : newsS (getS L) L.length = L.map strV := by
  unfold newsS
  apply List.ext_getElem
  · simp
  · intro i h1 h2
    have hi : i < L.length := by simpa using h2
    simp only [List.getElem_map, List.getElem_range]
    rw [getS, List.getD_eq_getElem?_getD, List.getElem?_eq_getElem hi]
    rfl
theorem reads_new (w : World) (x : ByteArray) (e : TypeId) : ReadsS (w.alloc (.cells #[.string x] e)) (some ⟨w.heap.size, 0, none⟩) 1 (fun _ => x) := fun i _ => ⟨w.heap.size, 0, rfl, fun j hj => by
  obtain rfl : j = 0 := by omega
  simp⟩
theorem reads_grown {w w' : World} {row : Option Nat} {B n : Nat} {F : Nat → ByteArray} (hg : w.grownBy w' row) (h : ReadsS w (some ⟨B, 0, none⟩) n F) (hne : some B ≠ row) : ReadsS w' (some ⟨B, 0, none⟩) n F := fun i hi => by
  obtain ⟨b, off, hp, hc⟩ := h i hi
  cases hp
  exact ⟨_, _, rfl, fun j hj => by
    have h1 := hc j hj
    rw [World.cell?_of_block (hg.block _ (cell_lt' h1) hne)]
    exact h1⟩
section
variable {P : Program} {w : World}
theorem run_append_reads (t ty e : TypeId) (base : Nat) (i : TypeInfo) (z : Value) (ht : P.underlying t = some (.slice e)) (hi : P.info? e = some i) (hz : i.zero = some z)
    (hsize : i.size = 1) (hby : i.bytes = 16) (hzs : z.cells.size = 1)
    (v : Value) (n : Nat) (xs : List Value) (hown : w.ownsRow base e 1 v n xs)
    (p : Option Addr) (m c : Nat) (F : Nat → ByteArray) (hr : ReadsS w p m F)
    (hn : n ≤ 100000) (hm : m ≤ 100000) (hbase : base ≤ w.heap.size) :
    ∃ v' w', (Builtin.append_ #[t, t] ty #[v, .slice p m c]).run P w = .ok v' w' ∧ w'.ownsRow base e 1 v' (n + m) (xs ++ newsS F m) ∧ w.grownBy w' v.ownBlock := by
  have h63 : n + m ≤ maxLen := by unfold maxLen; omega
  cases p with
  | none =>
    obtain rfl : m = 0 := by
      rcases Nat.eq_zero_or_pos m with h | h
      · exact h
      · obtain ⟨b, off, hp, _⟩ := hr 0 h
        cases hp
    refine ⟨v, w, ?_, ?_, ⟨rfl, rfl, rfl, Nat.le_refl _, fun _ _ _ => rfl⟩⟩
    · rcases hown.2 with ⟨rfl, rfl⟩ | ⟨g, cap, cur, rfl, _, _, hnc, _⟩
      · simp [Builtin.append_, run_underlying ht, sizeOf, typeInfo, hi, Builtin.lenOf, Builtin.firstCells]
      · simp [Builtin.append_, run_underlying ht, sizeOf, typeInfo, hi, Builtin.lenOf, Builtin.firstCells, hnc, storeCells]
    · simpa [newsS] using hown
  | some a =>
    obtain ⟨v', w', h1, h2, h3, _⟩ := run_append_own (P := P) w base t ty e i z 1 16 ht hi hz hsize hby hzs (by decide) v n xs hown a m c (newsS F m) (by simp [newsS]) (fun j u hu => by
      have hj : j < m := by have := (List.getElem?_eq_some_iff.1 hu).1; simpa [newsS] using this
      obtain ⟨b, off, hp, hc⟩ := hr j hj
      cases hp
      rw [addr_add, hc j hj]
      simp [newsS, List.getElem?_range hj] at hu
      rw [← hu]
      rfl) (fun u hu => by
      simp only [newsS, List.mem_map] at hu
      obtain ⟨k, _, rfl⟩ := hu
      rfl) h63 (by omega) hbase
    exact ⟨v', w', h1, h2, h3⟩
theorem wp_append_reads {o : Oper} {a : Act} {K : Act → World → Prop} {Q : Exit → Act → World → Prop} (s x : Operand) (t : TypeId)
    (ho : o.op = .call { callee := .builtin .append, args := #[s, x], argTypes := #[t, t] })
    (base : Nat) (e : TypeId) (i : TypeInfo) (z : Value) (ht : P.underlying t = some (.slice e)) (hi : P.info? e = some i) (hz : i.zero = some z)
    (hsize : i.size = 1) (hby : i.bytes = 16) (hzs : z.cells.size = 1)
    (v : Value) (n : Nat) (xs : List Value) (hs : a.eval s = v) (hown : w.ownsRow base e 1 v n xs)
    (p : Option Addr) (m c : Nat) (F : Nat → ByteArray) (hx : a.eval x = .slice p m c) (hr : ReadsS w p m F)
    (hn : n ≤ 100000) (hm : m ≤ 100000) (hbase : base ≤ w.heap.size)
    (h : ∀ v' w', w'.ownsRow base e 1 v' (n + m) (xs ++ newsS F m) → w.grownBy w' v.ownBlock → K (a.put o.dst v') w') : o.wp P a w K Q := by
  obtain ⟨v', w', hrun, h2, h3⟩ := run_append_reads t o.type e base i z ht hi hz hsize hby hzs v n xs hown p m c F hr hn hm hbase
  unfold Oper.wp execOp
  simp only [ho, resolve, invoke, builtin, Sem.run_bind, Sem.run_pure, Result.andThen_ok, List.map_toArray, List.map_cons, List.map_nil, hs, hx, hrun]
  exact h v' w' h2 h3
theorem wpList_append_reads {ops : Array Oper} {rest : List Oper} {o : Oper} {a : Act} {Q : Exit → Act → World → Prop} (hgd : o.guard = none) (s x : Operand) (t : TypeId)
    (ho : o.op = .call { callee := .builtin .append, args := #[s, x], argTypes := #[t, t] })
    (base : Nat) (e : TypeId) (i : TypeInfo) (z : Value) (ht : P.underlying t = some (.slice e)) (hi : P.info? e = some i) (hz : i.zero = some z)
    (hsize : i.size = 1) (hby : i.bytes = 16) (hzs : z.cells.size = 1)
    (v : Value) (n : Nat) (xs : List Value) (hs : a.eval s = v) (hown : w.ownsRow base e 1 v n xs)
    (p : Option Addr) (m c : Nat) (F : Nat → ByteArray) (hx : a.eval x = .slice p m c) (hr : ReadsS w p m F)
    (hn : n ≤ 100000) (hm : m ≤ 100000) (hbase : base ≤ w.heap.size)
    (h : ∀ v' w', w'.ownsRow base e 1 v' (n + m) (xs ++ newsS F m) → w.grownBy w' v.ownBlock → wpList P ops Q rest (a.put o.dst v') w') : wpList P ops Q (o :: rest) a w :=
  wpList_plain hgd fun _ hK => wp_append_reads s x t ho base e i z ht hi hz hsize hby hzs v n xs hs hown p m c F hx hr hn hm hbase fun v' w' h2 h3 => hK _ _ (h v' w' h2 h3)
theorem step_append_reads {ops : Array Oper} {o : Oper} {a : Act} {K : Act → World → Prop} {Q : Exit → Act → World → Prop} {E : Prop} (hgd : o.guard = none) (s x : Operand) (t : TypeId)
    (ho : o.op = .call { callee := .builtin .append, args := #[s, x], argTypes := #[t, t] })
    (base : Nat) (e : TypeId) (i : TypeInfo) (z : Value) (ht : P.underlying t = some (.slice e)) (hi : P.info? e = some i) (hz : i.zero = some z)
    (hsize : i.size = 1) (hby : i.bytes = 16) (hzs : z.cells.size = 1)
    (v : Value) (n : Nat) (xs : List Value) (hs : a.eval s = v) (hown : w.ownsRow base e 1 v n xs)
    (p : Option Addr) (m c : Nat) (F : Nat → ByteArray) (hx : a.eval x = .slice p m c) (hr : ReadsS w p m F)
    (hn : n ≤ 100000) (hm : m ≤ 100000) (hbase : base ≤ w.heap.size)
    (h : ∀ v' w', w'.ownsRow base e 1 v' (n + m) (xs ++ newsS F m) → w.grownBy w' v.ownBlock → K (a.put o.dst v') w') :
    if Region.wanted o (yielded ops a.tmps) = true then Oper.wp P o a w K Q else E := by
  have hw : Region.wanted o (yielded ops a.tmps) = true := by simp [Region.wanted, hgd]
  rw [if_pos hw]
  exact wp_append_reads s x t ho base e i z ht hi hz hsize hby hzs v n xs hs hown p m c F hx hr hn hm hbase h
end
theorem step_callG {P : Program} {ops : Array Oper} {o : Oper} {a : Act} {w : World} {K : Act → World → Prop} {Q : Exit → Act → World → Prop} {E : Prop} (hw : Region.wanted o (yielded ops a.tmps) = true) (f : FuncId) (args : Array Value) {v : Value} {R : World → Prop}
    (hrun : (execOp a.eval o).run P w = .ok (.enter f args) w) (hc : Calls P f args w fun e w' => e = .returned v ∧ R w') (h : ∀ w', R w' → K (a.put o.dst v) w') :
    if Region.wanted o (yielded ops a.tmps) = true then Oper.wp P o a w K Q else E := by
  rw [if_pos hw]
  unfold Oper.wp
  rw [hrun]
  simp only [Oper.upon]
  exact hc.mono fun e w' ⟨he, hr⟩ => by subst he; exact h w' hr
set_option maxHeartbeats 1000000 in
theorem binary_any (n : Nat) (w : World) (hn : n ≤ 100000) :
    Calls Tryd.prog 25 #[.int .i64 (n : Nat)] w fun e w' => e = .returned (.int .i64 (binF n : Nat)) ∧ w = w' := by
  have hb0 : binF n ≤ n := by
    unfold binF
    split
    · omega
    · have := Nat.log2_self_le (n := n) (by omega)
      have h2 : Nat.log2 n < 2 ^ Nat.log2 n := Nat.lt_two_pow_self
      omega
  go_enter Tryd.func25, Tryd.ntmps25
  go_wp2_with fail
  go_loopw [0, 3] (fun v0 v3 wr => ∃ m k : Nat, v0 = .int .i64 (m : Nat) ∧ v3 = .int .i64 (k : Nat) ∧ m ≤ n ∧ Hid (k + binF m = binF n) ∧ w = wr) (fun v0 _ _ => (intOf v0).toNat)
  case atStart => exact ⟨n, 0, rfl, rfl, by omega, Lib.hid (by omega), rfl⟩
  case round =>
    obtain ⟨m, k, rfl, rfl, hm, hk, rfl⟩ := hrel
    have hk1 : k ≤ n := by have := hk.out; omega
    by_cases hlt : 0 < m
    · have c0 : (0 : Int) < (m : Int) := by omega
      have hq := bin_half hlt
      obtain ⟨q, hq1⟩ : ∃ q, m / 2 = q := ⟨_, rfl⟩
      have c1 : (m : Int) / 2 = (q : Int) := by omega
      have c2 : (m : Int).tdiv 2 = (q : Int) := by rw [Int.tdiv_eq_ediv_of_nonneg (by omega)]; exact c1
      have c3 : q < m := by omega
      rw [hq1] at hq
      have HQ := Lib.hid hq
      clear hq hq1
      go_wp2_with fail
      refine ⟨⟨q, k + 1, by go_num, by go_num, by omega, Lib.hid (by have h1 := hk.out; have h2 := HQ.out; omega), trivial⟩, by simp [intOf]; omega⟩
    · obtain rfl : m = 0 := by omega
      have HK : Hid (k = binF n) := Lib.hid (by have h1 := hk.out; rw [bin_zero] at h1; omega)
      go_wp2_with fail
      go_ret
      exact ⟨by rw [← HK.out]; rfl, rfl⟩
end Go.Proofs.YtolhjkbfinlfcaaDoor
