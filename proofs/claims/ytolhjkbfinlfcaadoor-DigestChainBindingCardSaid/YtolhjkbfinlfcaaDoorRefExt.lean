/- The reference of chapter 2: Extension. Conditions: at most 1000 strings that can be read, each of at most 4000 bytes. -/
import Derived.Test.YtolhjkbfinlfcaaDoorRefProof
namespace Go.Proofs.YtolhjkbfinlfcaaDoor
open Go Go.RowKit
theorem ext_congr {F G : Nat → ByteArray} (n : Nat) : ∀ (o o' m : Nat) (wh : Bool), 1 ≤ m → 1 ≤ n → (∀ q, q < n → F (o + q) = G (o' + q)) → extF F o n m wh = extF G o' n m wh := by
  induction n using Nat.strongRecOn with
  | ind n ih =>
    intro o o' m wh hm hn h
    rcases Nat.lt_or_ge m n with hlt | hge
    · have hl := left_facts (n := n) (by omega)
      rw [ext_step F o wh hm hlt, ext_step G o' wh hm hlt]
      by_cases hi : m ≤ leftN n
      · rw [if_pos hi, if_pos hi, ih (leftN n) (by omega) o o' m wh hm (by omega) (fun q hq => h q (by omega)), root_congr (F := F) (G := G) (n - leftN n) (o + leftN n) (o' + leftN n) (fun q hq => by rw [Nat.add_assoc, Nat.add_assoc]; exact h _ (by omega))]
      · rw [if_neg hi, if_neg hi, ih (n - leftN n) (by omega) (o + leftN n) (o' + leftN n) _ _ (by omega) (by omega) (fun q hq => by rw [Nat.add_assoc, Nat.add_assoc]; exact h _ (by omega)), root_congr (F := F) (G := G) (leftN n) o o' (fun q hq => h q (by omega))]
    · rw [ext_end F o wh hn hge, ext_end G o' wh hn hge, root_congr (F := F) (G := G) n o o' h]
theorem ext_shift (F : Nat → ByteArray) (k n m : Nat) (wh : Bool) (hm : 1 ≤ m) (hn : 1 ≤ n) : extF (fun q => F (k + q)) 0 n m wh = extF F k n m wh := ext_congr n 0 k m wh hm hn (fun q _ => by simp)
theorem step_callE {P : Program} {ops : Array Oper} {o : Oper} {a : Act} {w : World} {K : Act → World → Prop} {Q : Exit → Act → World → Prop} {E : Prop} (hg : o.guard = none) (f : FuncId) (args : Array Value) {R : Value → World → Prop}
    (hrun : (execOp a.eval o).run P w = .ok (.enter f args) w) (hc : Calls P f args w fun e w' => ∃ v, e = .returned v ∧ R v w') (h : ∀ v w', R v w' → K (a.put o.dst v) w') :
    if Region.wanted o (yielded ops a.tmps) = true then Oper.wp P o a w K Q else E := by
  have hw : Region.wanted o (yielded ops a.tmps) = true := by simp [Region.wanted, hg]
  rw [if_pos hw]
  unfold Oper.wp
  rw [hrun]
  simp only [Oper.upon]
  exact hc.mono fun e w' ⟨v, he, hr⟩ => by subst he; exact h v w' hr
set_option maxRecDepth 100000 in
set_option maxHeartbeats 4000000 in
theorem ref_part_any (n : Nat) : ∀ (p : Option Addr) (c : Nat) (F : Nat → ByteArray) (m : Nat) (wh : Bool) (w : World) (_ : n ≤ 1000) (_ : n ≤ c) (_ : ∀ i, i < n → (F i).size ≤ 4000) (_ : ReadsS w p n F) (_ : 1 ≤ m) (_ : m ≤ n),
    Calls Tryd.prog 43 #[.slice p n c, .int .i64 (m : Nat), .bool wh] w fun e w' => ∃ v, e = .returned v ∧ w'.ownsRow w.heap.size 9 1 v (extF F 0 n m wh).length ((extF F 0 n m wh).map strV) ∧ Below w.heap.size w w' := by
  induction n using Nat.strongRecOn with
  | ind n ih =>
    intro p c F m wh w hn hc hF hr hm hmn
    obtain ⟨i0, hi, hz0, hz1, hz2⟩ := infoStr
    by_cases h1 : m = n
    · subst h1
      have HX := Lib.hid (ext_end F 0 wh hm (Nat.le_refl m))
      have hR := Lib.hid (ref_root_any m p c F w hn hc hF hr)
      obtain ⟨x, hx⟩ : ∃ x, rootF F 0 m = x := ⟨_, rfl⟩
      rw [hx] at hR HX
      clear ih hF hr hx
      cases wh with
      | true =>
        rw [if_pos rfl] at HX
        go_enter Tryd.func43, Tryd.ntmps43
        go_wp2_with fail
        go_ret
        exact ⟨_, rfl, by rw [HX.out]; exact World.ownsRow_nil _ _ _ _, Below.refl _ _⟩
      | false =>
        rw [if_neg (by decide)] at HX
        go_enter Tryd.func43, Tryd.ntmps43
        go_wp2_with fail
        refine hR.out.mono ?_
        rintro e w2 ⟨rfl, hb2⟩
        go_wp2_with fail
        go_ret
        refine ⟨_, rfl, ?_, hb2.alloc hb2.size _⟩
        rw [HX.out]
        exact World.ownsRow_lit w2 #[.string x] 1 hb2.size (by decide) rfl
    · have hlf := left_facts (n := n) (by omega)
      have hL := Lib.hid (fun W => ref_left_any n W (by omega) (by omega))
      have hext := ext_step F 0 wh hm (show m < n by omega)
      obtain ⟨k, hk⟩ : ∃ k, leftN n = k := ⟨_, rfl⟩
      rw [hk] at hlf hL hext
      rw [Nat.zero_add] at hext
      obtain ⟨b, o, rfl, hr2⟩ := hr.slice (show k < n by omega)
      have n1 : ¬ (m : Int) = (n : Int) := by omega
      have n2 : ((m : Int) == (n : Int)) = false := by simp; omega
      have k0 : (k : Int) ≤ (n : Int) := by omega
      have k1 : (k : Int) ≤ (c : Int) := by omega
      have hck : ¬ c = k := by omega
      by_cases hik : m ≤ k
      · rw [if_pos hik] at hext
        have c1 : (m : Int) ≤ (k : Int) := by omega
        have HA := Lib.hid (fun W (h : Below w.heap.size w W) => ih k (by omega) (some ⟨b, o, none⟩) c F m wh W (by omega) (by omega) (fun i hi => hF i (by omega)) ((hr.less (by omega)).below h) hm hik)
        have HB := Lib.hid (fun W (h : Below w.heap.size w W) => ref_root_any (n - k) (some ⟨b, o + k, none⟩) (c - k) (fun i => F (k + i)) W (by omega) (by omega) (fun i hi => hF _ (by omega)) (hr2.below h))
        obtain ⟨L, hL1⟩ : ∃ L, extF F 0 k m wh = L := ⟨_, rfl⟩
        have hLL : L.length ≤ 1000 := by rw [← hL1]; have := ext_length F k 0 m wh hm (by omega); omega
        obtain ⟨x, hx⟩ : ∃ x, rootF F k (n - k) = x := ⟨_, rfl⟩
        simp only [root_shift, hx] at HB
        simp only [hL1] at HA
        rw [hL1, hx] at hext
        have HP := Lib.hid hext
        clear ih hF hr hr2 hext hk hL1 hx hlf
        go_enter Tryd.func43, Tryd.ntmps43
        go_wp2_with fail
        refine (hL.out _).mono ?_
        rintro e w' ⟨rfl, rfl⟩
        go_wp2_with fail
        have HB1 := (Below.refl w.heap.size w).drew
        go_region_law (first
          | (refine step_callE (by rfl) 43 #[.slice (some ⟨b, o, none⟩) k c, .int .i64 (m : Nat), .bool wh] ?_ (HA.out _ (by assumption)) ?_; (focus (go_simp; done)); intro v w2 ⟨hown2, hb2⟩; have hb2w : Below w.heap.size w w2 := HB1.trans (hb2.mono HB1.size))
          | (refine step_call (by rfl) 20 #[.slice (some ⟨b, o + k, none⟩) (n - k) (c - k)] ?_ (HB.out _ (by assumption)) ?_; (focus (go_simp; done)); intro w3 hb3; have hown3 := own_below hown2 hb3; have hb3w : Below w.heap.size w w3 := hb2w.trans (hb3.mono hb2w.size); have hw3 := hb3w.size)
          | (refine step_append_lies _ (by rfl) (.tmp 27) (.tmp 32) 22 (by rfl) w.heap.size 9 i0 (.string ⟨#[]⟩) 1 16 Tryd.underlying22 hi hz0 hz1 hz2 rfl (by decide) v L.length _ (by rfl) (hown3.alloc _) ⟨w3.heap.size, 0, none⟩ 1 1 [.string x] (by rfl) rfl (cell_one_new w3 _ _) (h1 := by simp [Value.oneCell']) (hm := by decide) (h63 := by unfold maxLen; omega) (hbytes := by omega) (hbase := Nat.le_trans hw3 (by show w3.heap.size ≤ (w3.alloc _).heap.size; simp)) (H := w3.heap.size + 1) (hH := by show (w3.alloc _).heap.size = _; simp) ?_; intro g cp1 w7 hown1 hgrow1 hat1 hlt1; have hb7 := (hb3w.alloc hw3 _).grown hgrow1 (by simp; omega) (fun j ej => (hown3.lt j ej).1)))
        all_goals (go_wp2_with fail)
        all_goals go_ret
        all_goals
          refine ⟨_, rfl, ?_, hb7⟩
          rw [HP.out, List.length_append, List.map_append]
          exact hown1
      · rw [if_neg hik] at hext
        have c1 : (k : Int) < (m : Int) := by omega
        have c2 : ¬ (m : Int) ≤ (k : Int) := by omega
        have g1 : IntKind.i64.wrap ((m : Int) - (k : Int)) = ((m - k : Nat) : Int) := by rw [IntWalk.i64_in _ (by omega)]; omega
        have g2 : (m : Int) - (k : Int) = ((m - k : Nat) : Int) := by omega
        have HA := Lib.hid (fun W (h : Below w.heap.size w W) => ih (n - k) (by omega) (some ⟨b, o + k, none⟩) (c - k) (fun i => F (k + i)) (m - k) false W (by omega) (by omega) (fun i hi => hF _ (by omega)) (hr2.below h) (by omega) (by omega))
        have HB := Lib.hid (fun W (h : Below w.heap.size w W) => ref_root_any k (some ⟨b, o, none⟩) c F W (by omega) (by omega) (fun i hi => hF i (by omega)) ((hr.less (show k ≤ n by omega)).below h))
        simp only [ext_shift F k (n - k) (m - k) false (by omega) (by omega)] at HA
        obtain ⟨L, hL1⟩ : ∃ L, extF F k (n - k) (m - k) false = L := ⟨_, rfl⟩
        have hLL : L.length ≤ 1000 := by rw [← hL1]; have := ext_length F (n - k) k (m - k) false (by omega) (by omega); omega
        obtain ⟨x, hx⟩ : ∃ x, rootF F 0 k = x := ⟨_, rfl⟩
        simp only [hx] at HB
        simp only [hL1] at HA
        rw [hL1, hx] at hext
        obtain ⟨mk, hmk⟩ : ∃ q, m - k = q := ⟨_, rfl⟩
        rw [hmk] at HA g1 g2
        have g4 : mk ≤ 1000 := by omega
        have g3 : IntKind.i64.wrap (mk : Int) = (mk : Int) := by rw [IntWalk.i64_in _ (by omega)]
        have HP := Lib.hid hext
        clear ih hF hr hr2 hext hk hL1 hx hlf hmk
        go_enter Tryd.func43, Tryd.ntmps43
        go_wp2_with fail
        refine (hL.out _).mono ?_
        rintro e w' ⟨rfl, rfl⟩
        go_wp2_with fail
        have HB1 := (Below.refl w.heap.size w).drew
        go_region_law (first
          | (refine step_callE (by rfl) 43 #[.slice (some ⟨b, o + k, none⟩) (n - k) (c - k), .int .i64 (mk : Nat), .bool false] ?_ (HA.out _ (by assumption)) ?_; (focus (go_simp; done)); intro v w2 ⟨hown2, hb2⟩; have hb2w : Below w.heap.size w w2 := HB1.trans (hb2.mono HB1.size))
          | (refine step_call (by rfl) 20 #[.slice (some ⟨b, o, none⟩) k c] ?_ (HB.out _ (by assumption)) ?_; (focus (go_simp; done)); intro w3 hb3; have hown3 := own_below hown2 hb3; have hb3w : Below w.heap.size w w3 := hb2w.trans (hb3.mono hb2w.size); have hw3 := hb3w.size)
          | (refine step_append_lies _ (by rfl) (.tmp 40) (.tmp 45) 22 (by rfl) w.heap.size 9 i0 (.string ⟨#[]⟩) 1 16 Tryd.underlying22 hi hz0 hz1 hz2 rfl (by decide) v L.length _ (by rfl) (hown3.alloc _) ⟨w3.heap.size, 0, none⟩ 1 1 [.string x] (by rfl) rfl (cell_one_new w3 _ _) (h1 := by simp [Value.oneCell']) (hm := by decide) (h63 := by unfold maxLen; omega) (hbytes := by omega) (hbase := Nat.le_trans hw3 (by show w3.heap.size ≤ (w3.alloc _).heap.size; simp)) (H := w3.heap.size + 1) (hH := by show (w3.alloc _).heap.size = _; simp) ?_; intro g cp1 w7 hown1 hgrow1 hat1 hlt1; have hb7 := (hb3w.alloc hw3 _).grown hgrow1 (by simp; omega) (fun j ej => (hown3.lt j ej).1)))
        all_goals (go_wp2_with fail)
        all_goals go_ret
        all_goals
          refine ⟨_, rfl, ?_, hb7⟩
          rw [HP.out, List.length_append, List.map_append]
          exact hown1
theorem ref_ext_any (p : Option Addr) (n c : Nat) (F : Nat → ByteArray) (m : Int) (w : World) (hn : n ≤ 1000) (hc : n ≤ c) (hF : ∀ i, i < n → (F i).size ≤ 4000) (hr : ReadsS w p n F) :
    Calls Tryd.prog 17 #[.slice p n c, .int .i64 m] w fun e w' => RetStrs (extR F n m) (extE n m) e w' ∧ Below w.heap.size w w' := by
  by_cases h0 : 1 ≤ m ∧ m ≤ (n : Int)
  · obtain ⟨j, rfl⟩ : ∃ j : Nat, m = (j : Nat) := ⟨m.toNat, by omega⟩
    have e1 : extR F n (j : Nat) = extF F 0 n j true := by unfold extR; rw [if_pos h0, Int.toNat_natCast]
    have e2 : extE n (j : Nat) = 0 := by unfold extE; rw [if_pos (by omega)]
    have HX : Hid (extR F n (j : Nat) = extF F 0 n j true ∧ extE n (j : Nat) = 0) := Lib.hid ⟨e1, e2⟩
    have HA := Lib.hid (ref_part_any n p c F j true w hn hc hF hr (by omega) (by omega))
    obtain ⟨h1, h2⟩ := h0
    have d1 : ¬ (j : Int) < 0 := by omega
    have d2 : ¬ (n : Int) < (j : Int) := by omega
    have d3 : ¬ (j : Int) = 0 := by omega
    have d4 : decide ((j : Int) < 0) = false := decide_eq_false (by omega)
    have d5 : ((j : Int) == 0) = false := by simp; omega
    clear e1 e2 hr hF
    go_enter Tryd.func17, Tryd.ntmps17
    go_wp2_with fail
    refine HA.out.mono ?_
    rintro e w2 ⟨v, rfl, hown, hb⟩
    obtain ⟨q, cq, rfl, hcq, hrd⟩ := own_readsS hown
    have HO := Lib.hid hrd
    have HB := Lib.hid hb
    have HC := Lib.hid hcq
    clear hown hb hrd hcq HA
    go_wp2_with fail
    go_ret2
    exact ⟨by rw [HX.out.1, HX.out.2]; exact ⟨q, _, cq, rfl, rfl, HO.out, HC.out⟩, HB.out⟩
  · clear hr hF
    by_cases h1 : m < 0
    · have HX : Hid (extR F n m = [] ∧ extE n m = 2) := Lib.hid ⟨by unfold extR; rw [if_neg h0], by unfold extE; rw [if_neg (by omega)]⟩
      go_enter Tryd.func17, Tryd.ntmps17
      go_wp2_with fail
      go_ret2
      exact ⟨by rw [HX.out.1, HX.out.2]; exact ⟨none, 0, 0, rfl, rfl, fun i hi => by omega, Nat.le_refl _⟩, Below.refl _ _⟩
    · by_cases h2 : m = 0
      · have HX : Hid (extR F n m = [] ∧ extE n m = 0) := Lib.hid ⟨by unfold extR; rw [if_neg h0], by unfold extE; rw [if_pos (by omega)]⟩
        subst h2
        have d2 : ¬ (n : Int) < 0 := by omega
        go_enter Tryd.func17, Tryd.ntmps17
        go_wp2_with fail
        go_ret2
        exact ⟨by rw [HX.out.1, HX.out.2]; exact ⟨none, 0, 0, rfl, rfl, fun i hi => by omega, Nat.le_refl _⟩, Below.refl _ _⟩
      · have HX : Hid (extR F n m = [] ∧ extE n m = 2) := Lib.hid ⟨by unfold extR; rw [if_neg h0], by unfold extE; rw [if_neg (by omega)]⟩
        have h3 : (n : Int) < m := by omega
        go_enter Tryd.func17, Tryd.ntmps17
        go_wp2_with fail
        go_ret2
        exact ⟨by rw [HX.out.1, HX.out.2]; exact ⟨none, 0, 0, rfl, rfl, fun i hi => by omega, Nat.le_refl _⟩, Below.refl _ _⟩
end Go.Proofs.YtolhjkbfinlfcaaDoor
