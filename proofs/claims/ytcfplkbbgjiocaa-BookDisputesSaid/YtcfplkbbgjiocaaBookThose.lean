/- Package book: those, an iterator over the postings at which a function says true. Conditions: the function only reads; the loop's body goes on in every round. -/
import Derived.Test.YtcfplkbbgjiocaaBookList
import Derived.Test.YtcfplkbbgjiocaaIter
import Derived.LoopIn
import Derived.LoopNIn
import Derived.TacticsInMore
namespace Go.Proofs.Ytcfplkbbgjiocaa
open Go Go.RowKit Go.Shelf
attribute [local go_sem] Oper.semAt_some
theorem those_any (p : Option Addr) (fi : Nat) (lb : Array Value) (w : World) :
    Calls Try.prog 33 #[.pointer p, .func (.func fi) #[] lb] w fun e w' => e = .returned (.func (.func 39) #[] #[.pointer (some ⟨w.heap.size, 0, none⟩), .pointer (some ⟨w.heap.size + 1, 0, none⟩)]) ∧ (w.alloc (.cells #[.pointer p] 52)).alloc (.cells #[.func (.func fi) #[] lb] 66) = w' := by
  go_enter Try.func33, Try.ntmps33
  go_wp2
  go_ret
  exact ⟨rfl, rfl⟩
set_option maxHeartbeats 1000000 in
theorem those1_in (fu l Bl Bi B : Nat) (fi : Nat) (lb : Array Value) (teams closed : Int) (q : Option Addr) (n cap : Nat) (g : Nat → Pst) (bk : Nat → Bool) (d : Nat → Bool) (hfu : 1 ≤ fu) (hn : n ≤ 1000) (heg : ∀ args w, (callFunc fi args).run Try.prog w = .ok (.enter fi args) w) (J : Nat → World → Prop)
    (hY : ∀ k W, k < n → J k W → d k = true → YieldAt Fence.wide (fu - 1) Try.prog l #[.agg (g k).cells] W fun e W' => e = .returned (.bool true) ∧ J (k + 1) W')
    (hN : ∀ k W, k < n → J k W → d k = false → J (k + 1) W)
    (hJ : ∀ k W W', J k W → Below W.heap.size W W' → J k W')
    (hb : ∀ k W, J k W → W.cell? ⟨Bl, 0, none⟩ = some (.pointer (some ⟨B, 0, none⟩)) ∧ W.cell? ⟨Bi, 0, none⟩ = some (.func (.func fi) #[] lb) ∧ LBox W B teams (.slice q n cap) closed bk ∧ ReadsP W q n g)
    (hI : ∀ k W, k < n → J k W → Calls Try.prog fi (#[.int .i64 k, .agg (g k).cells] ++ lb) W fun e W' => e = .returned (.bool (d k)) ∧ Below W.heap.size W W')
    (W : World) (h0 : J 0 W) :
    CallsIn Fence.wide fu Try.prog 39 #[.func (.yield l) #[] #[], .pointer (some ⟨Bl, 0, none⟩), .pointer (some ⟨Bi, 0, none⟩)] W fun e W' => (∃ v, e = .returned v) ∧ J n W' := by
  have HB := Lib.hid hb
  have HY := Lib.hid hY
  have HN := Lib.hid hN
  have HJ := Lib.hid hJ
  have HI := Lib.hid hI
  obtain ⟨c1, c2, hx, hr⟩ := hb 0 W h0
  obtain ⟨x0, x1, x2, _⟩ := hx.cells
  clear hb hY hN hJ hI hx hr
  refine callsIn_of_wp Try.func39 rfl trivial ?_ rfl
  simp only [Try.ntmps39, List.size_toArray, List.length_cons, List.length_nil, Nat.reduceAdd, Nat.reduceSub, Array.replicate_succ, Array.replicate_zero, List.push_toArray, List.append_toArray, List.nil_append, List.cons_append]
  gi_wp2_with fail
  gi_loopw [12] (fun i wr => ∃ k : Nat, k ≤ n ∧ i = .int .i64 k ∧ J k wr) (fun i _ => n - (intOf i).toNat)
  case atStart => exact ⟨0, by omega, rfl, h0⟩
  case round =>
    obtain ⟨k, hk, rfl, hJ⟩ := hrel
    obtain ⟨c1, c2, hx, hr⟩ := HB.out k wr hJ
    by_cases hlt : k < n
    · obtain ⟨b, o, rfl, hcs⟩ := hr k hlt
      obtain ⟨p0, p1, p2, p3, p4, p5, p6⟩ := pcells_of (hcs k hlt)
      have v0 : (0 : Int) ≤ (k : Int) := by omega
      have v1 : (k : Int) < (n : Int) := by omega
      have hal : Below wr.heap.size wr (wr.alloc (.cells #[.int .i64 (g k).kind, .int .i64 (g k).day, .int .i64 (g k).deb, .int .i64 (g k).cre, .int .i64 (g k).amt, .int .i64 (g k).sub, .int .i64 (g k).of] 27)) := (Below.refl _ _).alloc (Nat.le_refl _) _
      have c3 := (hal.cell (p := ⟨Bi, 0, none⟩) (cell_lt c2)).trans c2
      have hJ2 := HJ.out k _ _ hJ hal
      have HI2 := Lib.hid (HI.out k _ hlt hJ2)
      have HJ2 := Lib.hid hJ2
      clear hcs hr hx hal hJ2
      gi_wp2_with fail
      refine ⟨trivial, ?_⟩
      refine (callsIn_wide.2 HI2.out).mono ?_
      rintro e w2 ⟨rfl, hb2⟩
      have hJ3 := HJ.out k _ _ HJ2.out hb2
      have z : ∀ o, w2.cell? ⟨wr.heap.size, o, none⟩ = _ := fun o => hb2.cell (p := ⟨wr.heap.size, o, none⟩) (by rw [World.size_alloc]; exact Nat.lt_succ_self _)
      have z0 := (z 0).trans (by simp; rfl)
      have z1 := (z 1).trans (by simp; rfl)
      have z2 := (z 2).trans (by simp; rfl)
      have z3 := (z 3).trans (by simp; rfl)
      have z4 := (z 4).trans (by simp; rfl)
      have z5 := (z 5).trans (by simp; rfl)
      have z6 := (z 6).trans (by simp; rfl)
      clear z
      cases hd : d k with
      | true =>
        obtain ⟨fn, tmps, assign, body, hy1, hR⟩ := HY.out k w2 hlt hJ3 hd
        clear p0 p1 p2 p3 p4 p5 p6 c1 c2 c3
        unfold Pst.cells at hy1
        gi_wp2_with fail
        refine hR.mono ?_
        rintro e W3 ⟨rfl, hJ4⟩
        gi_wp2
        go_roundw
        case rel => exact ⟨k + 1, by omega, by go_num, hJ4⟩
        case measure => simp [intOf]; omega
      | false =>
        have hJ4 := HN.out k w2 hlt hJ3 hd
        clear p0 p1 p2 p3 p4 p5 p6 c1 c2 c3
        gi_wp2_with fail
        refine ⟨nofun, ?_⟩
        gi_wp2
        go_roundw
        case rel => exact ⟨k + 1, by omega, by go_num, hJ4⟩
        case measure => simp [intOf]; omega
    · obtain rfl : k = n := by omega
      clear c1 c2 hx hr
      gi_wp2
      refine bodyPost_end (results_none rfl _ _ _) rfl ?_
      exact ⟨⟨_, rfl⟩, hJ⟩
end Go.Proofs.Ytcfplkbbgjiocaa
