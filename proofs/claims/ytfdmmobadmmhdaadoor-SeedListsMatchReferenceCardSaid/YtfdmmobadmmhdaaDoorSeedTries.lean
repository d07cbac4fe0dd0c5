/- Package seed: tries, an iterator over the raw numbers of an index. Conditions: the table holds its words; the loop's body goes on unless a number is accepted. -/
import Derived.Test.YtfdmmobadmmhdaaDoorSeedRaw
namespace Go.Proofs.YtfdmmobadmmhdaaDoor
open Go Go.RowKit Go.Shelf
attribute [local go_sem] Oper.semAt_some
theorem tries_any (s : ByteArray) (i : Int) (w : World) :
    Calls Tryd.prog 35 #[.string s, .int .i64 i] w fun e w' => e = .returned (.func (.func 45) #[] #[.pointer (some ⟨w.heap.size, 0, none⟩), .pointer (some ⟨w.heap.size + 1, 0, none⟩)]) ∧ (w.alloc (.cells #[.string s] 9)).alloc (.cells #[.int .i64 i] 3) = w' := by
  go_enter Tryd.func35, Tryd.ntmps35
  go_wp2
  go_ret
  exact ⟨rfl, rfl⟩
set_option maxRecDepth 100000 in
set_option maxHeartbeats 4000000 in
theorem tries1_in (fu l S : Nat) (s : ByteArray) (i : Int) (hfu : 1 ≤ fu) (acc : Nat → Bool) (J : World → Prop) (Out : Nat → World → Prop)
    (hY : ∀ j W, j < 64 → Named s i → J W → acc j = false → YieldAt Fence.wide (fu - 1) Tryd.prog l #[.int .i64 (rawN s i (j : Int) : Nat)] W fun e W' => e = .returned (.bool true) ∧ J W')
    (hN : ∀ j W, j < 64 → Named s i → J W → acc j = true → YieldAt Fence.wide (fu - 1) Tryd.prog l #[.int .i64 (rawN s i (j : Int) : Nat)] W fun e W' => e = .returned (.bool false) ∧ Out j W')
    (hJ : ∀ W W', J W → Below W.heap.size W W' → J W')
    (hb : ∀ W, J W → W.cell? ⟨S, 0, none⟩ = some (.string s) ∧ W.cell? ⟨S + 1, 0, none⟩ = some (.int .i64 i) ∧ RoundOk W)
    (W : World) (h0 : J W) :
    CallsIn Fence.wide fu Tryd.prog 45 #[.func (.yield l) #[] #[], .pointer (some ⟨S, 0, none⟩), .pointer (some ⟨S + 1, 0, none⟩)] W fun e W' => (∃ v, e = .returned v) ∧
      ((∃ j, j < 64 ∧ Named s i ∧ (∀ j', j' < j → acc j' = false) ∧ acc j = true ∧ Out j W') ∨ ((Named s i → ∀ j, j < 64 → acc j = false) ∧ J W')) := by
  have HB := Lib.hid hb
  have HY := Lib.hid hY
  have HN := Lib.hid hN
  have HJ := Lib.hid hJ
  clear hb hY hN hJ
  refine callsIn_of_wp Tryd.func45 rfl trivial ?_ rfl
  simp only [Tryd.ntmps45, List.size_toArray, List.length_cons, List.length_nil, Nat.reduceAdd, Nat.reduceSub, Array.replicate_succ, Array.replicate_zero, List.push_toArray, List.append_toArray, List.nil_append, List.cons_append]
  gi_wp2_with fail
  gi_loopw [7] (fun jv wr => ∃ j : Nat, j ≤ 64 ∧ jv = .int .i64 j ∧ Hid (Named s i → ∀ j', j' < j → acc j' = false) ∧ J wr) (fun jv _ => 64 - (intOf jv).toNat)
  case atStart => exact ⟨0, by omega, rfl, Lib.hid (fun _ j' h => by omega), h0⟩
  case round =>
    obtain ⟨j, hj, rfl, hall, hJ⟩ := hrel
    obtain ⟨c1, c2, hT⟩ := HB.out wr hJ
    by_cases hlt : j < 64
    · have l0 : (j : Int) < 64 := by omega
      have l1 : (0 : Int) ≤ (j : Int) := by omega
      have HR := Lib.hid (raw_any s i (j : Int) wr hT)
      have HJ2 := Lib.hid hJ
      clear hT hJ h0
      by_cases hn : Named s i
      · have hok : RawOk s i (j : Int) := ⟨hn, l1, l0⟩
        rw [show rawV s i (j : Int) = (rawN s i (j : Int) : Int) from if_pos hok, show rawE s i (j : Int) = 0 from if_pos hok] at HR
        have HNM := Lib.hid hn
        clear hn hok
        gi_wp2_with fail
        refine ⟨trivial, ?_⟩
        refine (callsIn_wide.2 HR.out).mono ?_
        rintro e w2 ⟨rfl, hb2⟩
        have hJ2 := HJ.out _ _ HJ2.out hb2
        clear c1 c2 HR
        cases ha : acc j with
        | false =>
          obtain ⟨fn, tmps, assign, body, hy1, hR⟩ := HY.out j w2 hlt HNM.out hJ2 ha
          have HA := Lib.hid ha
          clear ha hJ2
          obtain ⟨rn, hrn⟩ : ∃ r, rawN s i (j : Int) = r := ⟨_, rfl⟩
          rw [hrn] at hy1 ⊢
          clear hrn
          gi_wp2_with fail
          refine hR.mono ?_
          rintro e W3 ⟨rfl, hJ3⟩
          gi_wp2_with fail
          go_roundw
          case rel => exact ⟨j + 1, by omega, by go_num, Lib.hid (fun hn j' h => by
            by_cases e : j' = j
            · rw [e]; exact HA.out
            · exact hall.out hn j' (by omega)), hJ3⟩
          case measure => simp [intOf]; omega
        | true =>
          obtain ⟨fn, tmps, assign, body, hy1, hR⟩ := HN.out j w2 hlt HNM.out hJ2 ha
          have HA := Lib.hid ha
          clear ha hJ2
          obtain ⟨rn, hrn⟩ : ∃ r, rawN s i (j : Int) = r := ⟨_, rfl⟩
          rw [hrn] at hy1 ⊢
          clear hrn
          gi_wp2_with fail
          refine hR.mono ?_
          rintro e W3 ⟨rfl, hO⟩
          gi_wp2_with fail
          refine bodyPost_ret (results_none rfl _ _ _) rfl ?_
          exact ⟨⟨_, rfl⟩, .inl ⟨j, hlt, HNM.out, hall.out HNM.out, HA.out, hO⟩⟩
      · have hok : ¬ RawOk s i (j : Int) := fun h => hn h.1
        rw [show rawV s i (j : Int) = 0 from if_neg hok, show rawE s i (j : Int) = 60 from if_neg hok] at HR
        have HNM := Lib.hid hn
        clear hn hok
        gi_wp2_with fail
        refine ⟨trivial, ?_⟩
        refine (callsIn_wide.2 HR.out).mono ?_
        rintro e w2 ⟨rfl, hb2⟩
        have hJ2 := HJ.out _ _ HJ2.out hb2
        clear c1 c2 HR
        gi_wp2_with fail
        refine ⟨nofun, ?_⟩
        gi_wp2_with fail
        refine bodyPost_ret (results_none rfl _ _ _) rfl ?_
        exact ⟨⟨_, rfl⟩, .inr ⟨fun h => absurd h HNM.out, hJ2⟩⟩
    · obtain rfl : j = 64 := by omega
      clear c1 c2 hT h0
      gi_wp2
      refine bodyPost_end (results_none rfl _ _ _) rfl ?_
      exact ⟨⟨_, rfl⟩, .inr ⟨fun hn j hj => hall.out hn j hj, hJ⟩⟩
end Go.Proofs.YtfdmmobadmmhdaaDoor
