/- Package quota: Divide. Conditions: a capacity and demands that are units, a turn of a tenant. -/
import Derived.Test.YtdodhfodojjfeaaQuotaDiv
import Derived.Test.YtdodhfodojjfeaaRoundHeld
namespace Go.Proofs.Ytdodhfodojjfeaa
open Go Go.RowKit Go.Shelf
attribute [local go_sem] Oper.semAt_some
variable {w W W' : World} {n cp cap : Nat} {p : Option Addr} {a : Nat → Nat}
set_option maxRecDepth 100000 in
set_option maxHeartbeats 4000000 in
theorem divide_in (c n t : Nat) (d : Nat → Nat) (p : Option Addr) (cp : Nat) (w : World) (hc : c ≤ 1000000) (hn1 : 1 ≤ n) (hn : n ≤ 8) (ht : t < n) (hd : ∀ i, i < n → d i ≤ 1000000) (hr : ReadsI w p n (fun i => ((d i : Nat) : Int))) :
    CallsIn Fence.wide 5 Try.prog 13 #[.int .i64 (c : Nat), .slice p n cp, .int .i64 (t : Nat)] w fun e w' =>
      ∃ (G : Nat) (a : Nat → Nat), e = .returned (.tuple #[.slice (some ⟨G, 0, none⟩) n n, .int .i64 0]) ∧ w.heap.size ≤ G ∧ RowAt w' G n a ∧ DivIs n d c t a ∧ Below w.heap.size w w' := by
  have hU : unitB (c : Nat) = true := unitB_iff.2 ⟨by omega, by omega⟩
  have hD : demandsB n (fun i => ((d i : Nat) : Int)) := ⟨hn1, hn, fun i hi => ⟨by show (0:Int) ≤ (d i : Nat); omega, by have := hd i hi; show ((d i : Nat) : Int) ≤ 1000000; omega⟩⟩
  have hA := areDemands_any p n cp (fun i => ((d i : Nat) : Int))
  refine callsIn_of_wp_marks Try.func13 rfl trivial ?_ rfl
  simp only [Try.ntmps13, List.size_toArray, List.length_cons, List.length_nil, Nat.reduceAdd, Nat.reduceSub, Array.replicate_succ, Array.replicate_zero, List.push_toArray, List.append_toArray, List.nil_append, List.cons_append]
  gi_wp2_with fail
  refine ⟨trivial, ?_⟩
  refine (callsIn_wide.2 (isUnits_any _ _)).mono ?_
  rintro e w' ⟨rfl, rfl⟩
  rw [hU]
  gi_wp2_with fail
  refine ⟨trivial, ?_⟩
  refine (callsIn_wide.2 (areDemands_any p n cp _ _ (by unfold maxLen; omega) (hr.below (((Below.refl w.heap.size w).alloc (Nat.le_refl _) _).alloc (by simp) _)))).mono ?_
  rintro e w' ⟨he, rfl⟩
  obtain rfl := he.yes hD
  gi_wp2_with fail
  obtain ⟨o, hmk, hrow⟩ := make_row ((w.alloc (.cells #[.int .i64 (c : Nat)] 3)).alloc (.cells #[.slice p n cp] 22)) n (by omega)
  clear hU hD hA he
  rw [hmk]
  have h0 : DivW w n cp p (fun _ => 0) c ((((w.alloc (.cells #[.int .i64 (c : Nat)] 3)).alloc (.cells #[.slice p n cp] 22)).alloc o).alloc (.cells #[.slice (some ⟨w.heap.size + 1 + 1, 0, none⟩) n n] 22)) := by
    refine ⟨(((Boxed.new w _ _).alloc _).alloc _).alloc _, ?_, ?_, ?_, (((Below.refl w.heap.size w).alloc (Nat.le_refl _) _).alloc (by simp) _ |>.alloc (by simp; omega) _).alloc (by simp; omega) _⟩
    · have := ((Boxed.new (w.alloc (.cells #[.int .i64 (c : Nat)] 3)) 22 (.slice p n cp)).alloc o).alloc (.cells #[.slice (some ⟨w.heap.size + 1 + 1, 0, none⟩) n n] 22)
      rwa [World.size_alloc] at this
    · have := RowAt.kept hrow (World.grownBy_alloc _ (.cells #[.slice (some ⟨w.heap.size + 1 + 1, 0, none⟩) n n] 22) none) (by simp)
      simpa [World.size_alloc] using this
    · have := Boxed.new (((w.alloc (.cells #[.int .i64 (c : Nat)] 3)).alloc (.cells #[.slice p n cp] 22)).alloc o) 22 (.slice (some ⟨w.heap.size + 1 + 1, 0, none⟩) n n)
      simpa [World.size_alloc] using this
  have hr' := Lib.hid hr
  have hopen : ∀ (a : Nat → Nat) (cap : Nat) (W : World), DivW w n cp p a cap W → Calls Try.prog 27 #[.pointer (some ⟨w.heap.size + 1 + 1 + 1, 0, none⟩), .pointer (some ⟨w.heap.size + 1, 0, none⟩)] W fun e w' => e = .returned (.int .i64 (countB (fun i => decide (a i < d i)) n : Nat)) ∧ DivW w n cp p a cap w' ∧ Below W.heap.size W w' := fun a cap W h => by
    have := open_any (w.heap.size + 3) (w.heap.size + 1) (some ⟨w.heap.size + 2, 0, none⟩) p n n cp (fun i => ((a i : Nat) : Int)) (fun i => ((d i : Nat) : Int)) W hn h.outB h.demB (fun i hi => ⟨_, _, rfl, fun j hj => by rw [Nat.zero_add]; exact h.row.cell hj⟩) (hr'.out.below h.below)
    refine this.mono fun e w' ⟨he, hb⟩ => ⟨?_, h.onward hb, hb⟩
    rw [he]
    simp only [Int.ofNat_lt]
  have HO := Lib.hid hopen
  clear hmk hopen hr hrow
  gi_wp2_with fail
  refine ⟨trivial, ?_⟩
  refine (callsIn_wide.2 (HO.out _ _ _ h0)).mono ?_
  rintro e w1 ⟨rfl, h1, _⟩
  clear h0
  gi_wp2_with fail
  refine wpIn_loop (DivInv w n cp p d c t) (fun _ wr => capOf w wr) ?_ ?_
  · exact ⟨_, _, _, _, _, _, _, _, _, _, _, _, _, _, _, _, _, _, _, _, _, _, _, _, _, _, _, _, _, _, _, _, _, _, _, _, _, _, _, _, _, _, _, _, _, _, _, _, _, _, _, _, _, _, _, _, _, _, _, _, _, _, _, _, _, _, _, _, _, _, _, _, _, _, [], ⟨fun _ => 0, c, rfl, h1, .inl ⟨0, fun i _ => by show (0:Nat) = min (d i) 0; omega, by rw [show lev d n 0 = 0 by have := lev_le_mul d 0 n; omega]; omega⟩, List.Pairwise.nil, fun D hD => by simp at hD, fun D hD => by simp at hD⟩, rfl⟩
  · intro a' wr hinv
    obtain ⟨u10, u11, u12, u13, u14, u15, u16, u41, u42, u43, u44, u45, u46, u47, u48, u49, u50, u51, u52, u53, u54, u55, u56, u57, u58, u59, u60, u61, u62, u63, u64, u65, u66, u67, u68, u69, u70, u71, u72, u73, u74, u75, u76, u77, u78, u79, u80, u81, u82, u83, u84, u85, u86, u87, u88, u89, u90, u91, u92, u93, u94, u95, u96, u97, u98, u99, u100, u101, u102, u103, u104, u105, u106, u107, ml, ⟨a, cap, rfl, hW, hM, hml1, hml2, hml3⟩, rfl⟩ := hinv
    obtain ⟨ds, hds⟩ : ∃ ds, ml.map mark = ds := ⟨_, rfl⟩
    rw [hds]
    have HDS := Lib.hid hds
    have HM1 := Lib.hid hml1
    have HM3 := Lib.hid hml3
    clear hds hml1 hml3
    have hcl := countB_le (fun i => decide (a i < d i)) n
    obtain ⟨m, hm⟩ : ∃ m, countB (fun i => decide (a i < d i)) n = m := ⟨_, rfl⟩
    rw [hm] at hcl
    have HM := Lib.hid hM
    have Hm := Lib.hid hm
    have hc1 := hW.capB.cell
    have hcb : cap ≤ 1000000 := by
      rcases hM with ⟨L, _, h⟩ | ⟨h, _⟩ <;> omega
    rw [hm]
    clear hM hm
    by_cases hgo : 0 < m ∧ 0 < cap
    · obtain ⟨hg1, hg2⟩ := hgo
      obtain ⟨q, hq⟩ : ∃ q : Nat, cap / m = q := ⟨_, rfl⟩
      have hq1 : ((cap : Int) / (m : Int)) = (q : Int) := by rw [← hq]; omega
      have hq2 : q ≤ 1000000 := by rw [← hq]; exact Nat.le_trans (Nat.div_le_self _ _) hcb
      have HQ := Lib.hid hq
      have hW2 := hW.alloc (.cells #[.int .i64 (q : Nat)] 3)
      have hS2 := Boxed.new wr 3 (.int .i64 (q : Nat))
      have hml4 := hml2.others (KeepsOthers.alloc wr (.cells #[.int .i64 (q : Nat)] 3))
      have hd1 := hW2.demB.cell
      have hs1 := hW.size
      obtain ⟨S, hS⟩ : ∃ S, wr.heap.size = S := ⟨_, rfl⟩
      have HS := Lib.hid hS
      clear hq
      gi_wp2_with fail
      obtain ⟨W2, hW2e⟩ : ∃ W2, wr.alloc (.cells #[.int .i64 (q : Nat)] 3) = W2 := ⟨_, rfl⟩
      rw [hW2e] at hW2 hS2 hd1 hml4 ⊢
      rw [hS] at hS2 hs1
      clear hW2e hS hc1
      gi_loopw [54] (fun i wr => ∃ (j s : Nat), j ≤ n ∧ i = .int .i64 (j : Nat) ∧ DivW w n cp p a cap wr ∧ Boxed wr S 3 (.int .i64 (s : Nat)) ∧ StepMid d a q j s ∧ MarksAt ml wr) (fun i _ => n - (intOf i).toNat)
      case atStart => exact ⟨0, q, by omega, rfl, hW2, hS2, ⟨by omega, fun i hi => by omega, fun h => h⟩, hml4⟩
      case round =>
        obtain ⟨j, s, hj, rfl, hWj, hSj, hst, hmj⟩ := hrel
        by_cases hlt : j < n
        · skip
          obtain ⟨bl, ol, rfl, hcl⟩ := (hr'.out.below hWj.below) j hlt
          have e1 := hcl j hlt
          have e2 := hWj.row.cell hlt
          have e3 := hWj.outB.cell
          have e4 := hSj.cell
          have e5 := hSj.frozen
          have hs2 := hst.le
          have hdj := hd j hlt
          have HST := Lib.hid hst
          clear hcl hst
          by_cases hgap : a j < d j
          · obtain ⟨g, hg⟩ : ∃ g : Nat, d j - a j = g := ⟨_, rfl⟩
            have hg0 : ((d j : Nat) : Int) - ((a j : Nat) : Int) = (g : Int) := by omega
            have hg1 : g ≤ 1000000 := by omega
            have hg2 : 1 ≤ g := by omega
            have hnext : StepMid d a q (j + 1) (min s g) := by
              refine ⟨by omega, fun i hi hai => ?_, fun h => by have := HST.out.pos h; omega⟩
              by_cases e : i = j
              · subst e; omega
              · have := HST.out.gap i (by omega) hai; omega
            have HN := Lib.hid hnext
            clear hg hnext
            by_cases hsg : (g : Int) < (s : Int)
            · gi_wp2_with fail
              gi_region
              all_goals (try gi_wp2)
              exact ⟨⟨j + 1, g, by omega, by go_num, (hWj.box (by omega) _).drew, hSj.set _, by rw [show g = min s g by omega]; exact HN.out, (hmj.others (KeepsOthers.setCell _ _ _)).others (KeepsOthers.drew _)⟩, by simp [intOf]; omega⟩
            · gi_wp2_with fail
              gi_region
              all_goals (try gi_wp2)
              exact ⟨⟨j + 1, s, by omega, by go_num, (hWj.box (by omega) _).drew, hSj.set _, by rw [show s = min s g by omega]; exact HN.out, (hmj.others (KeepsOthers.setCell _ _ _)).others (KeepsOthers.drew _)⟩, by simp [intOf]; omega⟩
          · gi_wp2_with fail
            refine ⟨⟨j + 1, s, by omega, by go_num, hWj, hSj, ⟨hs2, fun i hi hai => ?_, HST.out.pos⟩, hmj⟩, by simp [intOf]; omega⟩
            by_cases e : i = j
            · subst e; omega
            · exact HST.out.gap i (by omega) hai
        · obtain rfl : j = n := by omega
          have e6 := hWj.demB.cell
          gi_wp2_with fail
          refine ⟨trivial, ?_⟩
          refine (callsIn_wide.2 (circle_any _ _ _)).mono ?_
          rintro e w3 ⟨rfl, rfl⟩
          gi_wp2_with fail
          obtain ⟨L, hL1, hL2⟩ : ∃ L, (∀ i, i < j → a i = min (d i) L) ∧ lev d j L + cap = c := HM.out.resolve_right (fun h => by omega)
          have hcnt := countB_cnt (t := t) (by omega) hL1
          rw [Hm.out] at hcnt
          obtain ⟨M, hMdef⟩ : ∃ M, (if 1 ≤ q then m else cap) = M := ⟨_, rfl⟩
          have hqd := HQ.out
          have hqm : q * m ≤ cap := by rw [← hqd]; exact Nat.div_mul_le_self _ _
          have hqz : q = 0 → cap < m := fun h => by rw [h] at hqd; exact (Nat.div_eq_zero_iff.1 hqd).resolve_left (by omega)
          have hok : GiveOk d j t L (max s 1) M cap := by
            by_cases hq1 : 1 ≤ q
            · have hs1 := hst.pos hq1
              rw [if_pos hq1] at hMdef
              have hsm : s * m ≤ q * m := Nat.mul_le_mul_right m hst.le
              refine ⟨by omega, by rw [← hMdef, Nat.max_eq_left hs1]; omega, .inr (by rw [← hMdef, hcnt]; exact Nat.le_refl _), fun i hi hLi => ?_⟩
              have h1 := hL1 i hi
              have h2 := hst.gap i hi (by omega)
              omega
            · rw [if_neg hq1] at hMdef
              have := hst.le
              have hs0 : max s 1 = 1 := by omega
              rw [hs0]
              exact ⟨by omega, by omega, .inl (by omega), fun i hi hLi => by omega⟩
          refine rangeFunc_open rfl (by omega) (gf := 38) (lb := #[.pointer (some ⟨wr.heap.size + 1, 0, none⟩), .pointer (some ⟨wr.heap.size, 0, none⟩)]) rfl trivial (enters_of Try.func38 (by kernel_rfl) rfl) (wr.heap.size + 2) (by simp) ?_
          intro W1 r _ hr1 hLp ⟨o1, o2, hW1⟩
          refine (circle1_in 4 (wr.heap.size + 3) (wr.heap.size + 1) wr.heap.size t j (by omega) (by omega) (by omega) (GiveAt w j cp p d t L (max s 1) M cap S wr.heap.size s r ml) ?hY ?hb W1 ?h0).mono ?_
          case hb => exact fun k W h => ⟨h.num.cell, h.frm.cell⟩
          case h0 =>
            rw [hW1] at hLp ⊢
            refine ⟨?_, ?_, ?_, ?_, ?_, hLp⟩
            · exact (((hmj.others (KeepsOthers.alloc _ _)).others (KeepsOthers.alloc _ _)).others (KeepsOthers.alloc _ _)).others (KeepsOthers.alloc _ _)
            · have := (((hWj.alloc (.cells #[.int .i64 (t : Nat)] 3)).alloc (.cells #[.int .i64 (j : Nat)] 3)).alloc o1).alloc o2
              refine this.congr (fun i hi => by rw [give_zero, hL1 i hi]) ?_
              unfold capAt; simp [cnt]
            · exact (((hSj.alloc _).alloc _).alloc _).alloc _
            · exact (((Boxed.new wr _ _).alloc _).alloc _).alloc _
            · have := ((Boxed.new (wr.alloc (.cells #[.int .i64 (t : Nat)] 3)) 3 (.int .i64 (j : Nat))).alloc o1).alloc o2
              rwa [World.size_alloc] at this
          case hY =>
            intro k W hk hG
            have hi0 : (t + k) % j < j := Nat.mod_lt _ (by omega)
            have hS4 : w.heap.size + 4 ≤ S := hs1
            have hSX : S < wr.heap.size := hSj.lt
            have hb2 := hG.busy hS4 hSX
            have hbg := hG.loop.begin (P := Try.prog)
            have hstep := fun i (hi : i < j) => give_step (d := d) (L := L) (s := max s 1) (M := M) ht hk i hi
            have hhere := give_here (d := d) (L := L) (s := max s 1) (M := M) ht hk
            have hpos := fun ho => capAt_pos (t := t) (k := k) hok hk ho
            have hgiv := fun ho hc => capAt_give (d := d) (n := j) (t := t) (k := k) hok ho hc
            have hskp := fun h => capAt_skip (d := d) (n := j) (t := t) (L := L) (s := max s 1) (M := M) (k := k) (cap := cap) h
            have hs2 := hst.le
            obtain ⟨i, hi⟩ : ∃ i, (t + k) % j = i := ⟨_, rfl⟩
            rw [show ((t : Int) + (k : Int)) % (j : Int) = (i : Nat) by rw [← hi]; simp]
            rw [hi] at hi0 hhere hpos hstep hgiv hskp
            refine (yield_open (On := fun W' => GiveAt w j cp p d t L (max s 1) M cap S wr.heap.size s r ml (k + 1) W') (Out := fun _ _ => False) hG.loop trivial hr1 rfl ?_).mono ?_
            · intro R hR
              have HR := Lib.hid hR
              have HG := Lib.hid hbg
              have HS := Lib.hid hstep
              have HP := Lib.hid hpos
              have HV := Lib.hid hgiv
              have HK := Lib.hid hskp
              clear hR hbg hstep hpos hgiv hskp hG hok hL1 hL2 hcnt hMdef hqd hqm hqz e6 hSj hWj hst hi hr1 hLp hW1
              gi_wp2
              refine ⟨_, HG.out, ?_⟩
              generalize (W.putObj (wr.heap.size + 3) (.loop { r with state := .busy, pending := none })) = W2 at *
              obtain ⟨bl, ol, rfl, hcl⟩ := (hr'.out.below hb2.mem.below) i hi0
              have x1 : W2.cell? ⟨bl, ol + i, none⟩ = some (.int .i64 ((d i : Nat) : Int)) := hcl i hi0
              have x2 := hb2.mem.demB.cell
              have x3 := hb2.mem.outB.cell
              have x4 := hb2.mem.row.cell hi0
              have x5 := hb2.mem.row.frozen (i := i)
              have x6 := hb2.mem.capB.cell
              have x7 := hb2.mem.capB.frozen
              have x8 := hb2.step.cell
              have hdi := hd i hi0
              have hck : capAt d j t L (max s 1) M cap k ≤ cap := capAt_le
              rw [hhere] at x4
              obtain ⟨ck, hck2⟩ : ∃ ck, capAt d j t L (max s 1) M cap k = ck := ⟨_, rfl⟩
              obtain ⟨di, hdi2⟩ : ∃ di, d i = di := ⟨_, rfl⟩
              rw [hck2] at x6 hck hb2
              rw [hdi2] at x1 x4 hdi
              have HB := Lib.hid hb2
              have HC2 := Lib.hid hck2
              have HD2 := Lib.hid hdi2
              have HH := Lib.hid hhere
              clear hcl hb2 hck2 hdi2 hhere
              by_cases ho : L < di
              · have y1 : min di L = L := by omega
                rw [y1] at x4
                have y3 : L ≤ 1000000 := by omega
                have y4 : s ≤ 1000000 := by omega
                clear y1
                by_cases hcp : 0 < ck
                · by_cases hs0 : 1 ≤ s
                  · skip
                    have hc0 := (HP.out (by rw [HD2.out]; exact ho)).1 (by rw [HC2.out]; exact hcp)
                    have hck3 := HV.out (by rw [HD2.out]; exact ho) hc0
                    rw [HC2.out] at hck3
                    have z1 : IntKind.i64.wrap ((L : Int) + (s : Int)) = ((L + s : Nat) : Int) := by rw [IntWalk.i64_in _ (by omega)]; omega
                    have z2 : IntKind.i64.wrap ((ck : Int) - (s : Int)) = ((ck - s : Nat) : Int) := by rw [IntWalk.i64_in _ (by omega)]; omega
                    have z3 : (0 : Int) ≤ (i : Int) := by omega
                    have z4 : (i : Int) < (j : Int) := by omega
                    have z5 : i < j := hi0
                    have z6 : (0 : Int) < (di : Int) - (L : Int) := by omega
                    have HCK := Lib.hid hck3
                    have HC0 := Lib.hid hc0
                    clear hck3 hc0
                    gi_wp2
                    refine region_R (fun k W => match k with | 0 => W.cell? ⟨w.heap.size + 1, 0, none⟩ = some (.slice (some ⟨bl, ol, none⟩) j cp) | 3 => W.cell? ⟨bl, ol + i, none⟩ = some (.int .i64 ((di : Nat) : Int)) | 4 => W.cell? ⟨w.heap.size + 3, 0, none⟩ = some (.slice (some ⟨w.heap.size + 2, 0, none⟩) j j) | 7 => W.cell? ⟨w.heap.size + 2, i, none⟩ = some (.int .i64 ((L : Nat) : Int)) | _ => True) (by kernel_rfl) ?_
                    refine wpAnyR_take (i := 0) (v := ?_) (noDefer_of rfl) rfl (by kernel_rfl) (by kernel_rfl) (by kernel_rfl) ?_ rfl (fun _ => rfl) ?_ (fun W hW => ?_) ?_
                    rotate_left
                    · rw [HR.out]; exact fun _ _ _ h => h
                    · exact x2
                    · have hW' : W.cell? ⟨w.heap.size + 1, 0, none⟩ = some (.slice (some ⟨bl, ol, none⟩) j cp) := hW
                      go_simp
                      all_goals with_reducible rfl
                    refine wpAnyR_take (i := 1) (v := ?_) (noDefer_of rfl) rfl (by kernel_rfl) (by kernel_rfl) (by kernel_rfl) ?_ rfl (fun _ => rfl) ?_ (fun W hW => ?_) ?_
                    rotate_left
                    · rw [HR.out]; exact fun _ _ _ h => h
                    · trivial
                    · go_simp
                      all_goals with_reducible rfl
                    refine wpAnyR_take (i := 2) (v := ?_) (noDefer_of rfl) rfl (by kernel_rfl) (by kernel_rfl) (by kernel_rfl) ?_ rfl (fun _ => rfl) ?_ (fun W hW => ?_) ?_
                    rotate_left
                    · rw [HR.out]; exact fun _ _ _ h => h
                    · trivial
                    · go_simp
                      all_goals with_reducible rfl
                    refine wpAnyR_take (i := 3) (v := ?_) (noDefer_of rfl) rfl (by kernel_rfl) (by kernel_rfl) (by kernel_rfl) ?_ rfl (fun _ => rfl) ?_ (fun W hW => ?_) ?_
                    rotate_left
                    · rw [HR.out]; exact fun _ _ _ h => h
                    · exact x1
                    · have hW' : W.cell? ⟨bl, ol + i, none⟩ = some (.int .i64 ((di : Nat) : Int)) := hW
                      go_simp
                      all_goals with_reducible rfl
                    refine wpAnyR_take (i := 4) (v := ?_) (noDefer_of rfl) rfl (by kernel_rfl) (by kernel_rfl) (by kernel_rfl) ?_ rfl (fun _ => rfl) ?_ (fun W hW => ?_) ?_
                    rotate_left
                    · rw [HR.out]; exact fun _ _ _ h => h
                    · exact x3
                    · have hW' : W.cell? ⟨w.heap.size + 3, 0, none⟩ = some (.slice (some ⟨w.heap.size + 2, 0, none⟩) j j) := hW
                      go_simp
                      all_goals with_reducible rfl
                    refine wpAnyR_take (i := 5) (v := ?_) (noDefer_of rfl) rfl (by kernel_rfl) (by kernel_rfl) (by kernel_rfl) ?_ rfl (fun _ => rfl) ?_ (fun W hW => ?_) ?_
                    rotate_left
                    · rw [HR.out]; exact fun _ _ _ h => h
                    · trivial
                    · go_simp
                      all_goals with_reducible rfl
                    refine wpAnyR_take (i := 6) (v := ?_) (noDefer_of rfl) rfl (by kernel_rfl) (by kernel_rfl) (by kernel_rfl) ?_ rfl (fun _ => rfl) ?_ (fun W hW => ?_) ?_
                    rotate_left
                    · rw [HR.out]; exact fun _ _ _ h => h
                    · trivial
                    · go_simp
                      all_goals with_reducible rfl
                    refine wpAnyR_take (i := 7) (v := ?_) (noDefer_of rfl) rfl (by kernel_rfl) (by kernel_rfl) (by kernel_rfl) ?_ rfl (fun _ => rfl) ?_ (fun W hW => ?_) ?_
                    rotate_left
                    · rw [HR.out]; exact fun _ _ _ h => h
                    · exact x4
                    · have hW' : W.cell? ⟨w.heap.size + 2, i, none⟩ = some (.int .i64 ((L : Nat) : Int)) := hW
                      go_simp
                      all_goals with_reducible rfl
                    refine wpAnyR_take (i := 8) (v := ?_) (noDefer_of rfl) rfl (by kernel_rfl) (by kernel_rfl) (by kernel_rfl) ?_ rfl (fun _ => rfl) ?_ (fun W hW => ?_) ?_
                    rotate_left
                    · rw [HR.out]; exact fun _ _ _ h => h
                    · trivial
                    · go_simp
                      all_goals with_reducible rfl
                    refine wpAnyR_take (i := 9) (v := ?_) (noDefer_of rfl) rfl (by kernel_rfl) (by kernel_rfl) (by kernel_rfl) ?_ rfl (fun _ => rfl) ?_ (fun W hW => ?_) ?_
                    rotate_left
                    · rw [HR.out]; exact fun _ _ _ h => h
                    · trivial
                    · go_simp
                      all_goals with_reducible rfl
                    refine wpAnyR_done (by kernel_rfl) ?_ _
                    gi_wp2
                    refine region_R (fun k W => match k with | 0 => W.cell? ⟨w.heap.size + 3, 0, none⟩ = some (.slice (some ⟨w.heap.size + 2, 0, none⟩) j j) | 2 => W.cell? ⟨w.heap.size + 3, 0, none⟩ = some (.slice (some ⟨w.heap.size + 2, 0, none⟩) j j) | 5 => W.cell? ⟨w.heap.size + 2, i, none⟩ = some (.int .i64 ((L : Nat) : Int)) | 8 => W.cell? ⟨w.heap.size, 0, none⟩ = some (.int .i64 ((ck : Nat) : Int)) | _ => True) (by kernel_rfl) ?_
                    refine wpAnyR_take (i := 0) (v := ?_) (noDefer_of rfl) rfl (by kernel_rfl) (by kernel_rfl) (by kernel_rfl) ?_ rfl (fun _ => rfl) ?_ (fun W hW => ?_) ?_
                    rotate_left
                    · rw [HR.out]; exact fun _ _ _ h => h
                    · exact x3
                    · have hW' : W.cell? ⟨w.heap.size + 3, 0, none⟩ = some (.slice (some ⟨w.heap.size + 2, 0, none⟩) j j) := hW
                      go_simp
                      all_goals with_reducible rfl
                    refine wpAnyR_take (i := 1) (v := ?_) (noDefer_of rfl) rfl (by kernel_rfl) (by kernel_rfl) (by kernel_rfl) ?_ rfl (fun _ => rfl) ?_ (fun W hW => ?_) ?_
                    rotate_left
                    · rw [HR.out]; exact fun _ _ _ h => h
                    · trivial
                    · go_simp
                      all_goals with_reducible rfl
                    refine wpAnyR_take (i := 2) (v := ?_) (noDefer_of rfl) rfl (by kernel_rfl) (by kernel_rfl) (by kernel_rfl) ?_ rfl (fun _ => rfl) ?_ (fun W hW => ?_) ?_
                    rotate_left
                    · rw [HR.out]; exact fun _ _ _ h => h
                    · exact x3
                    · have hW' : W.cell? ⟨w.heap.size + 3, 0, none⟩ = some (.slice (some ⟨w.heap.size + 2, 0, none⟩) j j) := hW
                      go_simp
                      all_goals with_reducible rfl
                    refine wpAnyR_take (i := 3) (v := ?_) (noDefer_of rfl) rfl (by kernel_rfl) (by kernel_rfl) (by kernel_rfl) ?_ rfl (fun _ => rfl) ?_ (fun W hW => ?_) ?_
                    rotate_left
                    · rw [HR.out]; exact fun _ _ _ h => h
                    · trivial
                    · go_simp
                      all_goals with_reducible rfl
                    refine wpAnyR_take (i := 4) (v := ?_) (noDefer_of rfl) rfl (by kernel_rfl) (by kernel_rfl) (by kernel_rfl) ?_ rfl (fun _ => rfl) ?_ (fun W hW => ?_) ?_
                    rotate_left
                    · rw [HR.out]; exact fun _ _ _ h => h
                    · trivial
                    · go_simp
                      all_goals with_reducible rfl
                    refine wpAnyR_take (i := 5) (v := ?_) (noDefer_of rfl) rfl (by kernel_rfl) (by kernel_rfl) (by kernel_rfl) ?_ rfl (fun _ => rfl) ?_ (fun W hW => ?_) ?_
                    rotate_left
                    · rw [HR.out]; exact fun _ _ _ h => h
                    · exact x4
                    · have hW' : W.cell? ⟨w.heap.size + 2, i, none⟩ = some (.int .i64 ((L : Nat) : Int)) := hW
                      go_simp
                      all_goals with_reducible rfl
                    refine wpAnyR_take (i := 6) (v := ?_) (noDefer_of rfl) rfl (by kernel_rfl) (by kernel_rfl) (by kernel_rfl) ?_ rfl (fun _ => rfl) ?_ (fun W hW => ?_) ?_
                    rotate_left
                    · rw [HR.out]; exact fun _ _ _ h => h
                    · trivial
                    · go_simp
                      all_goals with_reducible rfl
                    refine wpAnyR_take (i := 7) (v := ?_) (noDefer_of rfl) rfl (by kernel_rfl) (by kernel_rfl) (by kernel_rfl) ?_ rfl (fun _ => rfl) ?_ (fun W hW => ?_) ?_
                    rotate_left
                    · rw [HR.out]; exact fun _ _ _ h => h
                    · trivial
                    · go_simp
                      all_goals with_reducible rfl
                    refine wpAnyR_take (i := 8) (v := ?_) (noDefer_of rfl) rfl (by kernel_rfl) (by kernel_rfl) (by kernel_rfl) ?_ rfl (fun _ => rfl) ?_ (fun W hW => ?_) ?_
                    rotate_left
                    · rw [HR.out]; exact fun _ _ _ h => h
                    · exact x6
                    · have hW' : W.cell? ⟨w.heap.size, 0, none⟩ = some (.int .i64 ((ck : Nat) : Int)) := hW
                      go_simp
                      all_goals with_reducible rfl
                    refine wpAnyR_take (i := 9) (v := ?_) (noDefer_of rfl) rfl (by kernel_rfl) (by kernel_rfl) (by kernel_rfl) ?_ rfl (fun _ => rfl) ?_ (fun W hW => ?_) ?_
                    rotate_left
                    · rw [HR.out]; exact fun _ _ _ h => h
                    · trivial
                    · go_simp
                      all_goals with_reducible rfl
                    refine wpAnyR_take (i := 10) (v := ?_) (noDefer_of rfl) rfl (by kernel_rfl) (by kernel_rfl) (by kernel_rfl) ?_ rfl (fun _ => rfl) ?_ (fun W hW => ?_) ?_
                    rotate_left
                    · rw [HR.out]; exact fun _ _ _ h => h
                    · trivial
                    · go_simp
                      all_goals with_reducible rfl
                    refine wpAnyR_take (i := 11) (v := ?_) (noDefer_of rfl) rfl (by kernel_rfl) (by kernel_rfl) (by kernel_rfl) ?_ rfl (fun _ => rfl) ?_ (fun W hW => ?_) ?_
                    rotate_left
                    · rw [HR.out]; exact fun _ _ _ h => h
                    · trivial
                    · go_simp
                      all_goals with_reducible rfl
                    refine wpAnyR_one (i := 12) rfl (by kernel_rfl) rfl (fun K hK => ?_)
                    go_simp
                    refine hK _ _ (fun k hk hT => ?_) ?_
                    · rcases k with _ | _ | _ | _ | _ | _ | _ | _ | _ | k
                      all_goals first | trivial | exact absurd hk (by decide) | (show World.cell? _ ⟨w.heap.size, 0, none⟩ = some (.int .i64 ((ck : Nat) : Int)); go_simp)
                    clear hK K
                    refine wpAnyR_one (i := 13) rfl (by kernel_rfl) rfl (fun K hK => ?_)
                    go_simp
                    refine hK _ _ (fun k hk hT => ?_) ?_
                    · rcases k with _ | _ | _ | _ | _ | _ | _ | _ | _ | k
                      all_goals first | trivial | exact absurd hk (by decide)
                    clear hK K
                    refine wpAnyR_done (by kernel_rfl) ?_ _
                    gi_wp2
                    clear z1 z2 z3 z4 z5 z6
                    rw [HR.out]
                    refine (((HB.out.setRow i (L + s)).setCap (ck - s)).drew.drew).done (fun i' hi' => ?_) ?_
                    · rw [HS.out i' hi', HD2.out]
                      by_cases e : i' = i
                      · rw [if_pos e, if_pos ⟨ho, HC0.out⟩, if_pos e]; omega
                      · rw [if_neg e, if_neg e]
                    · have := HCK.out; omega
                  · obtain rfl : s = 0 := by omega
                    have hc0 := (HP.out (by rw [HD2.out]; exact ho)).1 (by rw [HC2.out]; exact hcp)
                    have hck3 := HV.out (by rw [HD2.out]; exact ho) hc0
                    rw [HC2.out] at hck3
                    have z1 : IntKind.i64.wrap ((L : Int) + 1) = ((L + 1 : Nat) : Int) := by rw [IntWalk.i64_in _ (by omega)]; omega
                    have z2 : IntKind.i64.wrap ((ck : Int) - 1) = ((ck - 1 : Nat) : Int) := by rw [IntWalk.i64_in _ (by omega)]; omega
                    have z3 : (0 : Int) ≤ (i : Int) := by omega
                    have z4 : (i : Int) < (j : Int) := by omega
                    have z5 : i < j := hi0
                    have z6 : (0 : Int) < (di : Int) - (L : Int) := by omega
                    have HCK := Lib.hid hck3
                    have HC0 := Lib.hid hc0
                    clear hck3 hc0
                    gi_wp2
                    refine region_R (fun k W => match k with | 0 => W.cell? ⟨w.heap.size + 1, 0, none⟩ = some (.slice (some ⟨bl, ol, none⟩) j cp) | 3 => W.cell? ⟨bl, ol + i, none⟩ = some (.int .i64 ((di : Nat) : Int)) | 4 => W.cell? ⟨w.heap.size + 3, 0, none⟩ = some (.slice (some ⟨w.heap.size + 2, 0, none⟩) j j) | 7 => W.cell? ⟨w.heap.size + 2, i, none⟩ = some (.int .i64 ((L : Nat) : Int)) | _ => True) (by kernel_rfl) ?_
                    refine wpAnyR_take (i := 0) (v := ?_) (noDefer_of rfl) rfl (by kernel_rfl) (by kernel_rfl) (by kernel_rfl) ?_ rfl (fun _ => rfl) ?_ (fun W hW => ?_) ?_
                    rotate_left
                    · rw [HR.out]; exact fun _ _ _ h => h
                    · exact x2
                    · have hW' : W.cell? ⟨w.heap.size + 1, 0, none⟩ = some (.slice (some ⟨bl, ol, none⟩) j cp) := hW
                      go_simp
                      all_goals with_reducible rfl
                    refine wpAnyR_take (i := 1) (v := ?_) (noDefer_of rfl) rfl (by kernel_rfl) (by kernel_rfl) (by kernel_rfl) ?_ rfl (fun _ => rfl) ?_ (fun W hW => ?_) ?_
                    rotate_left
                    · rw [HR.out]; exact fun _ _ _ h => h
                    · trivial
                    · go_simp
                      all_goals with_reducible rfl
                    refine wpAnyR_take (i := 2) (v := ?_) (noDefer_of rfl) rfl (by kernel_rfl) (by kernel_rfl) (by kernel_rfl) ?_ rfl (fun _ => rfl) ?_ (fun W hW => ?_) ?_
                    rotate_left
                    · rw [HR.out]; exact fun _ _ _ h => h
                    · trivial
                    · go_simp
                      all_goals with_reducible rfl
                    refine wpAnyR_take (i := 3) (v := ?_) (noDefer_of rfl) rfl (by kernel_rfl) (by kernel_rfl) (by kernel_rfl) ?_ rfl (fun _ => rfl) ?_ (fun W hW => ?_) ?_
                    rotate_left
                    · rw [HR.out]; exact fun _ _ _ h => h
                    · exact x1
                    · have hW' : W.cell? ⟨bl, ol + i, none⟩ = some (.int .i64 ((di : Nat) : Int)) := hW
                      go_simp
                      all_goals with_reducible rfl
                    refine wpAnyR_take (i := 4) (v := ?_) (noDefer_of rfl) rfl (by kernel_rfl) (by kernel_rfl) (by kernel_rfl) ?_ rfl (fun _ => rfl) ?_ (fun W hW => ?_) ?_
                    rotate_left
                    · rw [HR.out]; exact fun _ _ _ h => h
                    · exact x3
                    · have hW' : W.cell? ⟨w.heap.size + 3, 0, none⟩ = some (.slice (some ⟨w.heap.size + 2, 0, none⟩) j j) := hW
                      go_simp
                      all_goals with_reducible rfl
                    refine wpAnyR_take (i := 5) (v := ?_) (noDefer_of rfl) rfl (by kernel_rfl) (by kernel_rfl) (by kernel_rfl) ?_ rfl (fun _ => rfl) ?_ (fun W hW => ?_) ?_
                    rotate_left
                    · rw [HR.out]; exact fun _ _ _ h => h
                    · trivial
                    · go_simp
                      all_goals with_reducible rfl
                    refine wpAnyR_take (i := 6) (v := ?_) (noDefer_of rfl) rfl (by kernel_rfl) (by kernel_rfl) (by kernel_rfl) ?_ rfl (fun _ => rfl) ?_ (fun W hW => ?_) ?_
                    rotate_left
                    · rw [HR.out]; exact fun _ _ _ h => h
                    · trivial
                    · go_simp
                      all_goals with_reducible rfl
                    refine wpAnyR_take (i := 7) (v := ?_) (noDefer_of rfl) rfl (by kernel_rfl) (by kernel_rfl) (by kernel_rfl) ?_ rfl (fun _ => rfl) ?_ (fun W hW => ?_) ?_
                    rotate_left
                    · rw [HR.out]; exact fun _ _ _ h => h
                    · exact x4
                    · have hW' : W.cell? ⟨w.heap.size + 2, i, none⟩ = some (.int .i64 ((L : Nat) : Int)) := hW
                      go_simp
                      all_goals with_reducible rfl
                    refine wpAnyR_take (i := 8) (v := ?_) (noDefer_of rfl) rfl (by kernel_rfl) (by kernel_rfl) (by kernel_rfl) ?_ rfl (fun _ => rfl) ?_ (fun W hW => ?_) ?_
                    rotate_left
                    · rw [HR.out]; exact fun _ _ _ h => h
                    · trivial
                    · go_simp
                      all_goals with_reducible rfl
                    refine wpAnyR_take (i := 9) (v := ?_) (noDefer_of rfl) rfl (by kernel_rfl) (by kernel_rfl) (by kernel_rfl) ?_ rfl (fun _ => rfl) ?_ (fun W hW => ?_) ?_
                    rotate_left
                    · rw [HR.out]; exact fun _ _ _ h => h
                    · trivial
                    · go_simp
                      all_goals with_reducible rfl
                    refine wpAnyR_done (by kernel_rfl) ?_ _
                    gi_wp2
                    refine region_R (fun k W => match k with | 0 => W.cell? ⟨w.heap.size + 3, 0, none⟩ = some (.slice (some ⟨w.heap.size + 2, 0, none⟩) j j) | 2 => W.cell? ⟨w.heap.size + 3, 0, none⟩ = some (.slice (some ⟨w.heap.size + 2, 0, none⟩) j j) | 5 => W.cell? ⟨w.heap.size + 2, i, none⟩ = some (.int .i64 ((L : Nat) : Int)) | 8 => W.cell? ⟨w.heap.size, 0, none⟩ = some (.int .i64 ((ck : Nat) : Int)) | _ => True) (by kernel_rfl) ?_
                    refine wpAnyR_take (i := 0) (v := ?_) (noDefer_of rfl) rfl (by kernel_rfl) (by kernel_rfl) (by kernel_rfl) ?_ rfl (fun _ => rfl) ?_ (fun W hW => ?_) ?_
                    rotate_left
                    · rw [HR.out]; exact fun _ _ _ h => h
                    · exact x3
                    · have hW' : W.cell? ⟨w.heap.size + 3, 0, none⟩ = some (.slice (some ⟨w.heap.size + 2, 0, none⟩) j j) := hW
                      go_simp
                      all_goals with_reducible rfl
                    refine wpAnyR_take (i := 1) (v := ?_) (noDefer_of rfl) rfl (by kernel_rfl) (by kernel_rfl) (by kernel_rfl) ?_ rfl (fun _ => rfl) ?_ (fun W hW => ?_) ?_
                    rotate_left
                    · rw [HR.out]; exact fun _ _ _ h => h
                    · trivial
                    · go_simp
                      all_goals with_reducible rfl
                    refine wpAnyR_take (i := 2) (v := ?_) (noDefer_of rfl) rfl (by kernel_rfl) (by kernel_rfl) (by kernel_rfl) ?_ rfl (fun _ => rfl) ?_ (fun W hW => ?_) ?_
                    rotate_left
                    · rw [HR.out]; exact fun _ _ _ h => h
                    · exact x3
                    · have hW' : W.cell? ⟨w.heap.size + 3, 0, none⟩ = some (.slice (some ⟨w.heap.size + 2, 0, none⟩) j j) := hW
                      go_simp
                      all_goals with_reducible rfl
                    refine wpAnyR_take (i := 3) (v := ?_) (noDefer_of rfl) rfl (by kernel_rfl) (by kernel_rfl) (by kernel_rfl) ?_ rfl (fun _ => rfl) ?_ (fun W hW => ?_) ?_
                    rotate_left
                    · rw [HR.out]; exact fun _ _ _ h => h
                    · trivial
                    · go_simp
                      all_goals with_reducible rfl
                    refine wpAnyR_take (i := 4) (v := ?_) (noDefer_of rfl) rfl (by kernel_rfl) (by kernel_rfl) (by kernel_rfl) ?_ rfl (fun _ => rfl) ?_ (fun W hW => ?_) ?_
                    rotate_left
                    · rw [HR.out]; exact fun _ _ _ h => h
                    · trivial
                    · go_simp
                      all_goals with_reducible rfl
                    refine wpAnyR_take (i := 5) (v := ?_) (noDefer_of rfl) rfl (by kernel_rfl) (by kernel_rfl) (by kernel_rfl) ?_ rfl (fun _ => rfl) ?_ (fun W hW => ?_) ?_
                    rotate_left
                    · rw [HR.out]; exact fun _ _ _ h => h
                    · exact x4
                    · have hW' : W.cell? ⟨w.heap.size + 2, i, none⟩ = some (.int .i64 ((L : Nat) : Int)) := hW
                      go_simp
                      all_goals with_reducible rfl
                    refine wpAnyR_take (i := 6) (v := ?_) (noDefer_of rfl) rfl (by kernel_rfl) (by kernel_rfl) (by kernel_rfl) ?_ rfl (fun _ => rfl) ?_ (fun W hW => ?_) ?_
                    rotate_left
                    · rw [HR.out]; exact fun _ _ _ h => h
                    · trivial
                    · go_simp
                      all_goals with_reducible rfl
                    refine wpAnyR_take (i := 7) (v := ?_) (noDefer_of rfl) rfl (by kernel_rfl) (by kernel_rfl) (by kernel_rfl) ?_ rfl (fun _ => rfl) ?_ (fun W hW => ?_) ?_
                    rotate_left
                    · rw [HR.out]; exact fun _ _ _ h => h
                    · trivial
                    · go_simp
                      all_goals with_reducible rfl
                    refine wpAnyR_take (i := 8) (v := ?_) (noDefer_of rfl) rfl (by kernel_rfl) (by kernel_rfl) (by kernel_rfl) ?_ rfl (fun _ => rfl) ?_ (fun W hW => ?_) ?_
                    rotate_left
                    · rw [HR.out]; exact fun _ _ _ h => h
                    · exact x6
                    · have hW' : W.cell? ⟨w.heap.size, 0, none⟩ = some (.int .i64 ((ck : Nat) : Int)) := hW
                      go_simp
                      all_goals with_reducible rfl
                    refine wpAnyR_take (i := 9) (v := ?_) (noDefer_of rfl) rfl (by kernel_rfl) (by kernel_rfl) (by kernel_rfl) ?_ rfl (fun _ => rfl) ?_ (fun W hW => ?_) ?_
                    rotate_left
                    · rw [HR.out]; exact fun _ _ _ h => h
                    · trivial
                    · go_simp
                      all_goals with_reducible rfl
                    refine wpAnyR_take (i := 10) (v := ?_) (noDefer_of rfl) rfl (by kernel_rfl) (by kernel_rfl) (by kernel_rfl) ?_ rfl (fun _ => rfl) ?_ (fun W hW => ?_) ?_
                    rotate_left
                    · rw [HR.out]; exact fun _ _ _ h => h
                    · trivial
                    · go_simp
                      all_goals with_reducible rfl
                    refine wpAnyR_take (i := 11) (v := ?_) (noDefer_of rfl) rfl (by kernel_rfl) (by kernel_rfl) (by kernel_rfl) ?_ rfl (fun _ => rfl) ?_ (fun W hW => ?_) ?_
                    rotate_left
                    · rw [HR.out]; exact fun _ _ _ h => h
                    · trivial
                    · go_simp
                      all_goals with_reducible rfl
                    refine wpAnyR_one (i := 12) rfl (by kernel_rfl) rfl (fun K hK => ?_)
                    go_simp
                    refine hK _ _ (fun k hk hT => ?_) ?_
                    · rcases k with _ | _ | _ | _ | _ | _ | _ | _ | _ | k
                      all_goals first | trivial | exact absurd hk (by decide) | (show World.cell? _ ⟨w.heap.size, 0, none⟩ = some (.int .i64 ((ck : Nat) : Int)); go_simp)
                    clear hK K
                    refine wpAnyR_one (i := 13) rfl (by kernel_rfl) rfl (fun K hK => ?_)
                    go_simp
                    refine hK _ _ (fun k hk hT => ?_) ?_
                    · rcases k with _ | _ | _ | _ | _ | _ | _ | _ | _ | k
                      all_goals first | trivial | exact absurd hk (by decide)
                    clear hK K
                    refine wpAnyR_done (by kernel_rfl) ?_ _
                    gi_wp2
                    clear z1 z2 z3 z4 z5 z6
                    rw [HR.out]
                    refine (((HB.out.setRow i (L + 1)).setCap (ck - 1)).drew.drew).done (fun i' hi' => ?_) ?_
                    · rw [HS.out i' hi', HD2.out]
                      by_cases e : i' = i
                      · rw [if_pos e, if_pos ⟨ho, HC0.out⟩, if_pos e]; omega
                      · rw [if_neg e, if_neg e]
                    · have := HCK.out; omega
                · obtain rfl : ck = 0 := by omega
                  have z6 : (0 : Int) < (di : Int) - (L : Int) := by omega
                  gi_wp2
                  refine region_R (fun k W => match k with | 0 => W.cell? ⟨w.heap.size + 1, 0, none⟩ = some (.slice (some ⟨bl, ol, none⟩) j cp) | 3 => W.cell? ⟨bl, ol + i, none⟩ = some (.int .i64 ((di : Nat) : Int)) | 4 => W.cell? ⟨w.heap.size + 3, 0, none⟩ = some (.slice (some ⟨w.heap.size + 2, 0, none⟩) j j) | 7 => W.cell? ⟨w.heap.size + 2, i, none⟩ = some (.int .i64 ((L : Nat) : Int)) | _ => True) (by kernel_rfl) ?_
                  refine wpAnyR_take (i := 0) (v := ?_) (noDefer_of rfl) rfl (by kernel_rfl) (by kernel_rfl) (by kernel_rfl) ?_ rfl (fun _ => rfl) ?_ (fun W hW => ?_) ?_
                  rotate_left
                  · rw [HR.out]; exact fun _ _ _ h => h
                  · exact x2
                  · have hW' : W.cell? ⟨w.heap.size + 1, 0, none⟩ = some (.slice (some ⟨bl, ol, none⟩) j cp) := hW
                    go_simp
                    all_goals with_reducible rfl
                  refine wpAnyR_take (i := 1) (v := ?_) (noDefer_of rfl) rfl (by kernel_rfl) (by kernel_rfl) (by kernel_rfl) ?_ rfl (fun _ => rfl) ?_ (fun W hW => ?_) ?_
                  rotate_left
                  · rw [HR.out]; exact fun _ _ _ h => h
                  · trivial
                  · go_simp
                    all_goals with_reducible rfl
                  refine wpAnyR_take (i := 2) (v := ?_) (noDefer_of rfl) rfl (by kernel_rfl) (by kernel_rfl) (by kernel_rfl) ?_ rfl (fun _ => rfl) ?_ (fun W hW => ?_) ?_
                  rotate_left
                  · rw [HR.out]; exact fun _ _ _ h => h
                  · trivial
                  · go_simp
                    all_goals with_reducible rfl
                  refine wpAnyR_take (i := 3) (v := ?_) (noDefer_of rfl) rfl (by kernel_rfl) (by kernel_rfl) (by kernel_rfl) ?_ rfl (fun _ => rfl) ?_ (fun W hW => ?_) ?_
                  rotate_left
                  · rw [HR.out]; exact fun _ _ _ h => h
                  · exact x1
                  · have hW' : W.cell? ⟨bl, ol + i, none⟩ = some (.int .i64 ((di : Nat) : Int)) := hW
                    go_simp
                    all_goals with_reducible rfl
                  refine wpAnyR_take (i := 4) (v := ?_) (noDefer_of rfl) rfl (by kernel_rfl) (by kernel_rfl) (by kernel_rfl) ?_ rfl (fun _ => rfl) ?_ (fun W hW => ?_) ?_
                  rotate_left
                  · rw [HR.out]; exact fun _ _ _ h => h
                  · exact x3
                  · have hW' : W.cell? ⟨w.heap.size + 3, 0, none⟩ = some (.slice (some ⟨w.heap.size + 2, 0, none⟩) j j) := hW
                    go_simp
                    all_goals with_reducible rfl
                  refine wpAnyR_take (i := 5) (v := ?_) (noDefer_of rfl) rfl (by kernel_rfl) (by kernel_rfl) (by kernel_rfl) ?_ rfl (fun _ => rfl) ?_ (fun W hW => ?_) ?_
                  rotate_left
                  · rw [HR.out]; exact fun _ _ _ h => h
                  · trivial
                  · go_simp
                    all_goals with_reducible rfl
                  refine wpAnyR_take (i := 6) (v := ?_) (noDefer_of rfl) rfl (by kernel_rfl) (by kernel_rfl) (by kernel_rfl) ?_ rfl (fun _ => rfl) ?_ (fun W hW => ?_) ?_
                  rotate_left
                  · rw [HR.out]; exact fun _ _ _ h => h
                  · trivial
                  · go_simp
                    all_goals with_reducible rfl
                  refine wpAnyR_take (i := 7) (v := ?_) (noDefer_of rfl) rfl (by kernel_rfl) (by kernel_rfl) (by kernel_rfl) ?_ rfl (fun _ => rfl) ?_ (fun W hW => ?_) ?_
                  rotate_left
                  · rw [HR.out]; exact fun _ _ _ h => h
                  · exact x4
                  · have hW' : W.cell? ⟨w.heap.size + 2, i, none⟩ = some (.int .i64 ((L : Nat) : Int)) := hW
                    go_simp
                    all_goals with_reducible rfl
                  refine wpAnyR_take (i := 8) (v := ?_) (noDefer_of rfl) rfl (by kernel_rfl) (by kernel_rfl) (by kernel_rfl) ?_ rfl (fun _ => rfl) ?_ (fun W hW => ?_) ?_
                  rotate_left
                  · rw [HR.out]; exact fun _ _ _ h => h
                  · trivial
                  · go_simp
                    all_goals with_reducible rfl
                  refine wpAnyR_take (i := 9) (v := ?_) (noDefer_of rfl) rfl (by kernel_rfl) (by kernel_rfl) (by kernel_rfl) ?_ rfl (fun _ => rfl) ?_ (fun W hW => ?_) ?_
                  rotate_left
                  · rw [HR.out]; exact fun _ _ _ h => h
                  · trivial
                  · go_simp
                    all_goals with_reducible rfl
                  refine wpAnyR_done (by kernel_rfl) ?_ _
                  gi_wp2
                  rw [HR.out]
                  have hneg : ¬ (L < di ∧ cnt d j t L k < M) := by intro hx; have := (HP.out (by rw [HD2.out]; exact ho)).2 hx.2; rw [HC2.out] at this; omega
                  have hsk := HK.out (by rw [HD2.out]; exact hneg)
                  rw [HC2.out] at hsk
                  refine HB.out.drew.done (fun i' hi' => ?_) hsk
                  rw [HS.out i' hi', HD2.out]
                  by_cases e : i' = i
                  · rw [if_pos e, if_neg hneg, e, HH.out, HD2.out, Nat.add_zero]
                  · rw [if_neg e]
              · have y1 : min di L = di := by omega
                rw [y1] at x4
                clear y1
                have z6 : (di : Int) - (di : Int) = 0 := by omega
                gi_wp2
                refine region_R (fun k W => match k with | 0 => W.cell? ⟨w.heap.size + 1, 0, none⟩ = some (.slice (some ⟨bl, ol, none⟩) j cp) | 3 => W.cell? ⟨bl, ol + i, none⟩ = some (.int .i64 ((di : Nat) : Int)) | 4 => W.cell? ⟨w.heap.size + 3, 0, none⟩ = some (.slice (some ⟨w.heap.size + 2, 0, none⟩) j j) | 7 => W.cell? ⟨w.heap.size + 2, i, none⟩ = some (.int .i64 ((di : Nat) : Int)) | _ => True) (by kernel_rfl) ?_
                refine wpAnyR_take (i := 0) (v := ?_) (noDefer_of rfl) rfl (by kernel_rfl) (by kernel_rfl) (by kernel_rfl) ?_ rfl (fun _ => rfl) ?_ (fun W hW => ?_) ?_
                rotate_left
                · rw [HR.out]; exact fun _ _ _ h => h
                · exact x2
                · have hW' : W.cell? ⟨w.heap.size + 1, 0, none⟩ = some (.slice (some ⟨bl, ol, none⟩) j cp) := hW
                  go_simp
                  all_goals with_reducible rfl
                refine wpAnyR_take (i := 1) (v := ?_) (noDefer_of rfl) rfl (by kernel_rfl) (by kernel_rfl) (by kernel_rfl) ?_ rfl (fun _ => rfl) ?_ (fun W hW => ?_) ?_
                rotate_left
                · rw [HR.out]; exact fun _ _ _ h => h
                · trivial
                · go_simp
                  all_goals with_reducible rfl
                refine wpAnyR_take (i := 2) (v := ?_) (noDefer_of rfl) rfl (by kernel_rfl) (by kernel_rfl) (by kernel_rfl) ?_ rfl (fun _ => rfl) ?_ (fun W hW => ?_) ?_
                rotate_left
                · rw [HR.out]; exact fun _ _ _ h => h
                · trivial
                · go_simp
                  all_goals with_reducible rfl
                refine wpAnyR_take (i := 3) (v := ?_) (noDefer_of rfl) rfl (by kernel_rfl) (by kernel_rfl) (by kernel_rfl) ?_ rfl (fun _ => rfl) ?_ (fun W hW => ?_) ?_
                rotate_left
                · rw [HR.out]; exact fun _ _ _ h => h
                · exact x1
                · have hW' : W.cell? ⟨bl, ol + i, none⟩ = some (.int .i64 ((di : Nat) : Int)) := hW
                  go_simp
                  all_goals with_reducible rfl
                refine wpAnyR_take (i := 4) (v := ?_) (noDefer_of rfl) rfl (by kernel_rfl) (by kernel_rfl) (by kernel_rfl) ?_ rfl (fun _ => rfl) ?_ (fun W hW => ?_) ?_
                rotate_left
                · rw [HR.out]; exact fun _ _ _ h => h
                · exact x3
                · have hW' : W.cell? ⟨w.heap.size + 3, 0, none⟩ = some (.slice (some ⟨w.heap.size + 2, 0, none⟩) j j) := hW
                  go_simp
                  all_goals with_reducible rfl
                refine wpAnyR_take (i := 5) (v := ?_) (noDefer_of rfl) rfl (by kernel_rfl) (by kernel_rfl) (by kernel_rfl) ?_ rfl (fun _ => rfl) ?_ (fun W hW => ?_) ?_
                rotate_left
                · rw [HR.out]; exact fun _ _ _ h => h
                · trivial
                · go_simp
                  all_goals with_reducible rfl
                refine wpAnyR_take (i := 6) (v := ?_) (noDefer_of rfl) rfl (by kernel_rfl) (by kernel_rfl) (by kernel_rfl) ?_ rfl (fun _ => rfl) ?_ (fun W hW => ?_) ?_
                rotate_left
                · rw [HR.out]; exact fun _ _ _ h => h
                · trivial
                · go_simp
                  all_goals with_reducible rfl
                refine wpAnyR_take (i := 7) (v := ?_) (noDefer_of rfl) rfl (by kernel_rfl) (by kernel_rfl) (by kernel_rfl) ?_ rfl (fun _ => rfl) ?_ (fun W hW => ?_) ?_
                rotate_left
                · rw [HR.out]; exact fun _ _ _ h => h
                · exact x4
                · have hW' : W.cell? ⟨w.heap.size + 2, i, none⟩ = some (.int .i64 ((di : Nat) : Int)) := hW
                  go_simp
                  all_goals with_reducible rfl
                refine wpAnyR_take (i := 8) (v := ?_) (noDefer_of rfl) rfl (by kernel_rfl) (by kernel_rfl) (by kernel_rfl) ?_ rfl (fun _ => rfl) ?_ (fun W hW => ?_) ?_
                rotate_left
                · rw [HR.out]; exact fun _ _ _ h => h
                · trivial
                · go_simp
                  all_goals with_reducible rfl
                refine wpAnyR_take (i := 9) (v := ?_) (noDefer_of rfl) rfl (by kernel_rfl) (by kernel_rfl) (by kernel_rfl) ?_ rfl (fun _ => rfl) ?_ (fun W hW => ?_) ?_
                rotate_left
                · rw [HR.out]; exact fun _ _ _ h => h
                · trivial
                · go_simp
                  all_goals with_reducible rfl
                refine wpAnyR_done (by kernel_rfl) ?_ _
                gi_wp2
                rw [HR.out]
                have hneg : ¬ (L < di ∧ cnt d j t L k < M) := by intro hx; exact ho hx.1
                have hsk := HK.out (by rw [HD2.out]; exact hneg)
                rw [HC2.out] at hsk
                refine HB.out.drew.done (fun i' hi' => ?_) hsk
                rw [HS.out i' hi', HD2.out]
                by_cases e : i' = i
                · rw [if_pos e, if_neg hneg, e, HH.out, HD2.out, Nat.add_zero]
                · rw [if_neg e]
            · rintro e W' (⟨rfl, _, h⟩ | ⟨_, c, _, h⟩)
              · exact ⟨rfl, h⟩
              · exact h.elim
          rintro e W2' ⟨⟨v, rfl⟩, hG⟩
          refine rangePost_done hG.loop fun hLx => ?_
          have hmid : DivMid j d c t (give d j t L (max s 1) M j) (capAt d j t L (max s 1) M cap j) := by
            by_cases hq1 : 1 ≤ q
            · have hs1 := hst.pos hq1
              rw [if_pos hq1] at hMdef
              have hM2 : M = cnt d j t L j := by omega
              rw [hM2]
              refine mid_raise ht (fun i hi hLi => hok.fits i hi hLi) hL2 ?_
              have := hok.le
              rw [hM2] at this; exact this
            · rw [if_neg hq1] at hMdef
              have := hst.le
              have hs0 : max s 1 = 1 := by omega
              rw [hs0, ← hMdef]
              exact mid_last (by omega) hL2 (by omega)
          have hlt2 := capAt_lt hok (by omega) (by rw [← hMdef]; split <;> omega) hg2
          have hm3 := hG.mem.put (l := wr.heap.size + 3) (by have := hWj.size; omega) (.loop { r with state := .exhausted, pending := none })
          have hmk := hG.marks.put (o := .loop { r with state := .exhausted, pending := none }) hG.loop.lrec
          have hnew := hLx.ds
          have hmlt := hmj.lt
          have hwlt := hWj.size
          obtain ⟨X, hX⟩ : ∃ X, wr.heap.size = X := ⟨_, rfl⟩
          rw [hX] at hm3 hmk hnew hmlt hwlt ⊢
          generalize (W2'.putObj (X + 3) (.loop { r with state := .exhausted, pending := none })) = W3 at *
          obtain ⟨b, hb⟩ : ∃ b, give d j t L (max s 1) M j = b := ⟨_, rfl⟩
          obtain ⟨ck, hck⟩ : ∃ ck, capAt d j t L (max s 1) M cap j = ck := ⟨_, rfl⟩
          rw [hb] at hm3 hmid
          rw [hck] at hm3 hmid hlt2
          have HMID := Lib.hid hmid
          have HNEW := Lib.hid hnew
          clear hmid hnew hb hck hG hok hL1 hL2 hcnt hMdef hqd hqm hqz e6 hSj hWj hst hr1 hLp hW1 hX hs1 hmj
          gi_wp2_with fail
          refine ⟨trivial, ?_⟩
          refine (callsIn_wide.2 (HO.out _ _ _ hm3)).mono ?_
          rintro e w4 ⟨rfl, h4, hb4⟩
          gi_wp2_with fail
          refine ⟨?_, ?_⟩
          · have hmk2 : MarksAt ((X + 2) :: ml) W3 := fun D hD => by
              rcases List.mem_cons.1 hD with rfl | hD
              · exact HNEW.out
              · exact hmk D hD
            exact ⟨_, _, _, _, _, _, _, _, _, _, _, _, _, _, _, _, _, _, _, _, _, _, _, _, _, _, _, _, _, _, _, _, _, _, _, _, _, _, _, _, _, _, _, _, _, _, _, _, _, _, _, _, _, _, _, _, _, _, _, _, _, _, _, _, _, _, _, _, _, _, _, _, _, _, (X + 2) :: ml, ⟨b, ck, rfl, h4, HMID.out, List.pairwise_cons.2 ⟨fun D hD => by have := hmlt D hD; omega, HM1.out⟩, hmk2.below hb4, fun D hD => by
              rcases List.mem_cons.1 hD with rfl | hD
              · omega
              · exact HM3.out D hD⟩, by rw [← HDS.out]; rfl⟩
          · rw [capOf_div h4, capOf_div hW]; exact hlt2
    · skip
      have hfin : DivIs n d c t a := mid_end ht HM.out (by
        by_cases h0 : cap = 0
        · exact .inl h0
        · refine .inr fun i hi hlt => ?_
          have := countB_zero n (by rw [Hm.out]; omega) i hi
          rw [decide_eq_true hlt] at this; cases this)
      have HF := Lib.hid hfin
      have x3 := hW.outB.cell
      clear hfin
      by_cases hm0 : 0 < m
      · obtain rfl : cap = 0 := by omega
        gi_wp2_with fail
        show LeavesInM _ _ _ _ _ _ ds .returning wr
        rw [← HDS.out]
        refine leaves_marks (I := fun W => RowAt W (w.heap.size + 2) n a ∧ Below w.heap.size w W) ml wr HM1.out hml2 (fun W D hD hdef hI => ?_) ⟨hW.row, hW.below⟩ (fun W hI => ?_)
        · refine ⟨hI.1.kept (grownBy_putObj' W D _) (fun e => ?_), Below_put hI.2 (HM3.out D hD) hI.2.size⟩
          obtain rfl : w.heap.size + 2 = D := by simpa using e
          rw [show W.heap[w.heap.size + 2]? = _ from hI.1] at hdef
          cases hdef
        · exact ⟨.tuple #[.slice (some ⟨w.heap.size + 2, 0, none⟩) n n, .int .i64 0], by simp [results, Try.results13, go_sem], w.heap.size + 2, a, rfl, by omega, hI.1, HF.out, hI.2⟩
      · obtain rfl : m = 0 := by omega
        gi_wp2_with fail
        show LeavesInM _ _ _ _ _ _ ds .returning wr
        rw [← HDS.out]
        refine leaves_marks (I := fun W => RowAt W (w.heap.size + 2) n a ∧ Below w.heap.size w W) ml wr HM1.out hml2 (fun W D hD hdef hI => ?_) ⟨hW.row, hW.below⟩ (fun W hI => ?_)
        · refine ⟨hI.1.kept (grownBy_putObj' W D _) (fun e => ?_), Below_put hI.2 (HM3.out D hD) hI.2.size⟩
          obtain rfl : w.heap.size + 2 = D := by simpa using e
          rw [show W.heap[w.heap.size + 2]? = _ from hI.1] at hdef
          cases hdef
        · exact ⟨.tuple #[.slice (some ⟨w.heap.size + 2, 0, none⟩) n n, .int .i64 0], by simp [results, Try.results13, go_sem], w.heap.size + 2, a, rfl, by omega, hI.1, HF.out, hI.2⟩
end Go.Proofs.Ytdodhfodojjfeaa
