/- A division is one: two divisions of the same are the same. No program; Same compares two quotas. -/
import Derived.Test.YtdodhfodojjfeaaLaw36Rows
namespace Go.Proofs.Ytdodhfodojjfeaa
open Go Go.RowKit Go.Shelf
theorem cnt_congr {d e : Nat → Nat} {n : Nat} (t L : Nat) (hn : 0 < n) (h : ∀ i, i < n → d i = e i) : ∀ k, cnt d n t L k = cnt e n t L k
  | 0 => rfl
  | k + 1 => by simp only [cnt]; rw [cnt_congr t L hn h k, h _ (Nat.mod_lt _ hn)]
theorem DivIs.congr_d {n : Nat} {d e a : Nat → Nat} {c t : Nat} (h : DivIs n d c t a) (ht : t < n) (he : ∀ i, i < n → d i = e i) : DivIs n e c t a := by
  have hn : 0 < n := by omega
  have hs : sumTo d n = sumTo e n := sumTo_congr n he
  rcases h with ⟨h1, h2⟩ | ⟨L, r, h1, h2, h3⟩
  · exact .inl ⟨by omega, fun i hi => by rw [h2 i hi, he i hi]⟩
  · refine .inr ⟨L, r, by rw [← cnt_congr t L hn he n]; exact h1, by rw [← h2]; congr 1; exact sumTo_congr n fun i hi => by rw [he i hi], fun i hi => ?_⟩
    rw [h3 i hi]
    unfold share extra
    rw [he i hi, cnt_congr t L hn he]
theorem DivIs.unique {n : Nat} {d a b : Nat → Nat} {c t : Nat} (h : DivIs n d c t a) (h' : DivIs n d c t b) : ∀ i, i < n → a i = b i := fun i hi => by
  have hn : 0 < n := by omega
  rcases h' with ⟨h1, h2⟩ | ⟨L, r, h1, h2, h3⟩
  · rw [div_full hn h h1 i hi, h2 i hi]
  · rw [div_eq hn h L r h1 h2 i hi, h3 i hi]
theorem servedF_succ (S : Nat → Nat → Nat) (m i : Nat) : servedF S (m + 1) i = servedF S m i + S m i := rfl
theorem droppedF_succ (lim : Nat) (ar U : Nat → Nat → Nat) (m i : Nat) : droppedF lim ar U (m + 1) i = droppedF lim ar U m i + dropF lim ar U m i := rfl
theorem sumTo_mono {f : Nat → Nat} {k m : Nat} (h : k ≤ m) : sumTo f k ≤ sumTo f m := by
  induction m with
  | zero => have : k = 0 := by omega
            subst this; exact Nat.le_refl _
  | succ m ih =>
    by_cases e : k = m + 1
    · subst e; exact Nat.le_refl _
    · have := ih (by omega); simp only [sumTo]; omega
set_option maxHeartbeats 2000000 in
theorem same_yes (cap t lim n c d : Nat) (p q : Option Addr) (f g : Nat → Int) (w : World) (hn : n ≤ 1000) (hp : ReadsI w p n f) (hq : ReadsI w q n g) (h : ∀ i, i < n → f i = g i) :
    Calls Try.prog 22 #[.agg #[.int .i64 (cap : Int), .int .i64 (t : Int), .int .i64 (lim : Int), .slice p n c], .agg #[.int .i64 (cap : Int), .int .i64 (t : Int), .int .i64 (lim : Int), .slice q n d]] w fun e w' => e = .returned (.bool true) ∧ Below w.heap.size w w' := by
  have hB := ((Below.refl w.heap.size w).alloc (Nat.le_refl _) (.cells #[.int .i64 (cap : Int), .int .i64 (t : Int), .int .i64 (lim : Int), .slice p n c] 35)).alloc (by simp) (.cells #[.int .i64 (cap : Int), .int .i64 (t : Int), .int .i64 (lim : Int), .slice q n d] 35)
  have HC := Lib.hid (ints_yes p q n n c d f g _ hn rfl (hp.below hB) (hq.below hB) h)
  clear hp hq h
  go_enter Try.func22, Try.ntmps22
  go_wp2_with fail
  refine HC.out.mono ?_
  rintro e w1 ⟨rfl, hb⟩
  go_wp2_with fail
  go_ret
  exact ⟨rfl, hB.trans (hb.mono hB.size)⟩
end Go.Proofs.Ytdodhfodojjfeaa
