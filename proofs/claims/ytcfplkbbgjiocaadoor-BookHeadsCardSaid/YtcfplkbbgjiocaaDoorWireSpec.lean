/- What the functions of package wire compute, as functions on lists of bytes. No program. -/
namespace Go.Proofs.YtcfplkbbgjiocaaDoor
/-- The bytes of a number, seven bits each, at most f of them. -/
def vfuel : Nat → Nat → List UInt8
  | 0, _ => []
  | f + 1, z => if z < 128 then [UInt8.ofNat z] else UInt8.ofNat (z % 128 + 128) :: vfuel f (z / 128)
theorem vfuel_more (f : Nat) : ∀ z, z < 128 ^ (f + 1) → vfuel (f + 2) z = vfuel (f + 1) z := by
  induction f with
  | zero => intro z hz; have h : z < 128 := by simpa using hz
            simp [vfuel, h]
  | succ f ih =>
    intro z hz
    rw [vfuel]
    by_cases h : z < 128
    · rw [if_pos h, vfuel, if_pos h]
    · rw [if_neg h, ih _ (by rw [Nat.pow_succ] at hz; omega)]
      conv => rhs; rw [vfuel]
      rw [if_neg h]
def vbytes (z : Nat) : List UInt8 := vfuel 10 z
theorem vbytes_small {z : Nat} (h : z < 128) : vbytes z = [UInt8.ofNat z] := by simp [vbytes, vfuel, h]
theorem vbytes_big {z : Nat} (h : ¬ z < 128) (hz : z < 18446744073709551616) : vbytes z = UInt8.ofNat (z % 128 + 128) :: vbytes (z / 128) := by
  unfold vbytes
  conv => lhs; rw [vfuel]
  rw [if_neg h, vfuel_more 8 (z / 128) (by show _ < 128 ^ 9; omega)]
theorem vfuel_le (f : Nat) : ∀ z, (vfuel f z).length ≤ f := by
  induction f with
  | zero => intro z; simp [vfuel]
  | succ f ih => intro z; rw [vfuel]; split
                 · simp
                 · have := ih (z / 128); simp; omega
theorem vbytes_le (z : Nat) : (vbytes z).length ≤ 10 := vfuel_le 10 z
theorem vbytes_pos (z : Nat) : 1 ≤ (vbytes z).length := by
  unfold vbytes; rw [vfuel]; split <;> simp
theorem put_step {pre : List UInt8} {y z : Nat} (hy : y < 18446744073709551616) (he : pre ++ vbytes y = vbytes z) :
    (y < 128 → pre ++ [UInt8.ofNat (y % 128)] = vbytes z) ∧ (¬ y < 128 → (pre ++ [UInt8.ofNat (y % 128 + 128)]) ++ vbytes (y / 128) = vbytes z) ∧ pre.length + 1 ≤ 10 := by
  refine ⟨fun h => ?_, fun h => ?_, ?_⟩
  · rw [vbytes_small h] at he
    rw [Nat.mod_eq_of_lt h]; exact he
  · rw [vbytes_big h hy] at he
    rw [← he]; simp
  · have h1 := vbytes_le z
    have h2 := vbytes_pos y
    rw [← he] at h1
    simp at h1; omega
end Go.Proofs.YtcfplkbbgjiocaaDoor
