/- The digest on lists of bytes. No program. -/
import Derived.Test.YtcfplkbbgjiocaaDoorBits
namespace Go.Proofs.YtcfplkbbgjiocaaDoor
open Go Go.RowKit
/-- x turned right by n bits. -/
def rotr (n x : Nat) : Nat := x / 2 ^ n ||| x * 2 ^ (32 - n) % 4294967296
def shaK : List Nat := [
  0x428a2f98, 0x71374491, 0xb5c0fbcf, 0xe9b5dba5, 0x3956c25b, 0x59f111f1, 0x923f82a4, 0xab1c5ed5,
  0xd807aa98, 0x12835b01, 0x243185be, 0x550c7dc3, 0x72be5d74, 0x80deb1fe, 0x9bdc06a7, 0xc19bf174,
  0xe49b69c1, 0xefbe4786, 0x0fc19dc6, 0x240ca1cc, 0x2de92c6f, 0x4a7484aa, 0x5cb0a9dc, 0x76f988da,
  0x983e5152, 0xa831c66d, 0xb00327c8, 0xbf597fc7, 0xc6e00bf3, 0xd5a79147, 0x06ca6351, 0x14292967,
  0x27b70a85, 0x2e1b2138, 0x4d2c6dfc, 0x53380d13, 0x650a7354, 0x766a0abb, 0x81c2c92e, 0x92722c85,
  0xa2bfe8a1, 0xa81a664b, 0xc24b8b70, 0xc76c51a3, 0xd192e819, 0xd6990624, 0xf40e3585, 0x106aa070,
  0x19a4c116, 0x1e376c08, 0x2748774c, 0x34b0bcb5, 0x391c0cb3, 0x4ed8aa4a, 0x5b9cca4f, 0x682e6ff3,
  0x748f82ee, 0x78a5636f, 0x84c87814, 0x8cc70208, 0x90befffa, 0xa4506ceb, 0xbef9a3f7, 0xc67178f2]
def kAt (i : Nat) : Nat := shaK.getD i 0
/-- Word i of a block. -/
def word0 (b : Nat → Nat) (i : Nat) : Nat := b (4 * i) * 16777216 ||| b (4 * i + 1) * 65536 ||| b (4 * i + 2) * 256 ||| b (4 * i + 3)
def sig0 (x : Nat) : Nat := rotr 7 x ^^^ rotr 18 x ^^^ x / 8
def sig1 (x : Nat) : Nat := rotr 17 x ^^^ rotr 19 x ^^^ x / 1024
def big0 (x : Nat) : Nat := rotr 2 x ^^^ rotr 13 x ^^^ rotr 22 x
def big1 (x : Nat) : Nat := rotr 6 x ^^^ rotr 11 x ^^^ rotr 25 x
/-- The next word behind a list of words. -/
def wordNext (l : List Nat) : Nat := (l.getD (l.length - 16) 0 + sig0 (l.getD (l.length - 15) 0) + l.getD (l.length - 7) 0 + sig1 (l.getD (l.length - 2) 0)) % 4294967296
/-- The first i words of a block. -/
def wordsN (b : Nat → Nat) : Nat → List Nat
  | 0 => []
  | i + 1 => wordsN b i ++ [if i < 16 then word0 b i else wordNext (wordsN b i)]
/-- Eight words. -/
structure W8 where
  a : Nat
  b : Nat
  c : Nat
  d : Nat
  e : Nat
  f : Nat
  g : Nat
  h : Nat
def W8.at (v : W8) : Nat → Nat
  | 0 => v.a
  | 1 => v.b
  | 2 => v.c
  | 3 => v.d
  | 4 => v.e
  | 5 => v.f
  | 6 => v.g
  | _ => v.h
def tOne (v : W8) (k w : Nat) : Nat := (v.h + big1 v.e + ((v.e &&& v.f) ^^^ ((4294967295 - v.e) &&& v.g)) + k + w) % 4294967296
def tTwo (v : W8) : Nat := (big0 v.a + ((v.a &&& v.b) ^^^ (v.a &&& v.c) ^^^ (v.b &&& v.c))) % 4294967296
def W8.step (v : W8) (k w : Nat) : W8 := ⟨(tOne v k w + tTwo v) % 4294967296, v.a, v.b, v.c, (v.d + tOne v k w) % 4294967296, v.e, v.f, v.g⟩
def W8.steps (v : W8) (ws : List Nat) : Nat → W8
  | 0 => v
  | i + 1 => (W8.steps v ws i).step (kAt i) (ws.getD i 0)
def W8.add (v u : W8) : W8 := ⟨(v.a + u.a) % 4294967296, (v.b + u.b) % 4294967296, (v.c + u.c) % 4294967296, (v.d + u.d) % 4294967296, (v.e + u.e) % 4294967296, (v.f + u.f) % 4294967296, (v.g + u.g) % 4294967296, (v.h + u.h) % 4294967296⟩
/-- What a block makes of eight words. -/
def W8.block (v : W8) (b : Nat → Nat) : W8 := v.add (v.steps (wordsN b 64) 64)
def w8init : W8 := ⟨0x6a09e667, 0xbb67ae85, 0x3c6ef372, 0xa54ff53a, 0x510e527f, 0x9b05688c, 0x1f83d9ab, 0x5be0cd19⟩
/-- How many zeros follow the mark. -/
def zerosOf (n : Nat) : Nat := (119 - n % 64) % 64
/-- The bytes of the length. -/
def lenBytes (n : Nat) : Nat → List UInt8
  | 0 => []
  | i + 1 => UInt8.ofNat (8 * n / 2 ^ (8 * i)) :: lenBytes n i
def padded (l : List UInt8) : List UInt8 := l ++ [128] ++ List.replicate (zerosOf l.length) 0 ++ lenBytes l.length 8
/-- Byte i of block j. -/
def blockAt (l : List UInt8) (j : Nat) (i : Nat) : Nat := (l.getD (64 * j + i) 0).toNat
def blocks (l : List UInt8) : Nat → W8
  | 0 => w8init
  | j + 1 => (blocks l j).block (blockAt l j)
/-- The bytes of a word. -/
def wordBytes (x : Nat) : List UInt8 := [UInt8.ofNat (x / 16777216), UInt8.ofNat (x / 65536), UInt8.ofNat (x / 256), UInt8.ofNat x]
def W8.bytes (v : W8) : List UInt8 := wordBytes v.a ++ wordBytes v.b ++ wordBytes v.c ++ wordBytes v.d ++ wordBytes v.e ++ wordBytes v.f ++ wordBytes v.g ++ wordBytes v.h
/-- The digest. -/
def sha (l : List UInt8) : List UInt8 := (blocks (padded l) ((padded l).length / 64)).bytes
theorem sha_empty : (sha []).map UInt8.toNat = [0xe3, 0xb0, 0xc4, 0x42, 0x98, 0xfc, 0x1c, 0x14, 0x9a, 0xfb, 0xf4, 0xc8, 0x99, 0x6f, 0xb9, 0x24, 0x27, 0xae, 0x41, 0xe4, 0x64, 0x9b, 0x93, 0x4c, 0xa4, 0x95, 0x99, 0x1b, 0x78, 0x52, 0xb8, 0x55] := by decide +kernel
theorem rotr_lt {n x : Nat} (hx : x < 4294967296) : rotr n x < 4294967296 := by
  have h1 : x / 2 ^ n < 2 ^ 32 := Nat.lt_of_le_of_lt (Nat.div_le_self _ _) hx
  have h2 : x * 2 ^ (32 - n) % 4294967296 < 2 ^ 32 := Nat.mod_lt _ (by decide)
  exact Nat.or_lt_two_pow h1 h2
theorem sig0_lt {x : Nat} (hx : x < 4294967296) : sig0 x < 4294967296 := Nat.xor_lt_two_pow (n := 32) (Nat.xor_lt_two_pow (n := 32) (rotr_lt hx) (rotr_lt hx)) (Nat.lt_of_le_of_lt (Nat.div_le_self _ _) hx)
theorem sig1_lt {x : Nat} (hx : x < 4294967296) : sig1 x < 4294967296 := Nat.xor_lt_two_pow (n := 32) (Nat.xor_lt_two_pow (n := 32) (rotr_lt hx) (rotr_lt hx)) (Nat.lt_of_le_of_lt (Nat.div_le_self _ _) hx)
theorem big0_lt {x : Nat} (hx : x < 4294967296) : big0 x < 4294967296 := Nat.xor_lt_two_pow (n := 32) (Nat.xor_lt_two_pow (n := 32) (rotr_lt hx) (rotr_lt hx)) (rotr_lt hx)
theorem big1_lt {x : Nat} (hx : x < 4294967296) : big1 x < 4294967296 := Nat.xor_lt_two_pow (n := 32) (Nat.xor_lt_two_pow (n := 32) (rotr_lt hx) (rotr_lt hx)) (rotr_lt hx)
theorem wordsN_length (b : Nat → Nat) : ∀ i, (wordsN b i).length = i
  | 0 => rfl
  | i + 1 => by unfold wordsN; rw [List.length_append, wordsN_length b i]; rfl
theorem word0_lt {b : Nat → Nat} (hb : ∀ i, b i < 256) (i : Nat) : word0 b i < 4294967296 := by
  have h0 := hb (4 * i)
  have h1 := hb (4 * i + 1)
  have h2 := hb (4 * i + 2)
  have h3 := hb (4 * i + 3)
  exact Nat.or_lt_two_pow (n := 32) (Nat.or_lt_two_pow (n := 32) (Nat.or_lt_two_pow (n := 32) (by omega) (by omega)) (by omega)) (by omega)
theorem wordsN_getD (b : Nat → Nat) {j : Nat} : ∀ i, j < i → (wordsN b i).getD j 0 = if j < 16 then word0 b j else wordNext (wordsN b j)
  | 0, h => by omega
  | i + 1, h => by
    show (wordsN b i ++ [if i < 16 then word0 b i else wordNext (wordsN b i)]).getD j 0 = _
    by_cases e : j = i
    · subst e
      rw [List.getD_eq_getElem?_getD, List.getElem?_append_right (by rw [wordsN_length]; exact Nat.le_refl _), wordsN_length]
      simp
    · have hl : j < (wordsN b i).length := by rw [wordsN_length]; omega
      rw [List.getD_eq_getElem?_getD, List.getElem?_append_left hl, ← List.getD_eq_getElem?_getD]
      exact wordsN_getD b i (by omega)
/-- Word i of a block, of all 64. -/
def wordAt (b : Nat → Nat) (i : Nat) : Nat := if i < 16 then word0 b i else wordNext (wordsN b i)
theorem wordsN_at (b : Nat → Nat) {i j : Nat} (h : j < i) : (wordsN b i).getD j 0 = wordAt b j := wordsN_getD b i h
theorem wordAt_lt {b : Nat → Nat} (hb : ∀ i, b i < 256) (i : Nat) : wordAt b i < 4294967296 := by
  unfold wordAt
  split
  · exact word0_lt hb i
  · exact Nat.mod_lt _ (by decide)
/-- Behind the first sixteen words. -/
theorem wordAt_next (b : Nat → Nat) {i : Nat} (h : 16 ≤ i) : wordAt b i = (wordAt b (i - 16) + sig0 (wordAt b (i - 15)) + wordAt b (i - 7) + sig1 (wordAt b (i - 2))) % 4294967296 := by
  have e : wordAt b i = wordNext (wordsN b i) := if_neg (by omega)
  rw [e]
  unfold wordNext
  rw [wordsN_length, wordsN_at b (show i - 16 < i by omega), wordsN_at b (show i - 15 < i by omega), wordsN_at b (show i - 7 < i by omega), wordsN_at b (show i - 2 < i by omega)]
structure W8.Ok (v : W8) : Prop where
  a : v.a < 4294967296
  b : v.b < 4294967296
  c : v.c < 4294967296
  d : v.d < 4294967296
  e : v.e < 4294967296
  f : v.f < 4294967296
  g : v.g < 4294967296
  h : v.h < 4294967296
theorem W8.Ok.step {v : W8} (h : v.Ok) (k w : Nat) : (v.step k w).Ok := ⟨Nat.mod_lt _ (by decide), h.a, h.b, h.c, Nat.mod_lt _ (by decide), h.e, h.f, h.g⟩
theorem W8.Ok.steps {v : W8} (h : v.Ok) (ws : List Nat) : ∀ i, (v.steps ws i).Ok
  | 0 => h
  | i + 1 => (W8.Ok.steps h ws i).step _ _
theorem W8.Ok.add (v u : W8) : (v.add u).Ok := ⟨Nat.mod_lt _ (by decide), Nat.mod_lt _ (by decide), Nat.mod_lt _ (by decide), Nat.mod_lt _ (by decide), Nat.mod_lt _ (by decide), Nat.mod_lt _ (by decide), Nat.mod_lt _ (by decide), Nat.mod_lt _ (by decide)⟩
theorem w8init_ok : w8init.Ok := ⟨by decide, by decide, by decide, by decide, by decide, by decide, by decide, by decide⟩
theorem blocks_ok (l : List UInt8) : ∀ j, (blocks l j).Ok
  | 0 => w8init_ok
  | _ + 1 => W8.Ok.add _ _
theorem blockAt_lt (l : List UInt8) (j i : Nat) : blockAt l j i < 256 := by
  unfold blockAt
  have := (l.getD (64 * j + i) 0).toNat_lt
  omega
theorem kAt_lt (i : Nat) : kAt i < 4294967296 := by
  by_cases h : i < 64
  · exact (by decide +kernel : ∀ j : Fin 64, kAt j.val < 4294967296) ⟨i, h⟩
  · unfold kAt
    rw [List.getD_eq_getElem?_getD, List.getElem?_eq_none (by simp [shaK]; omega)]
    decide
theorem W8.at_lt {v : W8} (h : v.Ok) (i : Nat) : v.at i < 4294967296 := by
  match i with
  | 0 => exact h.a
  | 1 => exact h.b
  | 2 => exact h.c
  | 3 => exact h.d
  | 4 => exact h.e
  | 5 => exact h.f
  | 6 => exact h.g
  | _ + 7 => exact h.h
theorem lenBytes_length (n : Nat) : ∀ i, (lenBytes n i).length = i
  | 0 => rfl
  | i + 1 => by unfold lenBytes; rw [List.length_cons, lenBytes_length n i]
theorem padded_length (l : List UInt8) : (padded l).length = l.length + 1 + zerosOf l.length + 8 := by
  unfold padded
  simp only [List.length_append, List.length_replicate, lenBytes_length, List.length_cons, List.length_nil]
theorem padded_blocks (l : List UInt8) : (padded l).length = 64 * ((padded l).length / 64) := by
  rw [padded_length]
  unfold zerosOf
  omega
theorem sha_length (l : List UInt8) : (sha l).length = 32 := rfl
end Go.Proofs.YtcfplkbbgjiocaaDoor
