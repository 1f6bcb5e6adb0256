/- The plain part: the hash's rounds on numbers, with the model's own bit operations. No program in sight. -/
import Derived.Laws.BitsAllLaws
import Derived.KernelRfl
namespace Go.Proofs.YtaafgakflmgpoaaDoor

/-- x turned right by n bits. -/
def rotS (x : Int) (n : Nat) : Int := bits .or .u32 (x / 2 ^ n) (x * 2 ^ (32 - n) % 4294967296)
def xw (a b : Int) : Int := bits .xor .u32 a b
def aw (a b : Int) : Int := bits .and .u32 a b
def nw (a : Int) : Int := bits .xor .u32 4294967295 a
def sm0 (x : Int) : Int := xw (xw (rotS x 7) (rotS x 18)) (x / 8)
def sm1 (x : Int) : Int := xw (xw (rotS x 17) (rotS x 19)) (x / 1024)
def lg0 (x : Int) : Int := xw (xw (rotS x 2) (rotS x 13)) (rotS x 22)
def lg1 (x : Int) : Int := xw (xw (rotS x 6) (rotS x 11)) (rotS x 25)

/-- The eight numbers of a hash value. -/
structure V8 where
  a : Int
  b : Int
  c : Int
  d : Int
  e : Int
  f : Int
  g : Int
  h : Int
def V8.list (v : V8) : List Int := [v.a, v.b, v.c, v.d, v.e, v.f, v.g, v.h]

/-- Word i of a block. -/
def wordS (b : List Int) (i : Nat) : Int := b.getD (4 * i) 0 * 16777216 + b.getD (4 * i + 1) 0 * 65536 + b.getD (4 * i + 2) 0 * 256 + b.getD (4 * i + 3) 0
def nextS (w : List Int) (i : Nat) : Int := (w.getD (i - 16) 0 + w.getD (i - 7) 0 + sm0 (w.getD (i - 15) 0) + sm1 (w.getD (i - 2) 0)) % 4294967296
/-- The first n words. -/
def schedS (b : List Int) : Nat → List Int
  | 0 => []
  | i + 1 => schedS b i ++ [if i < 16 then wordS b i else nextS (schedS b i) i]

def tS (v : V8) (k w : Int) : Int := ((((v.h + lg1 v.e) % 4294967296 + xw (aw v.e v.f) (aw (nw v.e) v.g)) % 4294967296 + k) % 4294967296 + w) % 4294967296
def uS (v : V8) : Int := (lg0 v.a + xw (xw (aw v.a v.b) (aw v.a v.c)) (aw v.b v.c)) % 4294967296
def stepS (v : V8) (k w : Int) : V8 := ⟨(tS v k w + uS v) % 4294967296, v.a, v.b, v.c, (v.d + tS v k w) % 4294967296, v.e, v.f, v.g⟩
def keysL : List Int := [0x428a2f98, 0x71374491, 0xb5c0fbcf, 0xe9b5dba5, 0x3956c25b, 0x59f111f1, 0x923f82a4, 0xab1c5ed5, 0xd807aa98, 0x12835b01, 0x243185be, 0x550c7dc3, 0x72be5d74, 0x80deb1fe, 0x9bdc06a7, 0xc19bf174,
  0xe49b69c1, 0xefbe4786, 0x0fc19dc6, 0x240ca1cc, 0x2de92c6f, 0x4a7484aa, 0x5cb0a9dc, 0x76f988da, 0x983e5152, 0xa831c66d, 0xb00327c8, 0xbf597fc7, 0xc6e00bf3, 0xd5a79147, 0x06ca6351, 0x14292967,
  0x27b70a85, 0x2e1b2138, 0x4d2c6dfc, 0x53380d13, 0x650a7354, 0x766a0abb, 0x81c2c92e, 0x92722c85, 0xa2bfe8a1, 0xa81a664b, 0xc24b8b70, 0xc76c51a3, 0xd192e819, 0xd6990624, 0xf40e3585, 0x106aa070,
  0x19a4c116, 0x1e376c08, 0x2748774c, 0x34b0bcb5, 0x391c0cb3, 0x4ed8aa4a, 0x5b9cca4f, 0x682e6ff3, 0x748f82ee, 0x78a5636f, 0x84c87814, 0x8cc70208, 0x90befffa, 0xa4506ceb, 0xbef9a3f7, 0xc67178f2]
def firstV : V8 := ⟨0x6a09e667, 0xbb67ae85, 0x3c6ef372, 0xa54ff53a, 0x510e527f, 0x9b05688c, 0x1f83d9ab, 0x5be0cd19⟩
/-- The value behind n steps. -/
def roundsS (h : V8) (w : List Int) : Nat → V8
  | 0 => h
  | i + 1 => stepS (roundsS h w i) (keysL.getD i 0) (w.getD i 0)
def addV (v h : V8) : V8 := ⟨(v.a + h.a) % 4294967296, (v.b + h.b) % 4294967296, (v.c + h.c) % 4294967296, (v.d + h.d) % 4294967296, (v.e + h.e) % 4294967296, (v.f + h.f) % 4294967296, (v.g + h.g) % 4294967296, (v.h + h.h) % 4294967296⟩
/-- The hash value behind a block. -/
def blockS (h : V8) (b : List Int) : V8 := addV (roundsS h (schedS b 64) 64) h

/-- A step, its sums flat. -/
theorem step_flat (a b c d e f g h k w : Int) : stepS ⟨a, b, c, d, e, f, g, h⟩ k w =
    ⟨(h + lg1 e + xw (aw e f) (aw (nw e) g) + k + w + (lg0 a + xw (xw (aw a b) (aw a c)) (aw b c))) % 4294967296, a, b, c, (d + (h + lg1 e + xw (aw e f) (aw (nw e) g) + k + w)) % 4294967296, e, f, g⟩ := by
  unfold stepS tS uS
  simp only [V8.mk.injEq, and_true, true_and]
  generalize lg1 e = x1
  generalize xw (aw e f) (aw (nw e) g) = x2
  generalize lg0 a = x3
  generalize xw (xw (aw a b) (aw a c)) (aw b c) = x4
  omega

theorem schedS_len (b : List Int) (n : Nat) : (schedS b n).length = n := by
  induction n with
  | zero => rfl
  | succ n ih => simp [schedS, ih]

theorem bits_or_comm (a b : Int) : bits .or .u32 a b = bits .or .u32 b a := by
  unfold bits
  simp only []
  rw [BitVec.or_comm]

/-- Four bytes put together by 'or'. -/
theorem or_word (a b c d : Int) (ha : 0 ≤ a ∧ a ≤ 255) (hb : 0 ≤ b ∧ b ≤ 255) (hc : 0 ≤ c ∧ c ≤ 255) (hd : 0 ≤ d ∧ d ≤ 255) :
    bits .or .u32 (bits .or .u32 (bits .or .u32 (a * 16777216) (b * 65536)) (c * 256)) d = a * 16777216 + b * 65536 + c * 256 + d := by
  obtain ⟨x, rfl⟩ : ∃ x : Nat, a = x := ⟨a.toNat, by omega⟩
  obtain ⟨y, rfl⟩ : ∃ y : Nat, b = y := ⟨b.toNat, by omega⟩
  obtain ⟨z, rfl⟩ : ∃ z : Nat, c = z := ⟨c.toNat, by omega⟩
  obtain ⟨u, rfl⟩ : ∃ u : Nat, d = u := ⟨d.toNat, by omega⟩
  have e1 : ((x : Int) * 16777216) = ((x * 16777216 : Nat) : Int) := by omega
  have e2 : ((y : Int) * 65536) = ((y * 65536 : Nat) : Int) := by omega
  have e3 : ((z : Int) * 256) = ((z * 256 : Nat) : Int) := by omega
  rw [e1, e2, e3, u32_or_nat _ _ (by omega) (by omega), nat_join 24 (x * 16777216) (y * 65536) (by omega) (by omega), u32_or_nat _ _ (by omega) (by omega), nat_join 16 _ (z * 256) (by omega) (by omega),
    u32_or_nat _ _ (by omega) (by omega), nat_join 8 _ u (by omega) (by omega)]
  omega


end Go.Proofs.YtaafgakflmgpoaaDoor
