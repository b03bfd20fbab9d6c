/-
  THE PLAIN PART: SHA-256 by definition, over bytes and 32-bit words. No program in sight.
-/
namespace Go.Proofs.YtljghknojbpccaaDoor.Sp
set_option linter.unusedSimpArgs false
set_option linter.unusedVariables false

def rot (x n : UInt32) : UInt32 := (x >>> n) ||| (x <<< (32 - n))
def sg0 (x : UInt32) : UInt32 := rot x 7 ^^^ rot x 18 ^^^ (x >>> 3)
def sg1 (x : UInt32) : UInt32 := rot x 17 ^^^ rot x 19 ^^^ (x >>> 10)

def ks : List UInt32 := [
  0x428a2f98, 0x71374491, 0xb5c0fbcf, 0xe9b5dba5, 0x3956c25b, 0x59f111f1, 0x923f82a4, 0xab1c5ed5,
  0xd807aa98, 0x12835b01, 0x243185be, 0x550c7dc3, 0x72be5d74, 0x80deb1fe, 0x9bdc06a7, 0xc19bf174,
  0xe49b69c1, 0xefbe4786, 0x0fc19dc6, 0x240ca1cc, 0x2de92c6f, 0x4a7484aa, 0x5cb0a9dc, 0x76f988da,
  0x983e5152, 0xa831c66d, 0xb00327c8, 0xbf597fc7, 0xc6e00bf3, 0xd5a79147, 0x06ca6351, 0x14292967,
  0x27b70a85, 0x2e1b2138, 0x4d2c6dfc, 0x53380d13, 0x650a7354, 0x766a0abb, 0x81c2c92e, 0x92722c85,
  0xa2bfe8a1, 0xa81a664b, 0xc24b8b70, 0xc76c51a3, 0xd192e819, 0xd6990624, 0xf40e3585, 0x106aa070,
  0x19a4c116, 0x1e376c08, 0x2748774c, 0x34b0bcb5, 0x391c0cb3, 0x4ed8aa4a, 0x5b9cca4f, 0x682e6ff3,
  0x748f82ee, 0x78a5636f, 0x84c87814, 0x8cc70208, 0x90befffa, 0xa4506ceb, 0xbef9a3f7, 0xc67178f2]

/-- the eight words -/
structure S8 where
  a : UInt32
  b : UInt32
  c : UInt32
  d : UInt32
  e : UInt32
  f : UInt32
  g : UInt32
  h : UInt32

def S8.list (s : S8) : List UInt32 := [s.a, s.b, s.c, s.d, s.e, s.f, s.g, s.h]
def S8.add (s t : S8) : S8 := ⟨s.a + t.a, s.b + t.b, s.c + t.c, s.d + t.d, s.e + t.e, s.f + t.f, s.g + t.g, s.h + t.h⟩

def init : S8 := ⟨0x6a09e667, 0xbb67ae85, 0x3c6ef372, 0xa54ff53a, 0x510e527f, 0x9b05688c, 0x1f83d9ab, 0x5be0cd19⟩

def t1 (s : S8) (k w : UInt32) : UInt32 := s.h + (rot s.e 6 ^^^ rot s.e 11 ^^^ rot s.e 25) + ((s.e &&& s.f) ||| (~~~s.e &&& s.g)) + k + w
def t2 (s : S8) : UInt32 := (rot s.a 2 ^^^ rot s.a 13 ^^^ rot s.a 22) + ((s.a &&& s.b) ||| (s.a &&& s.c) ||| (s.b &&& s.c))
def step (s : S8) (k w : UInt32) : S8 := ⟨t1 s k w + t2 s, s.a, s.b, s.c, s.d + t1 s k w, s.e, s.f, s.g⟩

/-- the first n rounds, over the words w -/
def rnds (w : List UInt32) : Nat → S8 → S8
  | 0, s => s
  | n + 1, s => step (rnds w n s) (ks.getD n 0) (w.getD n 0)

/-- the word at place t of a block -/
def word (b : List UInt8) (t : Nat) : UInt32 :=
  ((((b.getD (4 * t) 0).toUInt32 <<< 24) ||| ((b.getD (4 * t + 1) 0).toUInt32 <<< 16)) ||| ((b.getD (4 * t + 2) 0).toUInt32 <<< 8)) ||| (b.getD (4 * t + 3) 0).toUInt32

/-- the word that comes behind t words, 16 ≤ t -/
def nextW (w : List UInt32) (t : Nat) : UInt32 := sg1 (w.getD (t - 2) 0) + w.getD (t - 7) 0 + sg0 (w.getD (t - 15) 0) + w.getD (t - 16) 0

/-- the first n words of a block -/
def wl (b : List UInt8) : Nat → List UInt32
  | 0 => []
  | t + 1 => wl b t ++ [if t < 16 then word b t else nextW (wl b t) t]

def compress (s : S8) (b : List UInt8) : S8 := s.add (rnds (wl b 64) 64 s)

/-- the state after the first n blocks of m -/
def after (m : List UInt8) : Nat → S8
  | 0 => init
  | n + 1 => compress (after m n) ((m.drop (64 * n)).take 64)

/-- a number of 64 bits, the most significant byte first -/
def be64 (n : Nat) : List UInt8 := [UInt8.ofNat (n / 2 ^ 56), UInt8.ofNat (n / 2 ^ 48), UInt8.ofNat (n / 2 ^ 40), UInt8.ofNat (n / 2 ^ 32), UInt8.ofNat (n / 2 ^ 24), UInt8.ofNat (n / 2 ^ 16), UInt8.ofNat (n / 2 ^ 8), UInt8.ofNat (n / 2 ^ 0)]

/-- how many zeros stand behind the byte 128 -/
def zeros (n : Nat) : Nat := (120 - (n + 1) % 64) % 64

def padded (m : List UInt8) : List UInt8 := m ++ [128] ++ List.replicate (zeros m.length) 0 ++ be64 (m.length * 8)

def bytes4 (x : UInt32) : List UInt8 := [(x >>> 24).toUInt8, (x >>> 16).toUInt8, (x >>> 8).toUInt8, x.toUInt8]
def outB (s : S8) : List UInt8 := s.list.flatMap bytes4

def digest (m : List UInt8) : List UInt8 := outB (after (padded m) ((padded m).length / 64))

end Go.Proofs.YtljghknojbpccaaDoor.Sp
