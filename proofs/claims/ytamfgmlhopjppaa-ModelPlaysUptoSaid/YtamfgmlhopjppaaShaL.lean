/-
  Plain law: the digest, as a function of bytes.
-/
import Derived.Test.YtamfgmlhopjppaaGB
namespace Go.Proofs.Ytamfgmlhopjppaa

structure S8 where
  a : W
  b : W
  c : W
  d : W
  e : W
  f : W
  g : W
  h : W
def S8.l (s : S8) : List W := [s.a, s.b, s.c, s.d, s.e, s.f, s.g, s.h]
def S8.add (s t : S8) : S8 := ⟨s.a + t.a, s.b + t.b, s.c + t.c, s.d + t.d, s.e + t.e, s.f + t.f, s.g + t.g, s.h + t.h⟩
def sig0 (x : W) : W := rotr x 7 ^^^ rotr x 18 ^^^ (x >>> 3)
def sig1 (x : W) : W := rotr x 17 ^^^ rotr x 19 ^^^ (x >>> 10)
def big1 (e : W) : W := rotr e 6 ^^^ rotr e 11 ^^^ rotr e 25
def big0 (a : W) : W := rotr a 2 ^^^ rotr a 13 ^^^ rotr a 22
def ch (e f g : W) : W := (e &&& f) ^^^ (~~~e &&& g)
def maj (a b c : W) : W := (a &&& b) ^^^ (a &&& c) ^^^ (b &&& c)
/-- a round -/
def rnd (s : S8) (k w : W) : S8 :=
  let one := s.h + big1 s.e + ch s.e s.f s.g + k + w
  ⟨one + (big0 s.a + maj s.a s.b s.c), s.a, s.b, s.c, s.d + one, s.e, s.f, s.g⟩
def byteN (b : List UInt8) (i : Nat) : Nat := (b.getD i 0).toNat
def word (b : List UInt8) (t : Nat) : W := BitVec.ofNat 32 (byteN b (4 * t) * 16777216 + byteN b (4 * t + 1) * 65536 + byteN b (4 * t + 2) * 256 + byteN b (4 * t + 3))
def wnext (b : List UInt8) (l : List W) (t : Nat) : W :=
  if t < 16 then word b t else l.getD (t - 16) 0 + l.getD (t - 7) 0 + sig0 (l.getD (t - 15) 0) + sig1 (l.getD (t - 2) 0)
/-- the words so far -/
def wpre (b : List UInt8) : Nat → List W
  | 0 => []
  | t + 1 => wpre b t ++ [wnext b (wpre b t) t]
theorem wpre_length (b : List UInt8) (t : Nat) : (wpre b t).length = t := by induction t with
  | zero => rfl
  | succ t ih => simp [wpre, ih]
theorem wpre_get (b : List UInt8) (t n : Nat) (h : t < n) : (wpre b n)[t]? = some (wnext b (wpre b t) t) := by
  induction n with
  | zero => omega
  | succ n ih =>
    rcases Nat.lt_or_ge t n with hlt | hge
    · rw [wpre, List.getElem?_append_left (by rw [wpre_length]; exact hlt)]; exact ih hlt
    · obtain rfl : t = n := by omega
      rw [wpre, List.getElem?_append_right (by rw [wpre_length]; omega), wpre_length]; simp
def K64 : List W := [
  0x428a2f98#32, 0x71374491#32, 0xb5c0fbcf#32, 0xe9b5dba5#32, 0x3956c25b#32, 0x59f111f1#32, 0x923f82a4#32, 0xab1c5ed5#32,
  0xd807aa98#32, 0x12835b01#32, 0x243185be#32, 0x550c7dc3#32, 0x72be5d74#32, 0x80deb1fe#32, 0x9bdc06a7#32, 0xc19bf174#32,
  0xe49b69c1#32, 0xefbe4786#32, 0x0fc19dc6#32, 0x240ca1cc#32, 0x2de92c6f#32, 0x4a7484aa#32, 0x5cb0a9dc#32, 0x76f988da#32,
  0x983e5152#32, 0xa831c66d#32, 0xb00327c8#32, 0xbf597fc7#32, 0xc6e00bf3#32, 0xd5a79147#32, 0x06ca6351#32, 0x14292967#32,
  0x27b70a85#32, 0x2e1b2138#32, 0x4d2c6dfc#32, 0x53380d13#32, 0x650a7354#32, 0x766a0abb#32, 0x81c2c92e#32, 0x92722c85#32,
  0xa2bfe8a1#32, 0xa81a664b#32, 0xc24b8b70#32, 0xc76c51a3#32, 0xd192e819#32, 0xd6990624#32, 0xf40e3585#32, 0x106aa070#32,
  0x19a4c116#32, 0x1e376c08#32, 0x2748774c#32, 0x34b0bcb5#32, 0x391c0cb3#32, 0x4ed8aa4a#32, 0x5b9cca4f#32, 0x682e6ff3#32,
  0x748f82ee#32, 0x78a5636f#32, 0x84c87814#32, 0x8cc70208#32, 0x90befffa#32, 0xa4506ceb#32, 0xbef9a3f7#32, 0xc67178f2#32]
theorem K64_length : K64.length = 64 := rfl
/-- t rounds -/
def rnds (b : List UInt8) (s : S8) : Nat → S8
  | 0 => s
  | t + 1 => rnd (rnds b s t) (K64.getD t 0) ((wpre b 64).getD t 0)
/-- a block gone over -/
def comp (s : S8) (b : List UInt8) : S8 := s.add (rnds b s 64)
def H0 : S8 := ⟨0x6a09e667#32, 0xbb67ae85#32, 0x3c6ef372#32, 0xa54ff53a#32, 0x510e527f#32, 0x9b05688c#32, 0x1f83d9ab#32, 0x5be0cd19#32⟩
/-- so many blocks gone over -/
def comps (m : List UInt8) (s : S8) : Nat → S8
  | 0 => s
  | n + 1 => comp (comps m s n) ((m.drop (64 * n)).take 64)
/-- the zeros behind a message of n bytes and its 128 -/
def padN (n : Nat) : Nat := (119 - n % 64) % 64
def len8 (n : Nat) : List UInt8 := [7, 6, 5, 4, 3, 2, 1, 0].map fun i => UInt8.ofNat (n * 8 / 2 ^ (8 * i))
def padded (m : List UInt8) : List UInt8 := m ++ [128] ++ List.replicate (padN m.length) 0 ++ len8 m.length
theorem padN_mod (n : Nat) : (n + 1 + padN n) % 64 = 56 ∧ padN n < 64 := by unfold padN; omega
theorem padded_length (m : List UInt8) : (padded m).length = m.length + 1 + padN m.length + 8 := by simp [padded, len8]; omega
theorem padded_mod (m : List UInt8) : (padded m).length % 64 = 0 := by rw [padded_length]; have := (padN_mod m.length).1; omega
def bytes4 (x : W) : List UInt8 := [UInt8.ofNat (x.toNat / 16777216), UInt8.ofNat (x.toNat / 65536), UInt8.ofNat (x.toNat / 256), UInt8.ofNat x.toNat]
/-- THE DIGEST. -/
def sha (m : List UInt8) : List UInt8 := ((comps (padded m) H0 ((padded m).length / 64)).l.map bytes4).flatten
theorem sha_length (m : List UInt8) : (sha m).length = 32 := by simp [sha, S8.l, bytes4]
end Go.Proofs.Ytamfgmlhopjppaa
