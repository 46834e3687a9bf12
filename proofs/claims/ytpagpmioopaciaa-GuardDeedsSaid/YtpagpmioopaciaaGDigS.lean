/- Sums of 256 bits: words, blocks, rounds; what grows block by block and what is padded whole come to one. -/
import Derived.Test.YtpagpmioopaciaaGCloS
set_option linter.unusedVariables false
set_option linter.unusedSimpArgs false
namespace Go.Mo
open Go.RowKit Go.Lib
theorem Hp.stays {w0 w w' : World} {S : List Nat} {H : List Res} (n j : Nat) {q : Res} (h : Hp w0 S w H) (hj : H[j]? = some q) (hn : n ≤ j) (k : Mod (feet (H.take n)) w w') : q.at_ w' := by
  refine Res.kept (h.get j hj) k fun g hg hm => ?_
  obtain ⟨r, hr, hf⟩ : ∃ r ∈ H.take n, g ∈ r.foot := by simpa [feet] using hm
  obtain ⟨i, hi, hir⟩ := List.mem_iff_getElem.1 hr
  rw [List.length_take] at hi
  rw [List.getElem_take] at hir
  obtain ⟨hj1, hj2⟩ := List.getElem?_eq_some_iff.1 hj
  have := List.pairwise_iff_getElem.1 h.nd i j (by omega) hj1 (by omega)
  rw [hir, hj2] at this
  exact this g hf hg
def rotB (x : BitVec 32) (n : Nat) : BitVec 32 := (x >>> n) ||| (x <<< (32 - n))
section ops
variable {P : Program} {n : Nat} {f : Fm} {w : World} {o : Oper} {x y : Operand} {T : TypeId}
theorem bo_andV (a b : BitVec 32) : Bo P .and T x y (.int .u32 (a.toNat : Int)) (.int .u32 (b.toNat : Int)) w (.int .u32 ((a &&& b).toNat : Int)) := by
  have h : Bo P .and T x y _ _ w _ := bo_and32 a b.toNat
  rwa [BitVec.ofNat_toNat, BitVec.setWidth_eq] at h
theorem bo_orV (a b : BitVec 32) : Bo P .or T x y (.int .u32 (a.toNat : Int)) (.int .u32 (b.toNat : Int)) w (.int .u32 ((a ||| b).toNat : Int)) := by
  have h : Bo P .or T x y _ _ w _ := bo_or32 a b.toNat
  rwa [BitVec.ofNat_toNat, BitVec.setWidth_eq] at h
theorem wrap32 (m : Nat) : IntKind.u32.wrap (m : Int) = ((m % 4294967296 : Nat) : Int) := by
  have e : IntKind.u32.signed = false := rfl
  have e2 : (2 ^ IntKind.u32.bits : Int) = 4294967296 := rfl
  simp only [IntKind.wrap, e, e2, Bool.false_and, Bool.false_eq_true, if_false]
  omega
theorem bo_shlN {k' : IntKind} (a m : Nat) (hm : m ≤ 32) : Bo P .shl T x y (.int .u32 (a : Int)) (.int k' (m : Int)) w (.int .u32 ((BitVec.ofNat 32 a <<< m).toNat : Int)) := by
  have h : Bo P .shl T x y (.int .u32 (a : Int)) (.int k' (m : Int)) w _ := bo_shl (by omega)
  have e : min (m : Int).toNat IntKind.u32.bits = m := by show min _ 32 = _; omega
  rw [e] at h
  have e2 : IntKind.u32.wrap ((a : Int) * 2 ^ m) = ((BitVec.ofNat 32 a <<< m).toNat : Int) := by
    rw [show ((a : Int) * 2 ^ m) = ((a * 2 ^ m : Nat) : Int) by rw [Int.natCast_mul, Int.natCast_pow]; rfl, wrap32, BitVec.toNat_shiftLeft, Nat.shiftLeft_eq, BitVec.toNat_ofNat, show (2 : Nat) ^ 32 = 4294967296 from rfl, Nat.mod_mul_mod]
  rwa [e2] at h
end ops
def kTab : List (BitVec 32) := [
  0x428a2f98, 0x71374491, 0xb5c0fbcf, 0xe9b5dba5, 0x3956c25b, 0x59f111f1, 0x923f82a4, 0xab1c5ed5,
  0xd807aa98, 0x12835b01, 0x243185be, 0x550c7dc3, 0x72be5d74, 0x80deb1fe, 0x9bdc06a7, 0xc19bf174,
  0xe49b69c1, 0xefbe4786, 0x0fc19dc6, 0x240ca1cc, 0x2de92c6f, 0x4a7484aa, 0x5cb0a9dc, 0x76f988da,
  0x983e5152, 0xa831c66d, 0xb00327c8, 0xbf597fc7, 0xc6e00bf3, 0xd5a79147, 0x06ca6351, 0x14292967,
  0x27b70a85, 0x2e1b2138, 0x4d2c6dfc, 0x53380d13, 0x650a7354, 0x766a0abb, 0x81c2c92e, 0x92722c85,
  0xa2bfe8a1, 0xa81a664b, 0xc24b8b70, 0xc76c51a3, 0xd192e819, 0xd6990624, 0xf40e3585, 0x106aa070,
  0x19a4c116, 0x1e376c08, 0x2748774c, 0x34b0bcb5, 0x391c0cb3, 0x4ed8aa4a, 0x5b9cca4f, 0x682e6ff3,
  0x748f82ee, 0x78a5636f, 0x84c87814, 0x8cc70208, 0x90befffa, 0xa4506ceb, 0xbef9a3f7, 0xc67178f2]
def u8w (c : UInt8) : BitVec 32 := BitVec.ofNat 32 c.toNat
def wordB (b : List UInt8) (i : Nat) : BitVec 32 := u8w (b.getD (4 * i) 0) <<< 24 ||| u8w (b.getD (4 * i + 1) 0) <<< 16 ||| u8w (b.getD (4 * i + 2) 0) <<< 8 ||| u8w (b.getD (4 * i + 3) 0)
def sg0 (x : BitVec 32) : BitVec 32 := rotB x 7 ^^^ rotB x 18 ^^^ (x >>> 3)
def sg1 (y : BitVec 32) : BitVec 32 := rotB y 17 ^^^ rotB y 19 ^^^ (y >>> 10)
def sched1 (b : List UInt8) (l : List (BitVec 32)) (k : Nat) : BitVec 32 := if k < 16 then wordB b k else l.getD (k - 16) 0 + sg0 (l.getD (k - 15) 0) + l.getD (k - 7) 0 + sg1 (l.getD (k - 2) 0)
def schedB (b : List UInt8) : Nat → List (BitVec 32)
  | 0 => []
  | k + 1 => schedB b k ++ [sched1 b (schedB b k) k]
structure W8 where
  a : BitVec 32
  b : BitVec 32
  c : BitVec 32
  d : BitVec 32
  e : BitVec 32
  f : BitVec 32
  g : BitVec 32
  h : BitVec 32
def W8.l (s : W8) : List (BitVec 32) := [s.a, s.b, s.c, s.d, s.e, s.f, s.g, s.h]
theorem W8.len (s : W8) : s.l.length = 8 := rfl
def ivB : W8 := ⟨0x6a09e667, 0xbb67ae85, 0x3c6ef372, 0xa54ff53a, 0x510e527f, 0x9b05688c, 0x1f83d9ab, 0x5be0cd19⟩
def bS1 (e : BitVec 32) : BitVec 32 := rotB e 6 ^^^ rotB e 11 ^^^ rotB e 25
def bS0 (a : BitVec 32) : BitVec 32 := rotB a 2 ^^^ rotB a 13 ^^^ rotB a 22
def bCh (e f g : BitVec 32) : BitVec 32 := (e &&& f) ^^^ (~~~ e &&& g)
def bMj (a b c : BitVec 32) : BitVec 32 := (a &&& b) ^^^ (a &&& c) ^^^ (b &&& c)
def tB (s : W8) (k w : BitVec 32) : BitVec 32 := s.h + bS1 s.e + bCh s.e s.f s.g + k + w
def uB (s : W8) : BitVec 32 := bS0 s.a + bMj s.a s.b s.c
def roundB (s : W8) (k w : BitVec 32) : W8 := ⟨tB s k w + uB s, s.a, s.b, s.c, s.d + tB s k w, s.e, s.f, s.g⟩
def roundsB (s : W8) (w : List (BitVec 32)) : Nat → W8
  | 0 => s
  | i + 1 => roundB (roundsB s w i) (kTab.getD i 0) (w.getD i 0)
def addB (s v : W8) : W8 := ⟨s.a + v.a, s.b + v.b, s.c + v.c, s.d + v.d, s.e + v.e, s.f + v.f, s.g + v.g, s.h + v.h⟩
def mixB (s : W8) (b : List UInt8) : W8 := addB s (roundsB s (schedB b 64) 64)
/-- The words behind so many blocks. -/
def foldB (s : W8) (b : List UInt8) : Nat → W8
  | 0 => s
  | k + 1 => mixB (foldB s b k) ((b.drop (64 * k)).take 64)
def padZ (n : Nat) : Nat := (119 - n % 64) % 64
/-- The first i of eight bytes of a number, the highest ahead. -/
def lenP (n i : Nat) : List UInt8 := (List.range i).map fun j => UInt8.ofNat (n / 2 ^ (56 - 8 * j))
/-- What comes behind the last bytes. -/
def endB (rest : List UInt8) (n : Nat) : List UInt8 := rest ++ [128] ++ List.replicate (padZ rest.length) 0 ++ lenP (8 * n) 8
def padB (b : List UInt8) : List UInt8 := endB b b.length
def outB (s : W8) (i : Nat) : UInt8 := UInt8.ofNat ((s.l.getD (i / 4) 0) >>> (24 - 8 * (i % 4))).toNat
def outP (s : W8) (i : Nat) : List UInt8 := (List.range i).map (outB s)
theorem outP_length (s : W8) (i : Nat) : (outP s i).length = i := by simp [outP]
def sumB (b : List UInt8) : List UInt8 := outP (foldB ivB (padB b) ((padB b).length / 64)) 32
theorem sumB_length (b : List UInt8) : (sumB b).length = 32 := outP_length _ _
section ops2
variable {P : Program} {n : Nat} {f : Fm} {w : World} {o : Oper} {x y : Operand} {T : TypeId}
end ops2
end Go.Mo
