/- Sums of 256 bits: words, blocks, rounds; what grows block by block and what is padded whole come to one. -/
import Derived.Test.YtpagpmioopaciaaGreatPCloS
set_option linter.unusedVariables false
set_option linter.unusedSimpArgs false
namespace Go.Mo
open Go.RowKit Go.Lib
/-- What stands behind a step that may turn the first of what is owned. -/
theorem Hp.modT {w0 w w' : World} {S : List Nat} {H : List Res} (n : Nat) (h : Hp w0 S w H) (k : Mod (feet (H.take n)) w w') : Mod S w0 w' :=
  h.mod.trans k fun x hx => by
    obtain ⟨r, hr, hf⟩ : ∃ r ∈ H.take n, x ∈ r.foot := by simpa [feet] using hx
    exact (h.new r (List.mem_of_mem_take hr) x hf).symm
theorem Hp.stays {w0 w w' : World} {S : List Nat} {H : List Res} (n j : Nat) {q : Res} (h : Hp w0 S w H) (hj : H[j]? = some q) (hn : n ≤ j) (k : Mod (feet (H.take n)) w w') : q.at_ w' := by
  refine Res.kept (h.get j hj) k fun g hg hm => ?_
  obtain ⟨r, hr, hf⟩ : ∃ r ∈ H.take n, g ∈ r.foot := by simpa [feet] using hm
  obtain ⟨i, hi, hir⟩ := List.mem_iff_getElem.1 hr
  rw [List.length_take] at hi
  rw [List.getElem_take] at hir
  obtain ⟨hj1, hj2⟩ := List.getElem?_eq_some_iff.1 hj
  have := List.pairwise_iff_getElem.1 h.nd i j (by omega) hj1 (by omega)
  rw [hir, hj2] at this
  exact this g hf hg
def rotB (x : BitVec 32) (n : Nat) : BitVec 32 := (x >>> n) ||| (x <<< (32 - n))
abbrev u32C (x : BitVec 32) : Value := .int .u32 (x.toNat : Int)
def w32s (l : List (BitVec 32)) : List Value := l.map fun x => .int .u32 (x.toNat : Int)
theorem w32s_length (l : List (BitVec 32)) : (w32s l).length = l.length := by simp [w32s]
theorem w32s_one (l : List (BitVec 32)) : ∀ u ∈ w32s l, u.oneCell' = true := by
  intro u hu
  obtain ⟨x, _, rfl⟩ := List.mem_map.1 hu
  rfl
theorem w32s_get {l : List (BitVec 32)} {i : Nat} (h : i < l.length) : (w32s l)[i]? = some (.int .u32 ((l.getD i 0).toNat : Int)) := by
  rw [w32s, List.getElem?_map, List.getD_eq_getElem?_getD, List.getElem?_eq_getElem h]; rfl
theorem w32s_get1 {l : List (BitVec 32)} {i : Nat} (h : i < l.length) : (w32s l)[0 + i * 1]? = some (.int .u32 ((l.getD i 0).toNat : Int)) := by rw [Nat.zero_add, Nat.mul_one, w32s_get h]
section ops
variable {P : Program} {n : Nat} {f : Fm} {w : World} {o : Oper} {x y : Operand} {T : TypeId}
theorem bo_xorV (a b : BitVec 32) : Bo P .xor T x y (.int .u32 (a.toNat : Int)) (.int .u32 (b.toNat : Int)) w (.int .u32 ((a ^^^ b).toNat : Int)) := by
  have h : Bo P .xor T x y _ _ w _ := bo_xor32 a b.toNat
  rwa [BitVec.ofNat_toNat, BitVec.setWidth_eq] at h
theorem bo_andV (a b : BitVec 32) : Bo P .and T x y (.int .u32 (a.toNat : Int)) (.int .u32 (b.toNat : Int)) w (.int .u32 ((a &&& b).toNat : Int)) := by
  have h : Bo P .and T x y _ _ w _ := bo_and32 a b.toNat
  rwa [BitVec.ofNat_toNat, BitVec.setWidth_eq] at h
theorem bo_orV (a b : BitVec 32) : Bo P .or T x y (.int .u32 (a.toNat : Int)) (.int .u32 (b.toNat : Int)) w (.int .u32 ((a ||| b).toNat : Int)) := by
  have h : Bo P .or T x y _ _ w _ := bo_or32 a b.toNat
  rwa [BitVec.ofNat_toNat, BitVec.setWidth_eq] at h
theorem wrap32 (m : Nat) : IntKind.u32.wrap (m : Int) = ((m % 4294967296 : Nat) : Int) := by
  have e : IntKind.u32.signed = false := rfl
  have e2 : (2 ^ IntKind.u32.bits : Int) = 4294967296 := rfl
  simp only [IntKind.wrap, e, e2, Bool.false_and, Bool.false_eq_true, if_false]
  omega
theorem bo_addV (a b : BitVec 32) : Bo P .add T x y (.int .u32 (a.toNat : Int)) (.int .u32 (b.toNat : Int)) w (.int .u32 ((a + b).toNat : Int)) := by
  have h : Bo P .add T x y (.int .u32 (a.toNat : Int)) (.int .u32 (b.toNat : Int)) w _ := bo_add
  have e : IntKind.u32.wrap ((a.toNat : Int) + b.toNat) = ((a + b).toNat : Int) := by
    rw [← Int.natCast_add, wrap32, BitVec.toNat_add]
  rwa [e] at h
theorem bo_shlN {k' : IntKind} (a m : Nat) (hm : m ≤ 32) : Bo P .shl T x y (.int .u32 (a : Int)) (.int k' (m : Int)) w (.int .u32 ((BitVec.ofNat 32 a <<< m).toNat : Int)) := by
  have h : Bo P .shl T x y (.int .u32 (a : Int)) (.int k' (m : Int)) w _ := bo_shl (by omega)
  have e : min (m : Int).toNat IntKind.u32.bits = m := by show min _ 32 = _; omega
  rw [e] at h
  have e2 : IntKind.u32.wrap ((a : Int) * 2 ^ m) = ((BitVec.ofNat 32 a <<< m).toNat : Int) := by
    rw [show ((a : Int) * 2 ^ m) = ((a * 2 ^ m : Nat) : Int) by rw [Int.natCast_mul, Int.natCast_pow]; rfl, wrap32, BitVec.toNat_shiftLeft, Nat.shiftLeft_eq, BitVec.toNat_ofNat, show (2 : Nat) ^ 32 = 4294967296 from rfl, Nat.mod_mul_mod]
  rwa [e2] at h
theorem bo_shlV {k' : IntKind} (a : BitVec 32) (m : Nat) (hm : m ≤ 32) : Bo P .shl T x y (.int .u32 (a.toNat : Int)) (.int k' (m : Int)) w (.int .u32 ((a <<< m).toNat : Int)) := by
  have h : Bo P .shl T x y _ (.int k' (m : Int)) w _ := bo_shlN a.toNat m hm
  rwa [BitVec.ofNat_toNat, BitVec.setWidth_eq] at h
theorem bo_notV (a : BitVec 32) : Bo P .sub T x y (.int .u32 4294967295) (.int .u32 (a.toNat : Int)) w (.int .u32 ((~~~ a).toNat : Int)) := by
  have h : Bo P .sub T x y (.int .u32 4294967295) (.int .u32 (a.toNat : Int)) w _ := bo_sub
  have ha := a.isLt
  have e : IntKind.u32.wrap (4294967295 - (a.toNat : Int)) = ((~~~ a).toNat : Int) := by
    rw [BitVec.toNat_not, show (2 : Nat) ^ 32 = 4294967296 from rfl] at *
    rw [show (4294967295 - (a.toNat : Int)) = ((4294967296 - 1 - a.toNat : Nat) : Int) by omega, u32_id (by omega)]
  rwa [e] at h
theorem conv_u8 {S : TypeId} {k : IntKind} {p : Nat} {d : TypeDesc} (ho : o.op = .convert S T x) (hx : ev n f x = .int k (p : Int)) (hT : P.underlying T = some (.int .u8)) (hS : P.underlying S = some d) (hd : d ≠ .unsafePointer) : Rd P n f o w (.int .u8 ((UInt8.ofNat p).toNat : Int)) := rd_convE ho hx hT hS hd (u8_wrap p)
theorem rd_buildG {E len sz : Nat} {ps : Array (Nat × Operand)} {z : Value} {L : List Value} {l : List (Nat × Value)} (ho : o.op = .build T ps) (hz : (P.info? T).bind (·.zero) = some z) (hT : P.underlying T = some (.array len E)) (hs : (P.info? E).map (·.size) = some sz)
    (hl : ps.toList.map (fun (i, x) => (i, ev n f x)) = l) (hf : Instr.fill (fun i => some (i * sz, sz)) z.cells l = some ⟨L⟩) : Rd P n f o w (.agg ⟨L⟩) := by
  refine rd_buildA ho hz hT hs ?_
  rw [Array.toList_map, hl]
  exact hf
end ops
def kTab : List (BitVec 32) := [
  0x428a2f98, 0x71374491, 0xb5c0fbcf, 0xe9b5dba5, 0x3956c25b, 0x59f111f1, 0x923f82a4, 0xab1c5ed5,
  0xd807aa98, 0x12835b01, 0x243185be, 0x550c7dc3, 0x72be5d74, 0x80deb1fe, 0x9bdc06a7, 0xc19bf174,
  0xe49b69c1, 0xefbe4786, 0x0fc19dc6, 0x240ca1cc, 0x2de92c6f, 0x4a7484aa, 0x5cb0a9dc, 0x76f988da,
  0x983e5152, 0xa831c66d, 0xb00327c8, 0xbf597fc7, 0xc6e00bf3, 0xd5a79147, 0x06ca6351, 0x14292967,
  0x27b70a85, 0x2e1b2138, 0x4d2c6dfc, 0x53380d13, 0x650a7354, 0x766a0abb, 0x81c2c92e, 0x92722c85,
  0xa2bfe8a1, 0xa81a664b, 0xc24b8b70, 0xc76c51a3, 0xd192e819, 0xd6990624, 0xf40e3585, 0x106aa070,
  0x19a4c116, 0x1e376c08, 0x2748774c, 0x34b0bcb5, 0x391c0cb3, 0x4ed8aa4a, 0x5b9cca4f, 0x682e6ff3,
  0x748f82ee, 0x78a5636f, 0x84c87814, 0x8cc70208, 0x90befffa, 0xa4506ceb, 0xbef9a3f7, 0xc67178f2]
theorem kTab_length : kTab.length = 64 := rfl
def u8w (c : UInt8) : BitVec 32 := BitVec.ofNat 32 c.toNat
theorem u8w_nat (c : UInt8) : (u8w c).toNat = c.toNat := by
  have := c.toNat_lt
  rw [u8w, BitVec.toNat_ofNat, Nat.mod_eq_of_lt (by omega)]
def wordB (b : List UInt8) (i : Nat) : BitVec 32 := u8w (b.getD (4 * i) 0) <<< 24 ||| u8w (b.getD (4 * i + 1) 0) <<< 16 ||| u8w (b.getD (4 * i + 2) 0) <<< 8 ||| u8w (b.getD (4 * i + 3) 0)
theorem word_val (a b c d : UInt8) : ((u8w a <<< 24 ||| u8w b <<< 16 ||| u8w c <<< 8 ||| u8w d).toNat : Int) = a.toNat * 16777216 + b.toNat * 65536 + c.toNat * 256 + d.toNat := by
  have ha := a.toNat_lt
  have hb := b.toNat_lt
  have hc := c.toNat_lt
  have hd := d.toNat_lt
  simp only [BitVec.toNat_or, BitVec.toNat_shiftLeft, u8w_nat, Nat.shiftLeft_eq]
  rw [Nat.mod_eq_of_lt (by omega), Nat.mod_eq_of_lt (by omega), Nat.mod_eq_of_lt (by omega)]
  have e1 : a.toNat * 2 ^ 24 ||| b.toNat * 2 ^ 16 = a.toNat * 2 ^ 24 + b.toNat * 2 ^ 16 := by
    rw [Nat.mul_comm a.toNat, Nat.two_pow_add_eq_or_of_lt (by omega)]
  have e2 : (a.toNat * 2 ^ 24 + b.toNat * 2 ^ 16) ||| c.toNat * 2 ^ 8 = a.toNat * 2 ^ 24 + b.toNat * 2 ^ 16 + c.toNat * 2 ^ 8 := by
    rw [show a.toNat * 2 ^ 24 + b.toNat * 2 ^ 16 = 2 ^ 16 * (a.toNat * 2 ^ 8 + b.toNat) by omega, Nat.two_pow_add_eq_or_of_lt (by omega)]
  have e3 : (a.toNat * 2 ^ 24 + b.toNat * 2 ^ 16 + c.toNat * 2 ^ 8) ||| d.toNat = a.toNat * 2 ^ 24 + b.toNat * 2 ^ 16 + c.toNat * 2 ^ 8 + d.toNat := by
    rw [show a.toNat * 2 ^ 24 + b.toNat * 2 ^ 16 + c.toNat * 2 ^ 8 = 2 ^ 8 * (a.toNat * 2 ^ 16 + b.toNat * 2 ^ 8 + c.toNat) by omega, Nat.two_pow_add_eq_or_of_lt (by omega)]
  rw [e1, e2, e3]
  omega
def sg0 (x : BitVec 32) : BitVec 32 := rotB x 7 ^^^ rotB x 18 ^^^ (x >>> 3)
def sg1 (y : BitVec 32) : BitVec 32 := rotB y 17 ^^^ rotB y 19 ^^^ (y >>> 10)
def sched1 (b : List UInt8) (l : List (BitVec 32)) (k : Nat) : BitVec 32 := if k < 16 then wordB b k else l.getD (k - 16) 0 + sg0 (l.getD (k - 15) 0) + l.getD (k - 7) 0 + sg1 (l.getD (k - 2) 0)
def schedB (b : List UInt8) : Nat → List (BitVec 32)
  | 0 => []
  | k + 1 => schedB b k ++ [sched1 b (schedB b k) k]
theorem schedB_length (b : List UInt8) : ∀ k, (schedB b k).length = k
  | 0 => rfl
  | k + 1 => by rw [schedB, List.length_append, schedB_length b k]; rfl
/-- A row of words, of which the first k are there. -/
def schZ (b : List UInt8) (k : Nat) : List (BitVec 32) := schedB b k ++ List.replicate (64 - k) 0
theorem schZ_length {b : List UInt8} {k : Nat} (h : k ≤ 64) : (schZ b k).length = 64 := by simp [schZ, schedB_length]; omega
theorem schZ_all (b : List UInt8) : schZ b 64 = schedB b 64 := by simp [schZ]
theorem schZ_get {b : List UInt8} {k j : Nat} (h : j < k) : (schZ b k).getD j 0 = (schedB b k).getD j 0 := by
  rw [schZ, List.getD_eq_getElem?_getD, List.getElem?_append_left (by rw [schedB_length]; exact h), List.getD_eq_getElem?_getD]
theorem sch_cell {b : List UInt8} {k j : Nat} (h : j < k) (hk : k ≤ 64) : (w32s (schZ b k))[0 + j * 1]? = some (.int .u32 (((schedB b k).getD j 0).toNat : Int)) := by
  rw [w32s_get1 (by rw [schZ_length hk]; omega), schZ_get h]
theorem w32s_set (l : List (BitVec 32)) (k : Nat) (b : BitVec 32) (h : k < l.length) : splice (w32s l) (0 + k * 1) [.int .u32 (b.toNat : Int)] = w32s (l.set k b) := by
  rw [Nat.zero_add, Nat.mul_one]
  apply List.ext_getElem?
  intro j
  rw [splice_get _ _ _ (by rw [w32s_length]; simp only [List.length_cons, List.length_nil]; omega)]
  simp only [w32s, List.getElem?_map, List.getElem?_set, List.length_cons, List.length_nil]
  by_cases h1 : j < k
  · rw [if_pos h1, if_neg (by omega)]
  · by_cases h2 : j = k
    · subst h2; rw [if_neg (by omega), if_pos (by omega), if_pos rfl, if_pos h, Nat.sub_self]; rfl
    · rw [if_neg h1, if_neg (by omega), if_neg (by omega)]
theorem sch_put {b : List UInt8} {k : Nat} {v : BitVec 32} (hk : k < 64) (hv : v = sched1 b (schedB b k) k) : splice (w32s (schZ b k)) (0 + k * 1) [.int .u32 (v.toNat : Int)] = w32s (schZ b (k + 1)) := by
  rw [w32s_set _ _ _ (by rw [schZ_length (by omega)]; exact hk), hv]
  congr 1
  have e : List.replicate (64 - k) (0 : BitVec 32) = 0 :: List.replicate (64 - (k + 1)) 0 := by rw [show 64 - k = (64 - (k + 1)) + 1 by omega, List.replicate_succ]
  rw [schZ, e, schZ, schedB, List.set_append_right _ _ (by rw [schedB_length]; exact Nat.le_refl _), schedB_length, Nat.sub_self, List.append_assoc]
  rfl
theorem sched_low {b : List UInt8} {k : Nat} (h : k < 16) : wordB b k = sched1 b (schedB b k) k := by rw [sched1, if_pos h]
theorem sched_high {b : List UInt8} {l : List (BitVec 32)} {k : Nat} (h : 16 ≤ k) : l.getD (k - 16) 0 + sg0 (l.getD (k - 15) 0) + l.getD (k - 7) 0 + sg1 (l.getD (k - 2) 0) = sched1 b l k := by rw [sched1, if_neg (by omega)]
structure W8 where
  a : BitVec 32
  b : BitVec 32
  c : BitVec 32
  d : BitVec 32
  e : BitVec 32
  f : BitVec 32
  g : BitVec 32
  h : BitVec 32
def W8.l (s : W8) : List (BitVec 32) := [s.a, s.b, s.c, s.d, s.e, s.f, s.g, s.h]
def stC (s : W8) : List Value := [u32C s.a, u32C s.b, u32C s.c, u32C s.d, u32C s.e, u32C s.f, u32C s.g, u32C s.h]
theorem stC_length (s : W8) : (stC s).length = 8 := rfl
theorem stC_one (s : W8) : ∀ u ∈ stC s, u.oneCell' = true := w32s_one s.l
theorem W8.len (s : W8) : s.l.length = 8 := rfl
theorem fill8 (a b c d e f g h : BitVec 32) : Instr.fill (fun i => some (i * 1, 1)) (Value.agg ⟨List.replicate 8 (.int .u32 0)⟩).cells [(0, u32C a), (1, u32C b), (2, u32C c), (3, u32C d), (4, u32C e), (5, u32C f), (6, u32C g), (7, u32C h)] = some ⟨stC ⟨a, b, c, d, e, f, g, h⟩⟩ := by
  refine fill_more (L' := [u32C a, .int .u32 0, .int .u32 0, .int .u32 0, .int .u32 0, .int .u32 0, .int .u32 0, .int .u32 0]) 0 1 rfl rfl rfl (by simp only [List.length_cons, List.length_nil, List.length_replicate]; omega) rfl ?_
  refine fill_more (L' := [u32C a, u32C b, .int .u32 0, .int .u32 0, .int .u32 0, .int .u32 0, .int .u32 0, .int .u32 0]) 1 1 rfl rfl rfl (by simp only [List.length_cons, List.length_nil, List.length_replicate]; omega) rfl ?_
  refine fill_more (L' := [u32C a, u32C b, u32C c, .int .u32 0, .int .u32 0, .int .u32 0, .int .u32 0, .int .u32 0]) 2 1 rfl rfl rfl (by simp only [List.length_cons, List.length_nil, List.length_replicate]; omega) rfl ?_
  refine fill_more (L' := [u32C a, u32C b, u32C c, u32C d, .int .u32 0, .int .u32 0, .int .u32 0, .int .u32 0]) 3 1 rfl rfl rfl (by simp only [List.length_cons, List.length_nil, List.length_replicate]; omega) rfl ?_
  refine fill_more (L' := [u32C a, u32C b, u32C c, u32C d, u32C e, .int .u32 0, .int .u32 0, .int .u32 0]) 4 1 rfl rfl rfl (by simp only [List.length_cons, List.length_nil, List.length_replicate]; omega) rfl ?_
  refine fill_more (L' := [u32C a, u32C b, u32C c, u32C d, u32C e, u32C f, .int .u32 0, .int .u32 0]) 5 1 rfl rfl rfl (by simp only [List.length_cons, List.length_nil, List.length_replicate]; omega) rfl ?_
  refine fill_more (L' := [u32C a, u32C b, u32C c, u32C d, u32C e, u32C f, u32C g, .int .u32 0]) 6 1 rfl rfl rfl (by simp only [List.length_cons, List.length_nil, List.length_replicate]; omega) rfl ?_
  refine fill_more (L' := [u32C a, u32C b, u32C c, u32C d, u32C e, u32C f, u32C g, u32C h]) 7 1 rfl rfl rfl (by simp only [List.length_cons, List.length_nil, List.length_replicate]; omega) rfl ?_
  exact fill_done rfl
def ivB : W8 := ⟨0x6a09e667, 0xbb67ae85, 0x3c6ef372, 0xa54ff53a, 0x510e527f, 0x9b05688c, 0x1f83d9ab, 0x5be0cd19⟩
def bS1 (e : BitVec 32) : BitVec 32 := rotB e 6 ^^^ rotB e 11 ^^^ rotB e 25
def bS0 (a : BitVec 32) : BitVec 32 := rotB a 2 ^^^ rotB a 13 ^^^ rotB a 22
def bCh (e f g : BitVec 32) : BitVec 32 := (e &&& f) ^^^ (~~~ e &&& g)
def bMj (a b c : BitVec 32) : BitVec 32 := (a &&& b) ^^^ (a &&& c) ^^^ (b &&& c)
def tB (s : W8) (k w : BitVec 32) : BitVec 32 := s.h + bS1 s.e + bCh s.e s.f s.g + k + w
def uB (s : W8) : BitVec 32 := bS0 s.a + bMj s.a s.b s.c
def roundB (s : W8) (k w : BitVec 32) : W8 := ⟨tB s k w + uB s, s.a, s.b, s.c, s.d + tB s k w, s.e, s.f, s.g⟩
def roundsB (s : W8) (w : List (BitVec 32)) : Nat → W8
  | 0 => s
  | i + 1 => roundB (roundsB s w i) (kTab.getD i 0) (w.getD i 0)
def addB (s v : W8) : W8 := ⟨s.a + v.a, s.b + v.b, s.c + v.c, s.d + v.d, s.e + v.e, s.f + v.f, s.g + v.g, s.h + v.h⟩
def mixB (s : W8) (b : List UInt8) : W8 := addB s (roundsB s (schedB b 64) 64)
/-- The first i words with others added. -/
def addP (s v : W8) (i : Nat) : List (BitVec 32) := (List.range 8).map fun j => if j < i then s.l.getD j 0 + v.l.getD j 0 else s.l.getD j 0
theorem addP_length (s v : W8) (i : Nat) : (addP s v i).length = 8 := by simp [addP]
theorem addP_all (s v : W8) : w32s (addP s v 8) = stC (addB s v) := rfl
theorem addP_get {s v : W8} {i : Nat} (h : i < 8) : (addP s v i).getD i 0 = s.l.getD i 0 := by
  rw [addP, List.getD_eq_getElem?_getD, List.getElem?_map, List.getElem?_range h]
  simp
theorem addP_put {s v : W8} {i : Nat} (h : i < 8) : splice (w32s (addP s v i)) (0 + i * 1) [.int .u32 (((addP s v i).getD i 0 + v.l.getD i 0).toNat : Int)] = w32s (addP s v (i + 1)) := by
  rw [w32s_set _ _ _ (by rw [addP_length]; exact h), addP_get h]
  congr 1
  apply List.ext_getElem?
  intro j
  rw [List.getElem?_set, addP_length]
  simp only [addP, List.getElem?_map]
  by_cases h1 : i = j
  · subst h1; rw [if_pos rfl, if_pos h, List.getElem?_range h]; simp
  · rw [if_neg h1]
    cases hj : (List.range 8)[j]? with
    | none => rfl
    | some q =>
      have hq := List.getElem?_eq_some_iff.1 hj
      have : q = j := by have := hq.2; simp at this; omega
      subst this
      simp only [Option.map_some]
      congr 1
      by_cases h2 : q < i
      · rw [if_pos h2, if_pos (by omega)]
      · rw [if_neg h2, if_neg (by omega)]
/-- The words behind so many blocks. -/
def foldB (s : W8) (b : List UInt8) : Nat → W8
  | 0 => s
  | k + 1 => mixB (foldB s b k) ((b.drop (64 * k)).take 64)
theorem foldB_add (s : W8) (b : List UInt8) (q : Nat) : ∀ j, foldB s b (q + j) = foldB (foldB s b q) (b.drop (64 * q)) j
  | 0 => rfl
  | j + 1 => by
    rw [← Nat.add_assoc, foldB, foldB_add s b q j, foldB, List.drop_drop]
    congr 3
    omega
theorem foldB_append (s : W8) (a b : List UInt8) : ∀ q, 64 * q ≤ a.length → foldB s (a ++ b) q = foldB s a q
  | 0, _ => rfl
  | q + 1, h => by
    rw [foldB, foldB, foldB_append s a b q (by omega), List.drop_append_of_le_length (by omega), List.take_append_of_le_length (by rw [List.length_drop]; omega)]
def padZ (n : Nat) : Nat := (119 - n % 64) % 64
theorem padZ_end (n : Nat) : (n + 1 + padZ n) % 64 = 56 := by unfold padZ; omega
theorem padZ_step {n i : Nat} (hi : i ≤ padZ n) (h : ¬ (n + 1 + i) % 64 = 56) : i < padZ n := by unfold padZ at *; omega
theorem padZ_stop {n i : Nat} (hi : i ≤ padZ n) (h : (n + 1 + i) % 64 = 56) : i = padZ n := by unfold padZ at *; omega
theorem padZ_mod {n m : Nat} (h : n % 64 = m % 64) : padZ n = padZ m := by rw [padZ, padZ, h]
theorem padZ_lt (n : Nat) : padZ n < 64 := Nat.mod_lt _ (by decide)
/-- The first i of eight bytes of a number, the highest ahead. -/
def lenP (n i : Nat) : List UInt8 := (List.range i).map fun j => UInt8.ofNat (n / 2 ^ (56 - 8 * j))
theorem lenP_length (n i : Nat) : (lenP n i).length = i := by simp [lenP]
theorem lenP_succ (n i : Nat) : lenP n (i + 1) = lenP n i ++ [UInt8.ofNat (n / 2 ^ (56 - 8 * i))] := by simp [lenP, List.range_succ]
/-- What comes behind the last bytes. -/
def endB (rest : List UInt8) (n : Nat) : List UInt8 := rest ++ [128] ++ List.replicate (padZ rest.length) 0 ++ lenP (8 * n) 8
theorem endB_length (rest : List UInt8) (n : Nat) : (endB rest n).length = rest.length + 1 + padZ rest.length + 8 := by simp [endB, lenP_length]; omega
theorem endB_mod (rest : List UInt8) (n : Nat) : (endB rest n).length % 64 = 0 := by
  rw [endB_length]
  have := padZ_end rest.length
  omega
def padB (b : List UInt8) : List UInt8 := endB b b.length
def outB (s : W8) (i : Nat) : UInt8 := UInt8.ofNat ((s.l.getD (i / 4) 0) >>> (24 - 8 * (i % 4))).toNat
def outP (s : W8) (i : Nat) : List UInt8 := (List.range i).map (outB s)
theorem outP_length (s : W8) (i : Nat) : (outP s i).length = i := by simp [outP]
theorem outP_succ (s : W8) (i : Nat) : outP s (i + 1) = outP s i ++ [outB s i] := by simp [outP, List.range_succ]
def sumB (b : List UInt8) : List UInt8 := outP (foldB ivB (padB b) ((padB b).length / 64)) 32
theorem sumB_length (b : List UInt8) : (sumB b).length = 32 := outP_length _ _
theorem out_put {s : W8} {i : Nat} {v : UInt8} (h : i < 32) (hv : v = outB s i) : splice (bys (outP s i ++ List.replicate (32 - i) 0)) (0 + i * 1) [.int .u8 (v.toNat : Int)] = bys (outP s (i + 1) ++ List.replicate (32 - (i + 1)) 0) := by
  rw [Nat.zero_add, Nat.mul_one, show 32 - i = (32 - (i + 1)) + 1 by omega, List.replicate_succ, bys_append, bys_cons, splice_one _ _ _ _ _ (by rw [bys_length, outP_length]), hv, outP_succ, bys_append, bys_append, bys_cons, bys_nil, List.append_assoc]
  rfl
/-- How far bytes are mixed in: the words, and what is left. -/
def hqB (b : List UInt8) : Nat := b.length / 64
def hwB (b : List UInt8) : W8 := foldB ivB b (hqB b)
def hrB (b : List UInt8) : List UInt8 := b.drop (64 * hqB b)
theorem hrB_length (b : List UInt8) : (hrB b).length = b.length % 64 := by rw [hrB, List.length_drop, hqB]; omega
theorem grow_q (b c : List UInt8) : hqB (b ++ c) = hqB b + (hrB b ++ c).length / 64 := by
  rw [hqB, List.length_append, List.length_append, hrB_length, hqB]; omega
theorem grow_w (b c : List UInt8) (k : Nat) (hk : 64 * k ≤ (hrB b ++ c).length) : foldB (hwB b) (hrB b ++ c) k = foldB ivB (b ++ c) (hqB b + k) := by
  have h64 : 64 * hqB b ≤ b.length := by rw [hqB]; omega
  rw [foldB_add, foldB_append _ _ _ _ h64, List.drop_append_of_le_length h64]; rfl
theorem grow_done (b c : List UInt8) (k : Nat) (hk : 64 * k ≤ (hrB b ++ c).length) (hl : (hrB b ++ c).length - 64 * k < 64) : foldB (hwB b) (hrB b ++ c) k = hwB (b ++ c) ∧ (hrB b ++ c).drop (64 * k) = hrB (b ++ c) := by
  have h64 : 64 * hqB b ≤ b.length := by rw [hqB]; omega
  have ek : k = (hrB b ++ c).length / 64 := by omega
  have eq := grow_q b c
  rw [← ek] at eq
  refine ⟨by rw [grow_w b c k hk, ← eq]; rfl, ?_⟩
  rw [hrB, hrB, eq, ← List.drop_append_of_le_length h64, List.drop_drop]
  congr 1
  omega
theorem sum_grown (b : List UInt8) : outP (foldB (hwB b) (endB (hrB b) b.length) ((endB (hrB b) b.length).length / 64)) 32 = sumB b := by
  have h64 : 64 * hqB b ≤ b.length := by rw [hqB]; omega
  have ez : padZ (hrB b).length = padZ b.length := padZ_mod (by rw [hrB_length]; omega)
  have e1 : padB b = b.take (64 * hqB b) ++ endB (hrB b) b.length := by
    rw [padB, endB, endB, ez, ← List.append_assoc, ← List.append_assoc, ← List.append_assoc, hrB, List.take_append_drop]
  have hl : (b.take (64 * hqB b)).length = 64 * hqB b := by rw [List.length_take]; omega
  have e2 : (padB b).length / 64 = hqB b + (endB (hrB b) b.length).length / 64 := by rw [e1, List.length_append, hl]; omega
  have e3 : foldB ivB (padB b) (hqB b) = hwB b := by rw [padB, endB, List.append_assoc, List.append_assoc, foldB_append _ _ _ _ h64]; rfl
  have e4 : (padB b).drop (64 * hqB b) = endB (hrB b) b.length := by rw [e1, List.drop_left' hl]
  rw [sumB, e2, foldB_add, e3, e4]
/-- The cells of a sum that grows. -/
def hsM (s : W8) (rv : Value) (n : Nat) : List Value := [u32C s.a, u32C s.b, u32C s.c, u32C s.d, u32C s.e, u32C s.f, u32C s.g, u32C s.h, rv, .int .u64 (n : Int)]
def hsC (b : List UInt8) (rv : Value) : List Value := hsM (hwB b) rv b.length
theorem hsM_words {s : W8} {rv : Value} {n j : Nat} {u : Value} (h : (stC s)[j]? = some u) : (hsM s rv n)[j]? = some u := by
  have e : hsM s rv n = stC s ++ [rv, .int .u64 (n : Int)] := rfl
  have hj : j < (stC s).length := (List.getElem?_eq_some_iff.1 h).1
  rw [e, List.getElem?_append_left hj]; exact h
theorem hsM_put (s s' : W8) (rv : Value) (n : Nat) : splice (hsM s rv n) 0 (stC s') = hsM s' rv n := rfl
theorem hsM_rest (s : W8) (rv rv' : Value) (n : Nat) : splice (hsM s rv n) 8 [rv'] = hsM s rv' n := rfl
theorem hsM_n (s : W8) (rv : Value) (n n' : Nat) : splice (hsM s rv n) 9 [.int .u64 (n' : Int)] = hsM s rv n' := rfl
theorem hsM_get8 (s : W8) (rv : Value) (n : Nat) : (hsM s rv n)[8]? = some rv := rfl
theorem hsM_get9 (s : W8) (rv : Value) (n : Nat) : (hsM s rv n)[9]? = some (.int .u64 (n : Int)) := rfl
theorem tail64 {w : World} {A : Option Addr} {n c k : Nat} {X : List UInt8} (h : Sl w (.slice A n c) 1 n (bys (X.drop (64 * k)))) (hn : 64 ≤ n) {A3 : Option Addr} {c3 : Nat} (hA : (if c = 64 then A else A.map (·.add (64 * 1))) = A3) (hc : c - 64 = c3) : Sl w (.slice A3 (n - 64) c3) 1 (n - 64) (bys (X.drop (64 * (k + 1)))) := by
  have h2 := h.cutB 64 n hn (Nat.le_refl _)
  have hl := h.blen
  rw [List.length_drop] at hl
  rw [hA, hc, List.drop_drop, List.take_of_length_le (by rw [List.length_drop]; omega), show 64 * k + 64 = 64 * (k + 1) by omega] at h2
  exact h2
section ops2
variable {P : Program} {n : Nat} {f : Fm} {w : World} {o : Oper} {x y : Operand} {T : TypeId}
theorem bo_shrU {k' : IntKind} (a m : Nat) (hm : m < 64) : Bo P .shr T x y (.int .u64 (a : Int)) (.int k' (m : Int)) w (.int .u64 ((a / 2 ^ m : Nat) : Int)) := by
  have h : Bo P .shr T x y (.int .u64 (a : Int)) (.int k' (m : Int)) w _ := bo_shr (by omega) (by omega)
  have e : min (m : Int).toNat IntKind.u64.bits = m := by show min _ 64 = _; omega
  rw [e] at h
  have e2 : ((a : Int) / 2 ^ m) = ((a / 2 ^ m : Nat) : Int) := by rw [Int.natCast_ediv, Int.natCast_pow]; rfl
  rwa [e2] at h
end ops2
theorem win_get (l : List UInt8) (a q : Nat) (h : q < 64) : ((l.drop a).take 64).getD q 0 = l.getD (a + q) 0 := by
  rw [List.getD_eq_getElem?_getD, List.getElem?_take, if_pos h, List.getElem?_drop, List.getD_eq_getElem?_getD]
theorem word_win (l : List UInt8) (a i : Nat) (h : i < 16) : ((wordB ((l.drop a).take 64) i).toNat : Int) = (l.getD (a + 4 * i) 0).toNat * 16777216 + (l.getD (a + 4 * i + 1) 0).toNat * 65536 + (l.getD (a + 4 * i + 2) 0).toNat * 256 + (l.getD (a + 4 * i + 3) 0).toNat := by
  rw [wordB, word_val, win_get _ _ _ (by omega), win_get _ _ _ (by omega), win_get _ _ _ (by omega), win_get _ _ _ (by omega)]
  rfl
/-- Texts one behind the other, each with its slice. -/
def laV (L : List (Value × List UInt8)) (i : Nat) : Value × List UInt8 := L.getD i (.slice none 0 0, [])
theorem laV_some {L : List (Value × List UInt8)} {i : Nat} (h : i < L.length) : L[i]? = some (laV L i) := by rw [laV, List.getD_eq_getElem?_getD, List.getElem?_eq_getElem h]; rfl
theorem laV_mem {L : List (Value × List UInt8)} {i : Nat} (h : i < L.length) : laV L i ∈ L := List.mem_of_getElem? (laV_some h)
theorem laV_cell {L : List (Value × List UInt8)} {i : Nat} (h : i < L.length) : (L.map Prod.fst)[i * 1]? = some (laV L i).1 := by rw [Nat.mul_one, List.getElem?_map, laV_some h]; rfl
def laB (L : List (Value × List UInt8)) (i : Nat) : List UInt8 := (L.take i).flatMap Prod.snd
theorem laB_succ {L : List (Value × List UInt8)} {i : Nat} (h : i < L.length) : laB L (i + 1) = laB L i ++ (laV L i).2 := by
  rw [laB, take_one (laV_some h), List.flatMap_append]; simp [laB]
theorem laB_all {L : List (Value × List UInt8)} {i : Nat} (h : L.length ≤ i) : laB L i = L.flatMap Prod.snd := by rw [laB, List.take_of_length_le h]
theorem laB_le (L : List (Value × List UInt8)) (i : Nat) : (laB L i).length ≤ (L.flatMap Prod.snd).length := by
  have h : L.flatMap Prod.snd = laB L i ++ (L.drop i).flatMap Prod.snd := by rw [laB, ← List.flatMap_append, List.take_append_drop]
  rw [h, List.length_append]; omega
end Go.Mo
