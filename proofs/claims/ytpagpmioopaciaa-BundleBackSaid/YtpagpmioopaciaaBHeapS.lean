/- The sum of bytes, twice: bit by bit in a register, and as what is left of a division; they are one. -/
import Derived.Test.YtpagpmioopaciaaBWordS
import Derived.Laws.BitsLemmas
set_option linter.unusedVariables false
set_option linter.unusedSimpArgs false
namespace Go.Mo
def stepB (r : BitVec 32) : BitVec 32 := if (r &&& 1#32).toNat = 1 then (r >>> 1) ^^^ 3988292384#32 else r >>> 1
def stepsB : Nat → BitVec 32 → BitVec 32
  | 0, r => r
  | k + 1, r => stepB (stepsB k r)
def turnB (r : BitVec 32) (c : UInt8) : BitVec 32 := stepsB 8 (r ^^^ BitVec.ofNat 32 c.toNat)
def moreB (s : BitVec 32) (l : List UInt8) : BitVec 32 := ~~~ (l.foldl turnB (~~~ s))
def ofB (l : List UInt8) : BitVec 32 := moreB 0#32 l
def bitB (b : Bool) : BitVec 32 := if b then 1#32 else 0#32
theorem bitB_get (b : Bool) (k : Nat) : (bitB b).getLsbD k = (b && decide (k = 0)) := by
  cases b
  · simp [bitB]
  · simp only [bitB, if_true, Bool.true_and, BitVec.getLsbD_one]
    cases k <;> simp
theorem low_one (r : BitVec 32) : (r &&& 1#32).toNat = 1 ↔ r.getLsbD 0 = true := by
  rw [BitVec.toNat_and]
  show r.toNat &&& 1 = 1 ↔ _
  rw [Nat.and_one_is_mod, BitVec.getLsbD, Nat.testBit_zero]
  simp
theorem stepB_get (r : BitVec 32) (k : Nat) : (stepB r).getLsbD k = (r.getLsbD (1 + k) ^^ (r.getLsbD 0 && (3988292384#32).getLsbD k)) := by
  unfold stepB
  split
  · rename_i h; rw [low_one] at h; rw [h, BitVec.getLsbD_xor, BitVec.getLsbD_ushiftRight]; simp
  · rename_i h; rw [low_one] at h; rw [Bool.not_eq_true] at h; rw [h, BitVec.getLsbD_ushiftRight]; simp
/-- The register, bit by bit. -/
def regL : BitVec 32 → List Bool → BitVec 32
  | r, [] => r
  | r, b :: l => regL (stepB (r ^^^ bitB b)) l
theorem regL_append (r : BitVec 32) (a b : List Bool) : regL r (a ++ b) = regL (regL r a) b := by
  induction a generalizing r with
  | nil => rfl
  | cons x a ih => exact ih _
def bits8 (c : UInt8) : List Bool := (List.range 8).map fun k => c.toNat.testBit k
def bitsL (l : List UInt8) : List Bool := l.flatMap bits8
/-- Bits that are already in the register. -/
def inB : List Bool → BitVec 32
  | [] => 0#32
  | b :: l => bitB b ^^^ (inB l <<< 1)
theorem inB_get : ∀ (l : List Bool) (k : Nat), k < 32 → (inB l).getLsbD k = l.getD k false
  | [], k, _ => by simp [inB]
  | b :: l, 0, _ => by rw [inB, BitVec.getLsbD_xor, bitB_get, BitVec.getLsbD_shiftLeft]; simp
  | b :: l, k + 1, h => by
    rw [inB, BitVec.getLsbD_xor, bitB_get, BitVec.getLsbD_shiftLeft]
    have := inB_get l k (by omega)
    simp [h, this]
theorem step_in (r y : BitVec 32) (hy : y.getLsbD 31 = false) : stepB (r ^^^ (y <<< 1)) = stepB r ^^^ y := by
  apply BitVec.eq_of_getLsbD_eq
  intro k hk
  simp only [stepB_get, BitVec.getLsbD_xor, BitVec.getLsbD_shiftLeft]
  rcases Nat.lt_or_ge k 31 with h | h
  · have e1 : 1 + k - 1 = k := by omega
    have e2 : decide (1 + k < 32) = true := by simp; omega
    have e3 : decide (1 + k < 1) = false := by simp
    simp only [e1, e2, e3, Bool.true_and, Bool.not_false]
    simp [Bool.xor_comm, Bool.xor_left_comm]
  · obtain rfl : k = 31 := by omega
    have hy' : y[31] = false := by simpa using hy
    simp [hy']
def stepsC : Nat → BitVec 32 → BitVec 32
  | 0, r => r
  | k + 1, r => stepsC k (stepB r)
theorem regL_in : ∀ (l : List Bool) (r : BitVec 32), l.length ≤ 31 → stepsC l.length (r ^^^ inB l) = regL r l
  | [], r, _ => by simp [stepsC, inB, regL]
  | b :: l, r, h => by
    simp only [List.length_cons] at h
    rw [List.length_cons, stepsC, inB, regL, ← BitVec.xor_assoc, step_in _ _ (by
      have := inB_get l 31 (by omega)
      rw [this, List.getD_eq_getElem?_getD, List.getElem?_eq_none (by omega)]
      rfl)]
    exact regL_in l _ (by omega)
theorem stepsB_succ : ∀ (k : Nat) (r : BitVec 32), stepsB (k + 1) r = stepsB k (stepB r)
  | 0, _ => rfl
  | k + 1, r => by rw [stepsB, stepsB_succ k r, stepsB]
theorem steps_eq : ∀ (k : Nat) (r : BitVec 32), stepsC k r = stepsB k r
  | 0, _ => rfl
  | k + 1, r => by rw [stepsC, steps_eq k, stepsB_succ]
theorem inB_bits (c : UInt8) : inB (bits8 c) = BitVec.ofNat 32 c.toNat := by
  apply BitVec.eq_of_getLsbD_eq
  intro k hk
  rw [inB_get _ _ hk, BitVec.getLsbD_ofNat, List.getD_eq_getElem?_getD]
  have hc := c.toNat_lt
  rcases Nat.lt_or_ge k 8 with h | h
  · simp [bits8, h, hk]
  · rw [List.getElem?_eq_none (by simp [bits8]; omega)]
    have : c.toNat.testBit k = false := Nat.testBit_lt_two_pow (Nat.lt_of_lt_of_le hc (Nat.pow_le_pow_right (n := 2) (by decide) h))
    simp [this]
theorem turnB_reg (r : BitVec 32) (c : UInt8) : turnB r c = regL r (bits8 c) := by
  rw [turnB, ← inB_bits, ← regL_in (bits8 c) r (by simp [bits8]), steps_eq]
  rfl
theorem fold_reg : ∀ (l : List UInt8) (r : BitVec 32), l.foldl turnB r = regL r (bitsL l)
  | [], _ => rfl
  | c :: l, r => by rw [List.foldl_cons, fold_reg l, turnB_reg, ← regL_append]; rfl
/-- What is left of a division: bits, the first over and over. -/
def xorL : List Bool → List Bool → List Bool
  | a :: x, b :: y => (a ^^ b) :: xorL x y
  | x, [] => x
  | [], _ => []
theorem xorL_get : ∀ (x y : List Bool) (k : Nat), k < x.length → (xorL x y).getD k false = (x.getD k false ^^ y.getD k false)
  | [], y, k, h => by simp at h
  | a :: x, [], k, h => by simp [xorL]
  | a :: x, b :: y, 0, h => by simp [xorL]
  | a :: x, b :: y, k + 1, h => by
    have := xorL_get x y k (by simpa using h)
    simpa [xorL] using this
theorem xorL_length : ∀ (x y : List Bool), (xorL x y).length = x.length
  | [], [] => rfl
  | [], _ :: _ => rfl
  | a :: x, [] => rfl
  | a :: x, b :: y => by simp [xorL, xorL_length x y]
theorem ext_getD {x y : List Bool} (hl : x.length = y.length) (h : ∀ k, k < x.length → x.getD k false = y.getD k false) : x = y := by
  apply List.ext_getElem hl
  intro k h1 h2
  have := h k h1
  simpa [List.getD_eq_getElem?_getD, h1, h2] using this
theorem step_yes {x : BitVec 32} (h : (x &&& 1#32).toNat = 1) : stepB x = (x >>> 1) ^^^ 3988292384#32 := by rw [stepB, if_pos h]
theorem step_no {x : BitVec 32} (h : ¬ (x &&& 1#32).toNat = 1) : stepB x = x >>> 1 := by rw [stepB, if_neg h]
theorem fold_take {α β : Type} (f : α → β → α) (z : α) (l : List β) (k : Nat) (d : β) (h : k < l.length) : (l.take (k + 1)).foldl f z = f ((l.take k).foldl f z) (l.getD k d) := by
  rw [List.take_succ_eq_append_getElem h, List.foldl_append, List.getD_eq_getElem?_getD, List.getElem?_eq_getElem h]
  rfl
def fourL (r : BitVec 32) : List UInt8 := [UInt8.ofNat r.toNat, UInt8.ofNat (r >>> 8).toNat, UInt8.ofNat (r >>> 16).toNat, UInt8.ofNat (r >>> 24).toNat]
theorem four_raw (r : BitVec 32) : [Value.int .u8 (IntKind.u8.wrap (r.toNat : Int)), .int .u8 (IntKind.u8.wrap ((r >>> 8).toNat : Int)), .int .u8 (IntKind.u8.wrap ((r >>> 16).toNat : Int)), .int .u8 (IntKind.u8.wrap ((r >>> 24).toNat : Int))] = bys (fourL r) := by
  simp only [fourL, bys, List.map, u8_wrap]
def holdsL (l : List UInt8) : Bool := decide (4 ≤ l.length) && decide (fourL (ofB (l.take (l.length - 4))) = l.drop (l.length - 4))
def sealL (l : List UInt8) : List UInt8 := l ++ fourL (ofB l)
section bitops
variable {P : Program} {T : TypeId} {x y : Operand} {w : World}
end bitops
theorem bitsL_length : ∀ l : List UInt8, (bitsL l).length = 8 * l.length
  | [] => rfl
  | b :: l => by
    have := bitsL_length l
    simp only [bitsL, List.flatMap_cons, List.length_append, List.length_cons] at *
    rw [this]; simp [bits8]; omega
end Go.Mo
set_option linter.unusedVariables false
set_option linter.unusedSimpArgs false
namespace Go.Mo
/-- A load of a whole variable. -/
theorem rd_loadC {P : Program} {n : Nat} {f : Fm} {w : World} {o : Oper} {x : Operand} {T U : TypeId} {g sz : Nat} {d : TypeDesc} {L : List Value} (ho : o.op = .load T x) (hx : ev n f x = .pointer (some ⟨g, 0, none⟩)) (hT : P.underlying T = some d) (hd : plainT d = false)
    (hs : (P.info? T).map (·.size) = some sz) (hg : (cells g U L).at_ w) (hl : L.length = sz) : Rd P n f o w (.agg ⟨L⟩) :=
  rd_loadN ho hx hT hd hs hl fun j u hj => by rw [Nat.zero_add]; exact (cell_of_cells hg j).trans hj
def padN (n : Nat) (b : List UInt8) : List UInt8 := b ++ List.replicate (n - b.length) 0
theorem padN_length {n : Nat} {b : List UInt8} (h : b.length ≤ n) : (padN n b).length = n := by simp [padN]; omega
/-- What the reference seals: bytes, noughts up to 252, the sum. -/
def longL (b : List UInt8) : List UInt8 := padN 252 b ++ fourL (ofB (padN 252 b))
def secL (b : List UInt8) : List UInt8 := (longL b).take 256
theorem fourL_length (r : BitVec 32) : (fourL r).length = 4 := rfl
theorem longL_length {b : List UInt8} (h : b.length ≤ 252) : (longL b).length = 256 := by rw [longL, List.length_append, padN_length h, fourL_length]
theorem secL_eq {b : List UInt8} (h : b.length ≤ 252) : secL b = longL b := by rw [secL, List.take_of_length_le (by rw [longL_length h]; omega)]
theorem holds_long {b : List UInt8} (h : b.length ≤ 252) : holdsL (longL b) = true := by
  rw [holdsL, longL_length h]
  have e1 : (longL b).take (256 - 4) = padN 252 b := by rw [longL, List.take_append_of_le_length (by rw [padN_length h]; decide), List.take_of_length_le (by rw [padN_length h]; decide)]
  have e2 : (longL b).drop (256 - 4) = fourL (ofB (padN 252 b)) := by
    have := padN_length h
    rw [longL, List.drop_append, List.drop_of_length_le (by omega), this]; rfl
  rw [e1, e2]
  simp
theorem long_take {b : List UInt8} (h : b.length ≤ 252) : (longL b).take 252 = padN 252 b := by
  rw [longL, List.take_append_of_le_length (by rw [padN_length h]; decide), List.take_of_length_le (by rw [padN_length h]; decide)]
end Go.Mo
set_option linter.unusedVariables false
set_option linter.unusedSimpArgs false
namespace Go.Mo
theorem cur_step (l : List UInt8) (k : Nat) (h : k ≤ l.length) : curOk false l (k : Int) = true ∧ curOut false l (k : Int) = l.take k ∧ curL false l (k : Int) = l.drop k := by
  have hok : curOk false l (k : Int) = true := by simp only [curOk, Bool.not_false, Bool.true_and, decide_eq_true_eq]; omega
  exact ⟨hok, (cur_yes hok).1, (cur_yes hok).2⟩
theorem num_step (l : List UInt8) (k : Nat) (h : k ≤ l.length) (h8 : k ≤ 8) : curNum false l (k : Int) = getL (l.take k) := by
  rw [curNum, (cur_step l k h).2.1, List.take_take, Nat.min_eq_right h8]
theorem put_get : ∀ l : List UInt8, putL (getL l) l.length = l
  | [] => rfl
  | b :: l => by
    have hb := b.toNat_lt
    have e1 : UInt8.ofNat (b.toNat + 256 * getL l) = b := by
      apply UInt8.toNat_inj.1
      rw [UInt8.toNat_ofNat']
      omega
    have e2 : (b.toNat + 256 * getL l) / 256 = getL l := by omega
    rw [getL, List.length_cons, putL, e1, e2, put_get l]
theorem get_put {k n : Nat} (h : n < 256 ^ k) : getL (putL n k) = n := by rw [getL_put, Nat.mod_eq_of_lt h]
inductive ClockM where
  | fixed (n : Int)
  | state (a b : Int)
  | none
instance : Inhabited ClockM := ⟨.none⟩
def ClockM.after (t : Int) : ClockM → Int
  | .fixed n => max t n
  | .state a _ => max t a
  | .none => t
theorem take_one {α : Type} {l : List α} {i : Nat} {x : α} (h : l[i]? = some x) : l.take (i + 1) = l.take i ++ [x] := by
  obtain ⟨hi, rfl⟩ := List.getElem?_eq_some_iff.1 h
  rw [List.take_succ_eq_append_getElem hi]
end Go.Mo
set_option linter.unusedVariables false
set_option linter.unusedSimpArgs false
namespace Go.Mo
structure It (α : Type) where
  at_ : Int
  rk : Nat
  wt : α
instance {α : Type} [Inhabited α] : Inhabited (It α) := ⟨⟨0, 0, default⟩⟩
section
variable {α : Type}
def ltB (x y : It α) : Bool := decide (x.at_ < y.at_) || (decide (x.at_ = y.at_) && decide (x.rk < y.rk))
theorem ltB_t {x y : It α} : ltB x y = true ↔ x.at_ < y.at_ ∨ x.at_ = y.at_ ∧ x.rk < y.rk := by simp only [ltB, Bool.or_eq_true, Bool.and_eq_true, decide_eq_true_eq]
theorem ltB_f {x y : It α} : ltB x y = false ↔ ¬ (x.at_ < y.at_ ∨ x.at_ = y.at_ ∧ x.rk < y.rk) := by rw [← ltB_t]; simp
variable [Inhabited α]
def itAt (h : List (It α)) (i : Nat) : It α := h.getD i default
theorem itAt_some {h : List (It α)} {i : Nat} (hi : i < h.length) : h[i]? = some (itAt h i) := by rw [itAt, List.getD_eq_getElem?_getD, List.getElem?_eq_getElem hi]; rfl
theorem itAt_of {h : List (It α)} {i : Nat} {x : It α} (hx : h[i]? = some x) : itAt h i = x := by rw [itAt, List.getD_eq_getElem?_getD, hx]; rfl
def HeapL (h : List (It α)) : Prop := ∀ k, 0 < k → k < h.length → ltB (itAt h k) (itAt h ((k - 1) / 2)) = false
theorem heap_min {h : List (It α)} (hh : HeapL h) : ∀ k, k < h.length → ltB (itAt h k) (itAt h 0) = false := by
  intro k
  induction k using Nat.strongRecOn with
  | _ k ih =>
    intro hk
    by_cases e : k = 0
    · subst e; rw [ltB_f]; omega
    · have q := hh k (by omega) hk
      have q2 := ih ((k - 1) / 2) (by omega) (by omega)
      rw [ltB_f] at q q2 ⊢
      omega
/-- A heap that stands for things in their order. -/
structure Rep (h M : List (It α)) (n : Nat) : Prop where
  perm : h.Perm M
  srt : M.Pairwise fun x y => ltB x y = true
  heap : HeapL h
  rk : ∀ x ∈ M, x.rk < n
theorem Rep.nil : Rep (α := α) [] [] 0 := ⟨.refl _, .nil, fun k _ hk => (by cases hk), fun x hx => (by cases hx)⟩
theorem Rep.len {h M : List (It α)} {n : Nat} (r : Rep h M n) : h.length = M.length := r.perm.length_eq
theorem Rep.head {h M : List (It α)} {n : Nat} {x : It α} (r : Rep h (x :: M) n) : itAt h 0 = x := by
  have hl : 0 < h.length := by rw [r.len]; simp
  have hm : itAt h 0 ∈ x :: M := r.perm.mem_iff.1 (List.mem_of_getElem? (itAt_some hl))
  rcases List.mem_cons.1 hm with e | hm
  · exact e
  · have h1 := (List.pairwise_cons.1 r.srt).1 _ hm
    obtain ⟨k, hk⟩ := List.getElem?_of_mem (r.perm.mem_iff.2 (List.mem_cons_self (a := x) (l := M)))
    have h2 := heap_min r.heap k (List.getElem?_eq_some_iff.1 hk).1
    rw [itAt_of hk, h1] at h2
    cases h2
def insI (x : It α) (M : List (It α)) : List (It α) := M.takeWhile (fun y => decide (y.at_ ≤ x.at_)) ++ x :: M.dropWhile (fun y => decide (y.at_ ≤ x.at_))
omit [Inhabited α] in
theorem insI_perm (x : It α) (M : List (It α)) : (insI x M).Perm (M ++ [x]) := by
  have h1 : (insI x M).Perm (x :: M) := by
    have := List.perm_middle (a := x) (l₁ := M.takeWhile (fun y => decide (y.at_ ≤ x.at_))) (l₂ := M.dropWhile (fun y => decide (y.at_ ≤ x.at_)))
    rw [List.takeWhile_append_dropWhile] at this
    exact this
  exact h1.trans (List.perm_append_singleton x M).symm
omit [Inhabited α] in
theorem srt_drop {M : List (It α)} (hs : M.Pairwise fun x y => ltB x y = true) (t : Int) : ∀ y ∈ M.dropWhile (fun y => decide (y.at_ ≤ t)), t < y.at_ := by
  induction M with
  | nil => simp
  | cons z M ih =>
    intro y hy
    have hp := List.pairwise_cons.1 hs
    rw [List.dropWhile_cons] at hy
    split at hy
    · exact ih hp.2 y hy
    · rename_i hz
      simp only [decide_eq_true_eq] at hz
      rcases List.mem_cons.1 hy with e | hy
      · subst e; omega
      · have q := hp.1 y hy
        rw [ltB_t] at q
        omega
theorem mem_tw {β : Type} {p : β → Bool} : ∀ {l : List β} {y : β}, y ∈ l.takeWhile p → p y = true
  | [], _, h => by cases h
  | z :: l, y, h => by
    rw [List.takeWhile_cons] at h
    split at h
    · rename_i hz
      rcases List.mem_cons.1 h with e | h
      · subst e; exact hz
      · exact mem_tw h
    · cases h
theorem Rep.add {h M h' : List (It α)} {n : Nat} {x : It α} (r : Rep h M n) (hx : x.rk = n) (hp : h'.Perm (h ++ [x])) (hh : HeapL h') : Rep h' (insI x M) (n + 1) := by
  have hperm : h'.Perm (insI x M) := hp.trans ((r.perm.append_right [x]).trans (insI_perm x M).symm)
  refine ⟨hperm, ?_, hh, fun y hy => ?_⟩
  · have e : M = M.takeWhile (fun y => decide (y.at_ ≤ x.at_)) ++ M.dropWhile (fun y => decide (y.at_ ≤ x.at_)) := List.takeWhile_append_dropWhile.symm
    have hs := r.srt
    rw [e] at hs
    obtain ⟨s1, s2, s3⟩ := List.pairwise_append.1 hs
    refine List.pairwise_append.2 ⟨s1, List.pairwise_cons.2 ⟨fun y hy => ?_, s2⟩, fun a ha b hb => ?_⟩
    · have := srt_drop r.srt x.at_ y hy
      rw [ltB_t]; omega
    · rcases List.mem_cons.1 hb with e2 | hb
      · have h1 := mem_tw ha
        simp only [decide_eq_true_eq] at h1
        have h2 := r.rk a (List.takeWhile_subset _ ha)
        subst e2
        rw [ltB_t]; omega
      · exact s3 a ha b hb
  · rcases List.mem_append.1 (((insI_perm x M).mem_iff).1 hy) with hy | hy
    · have := r.rk y hy; omega
    · simp only [List.mem_singleton] at hy; subst hy; omega
def popI (h : List (It α)) : List (It α) := (h.set 0 (itAt h (h.length - 1))).take (h.length - 1)
theorem pop_perm {h : List (It α)} (hl : 0 < h.length) : (itAt h 0 :: popI h).Perm h := by
  cases h with
  | nil => cases hl
  | cons x t =>
    rcases List.eq_nil_or_concat t with rfl | ⟨t', y, rfl⟩
    · simp [popI, itAt]
    · have e1 : itAt (x :: t'.concat y) ((x :: t'.concat y).length - 1) = y := itAt_of (by simp)
      have e2 : popI (x :: t'.concat y) = y :: t' := by
        rw [popI, e1]
        simp
      rw [e2]
      have e3 : itAt (x :: t'.concat y) 0 = x := rfl
      rw [e3, List.concat_eq_append]
      exact (List.perm_append_singleton y t').symm.cons x
theorem Rep.pop {h M h' : List (It α)} {n : Nat} {x : It α} (r : Rep h (x :: M) n) (hp : h'.Perm (popI h)) (hh : HeapL h') : Rep h' M n := by
  have hl : 0 < h.length := by rw [r.len]; simp
  have h1 := (pop_perm hl).trans r.perm
  rw [r.head] at h1
  exact ⟨hp.trans (List.perm_cons x |>.1 h1), (List.pairwise_cons.1 r.srt).2, hh, fun y hy => r.rk y (by simp [hy])⟩
end
class OneF {α : Type} (f : α → Value) : Prop where
  one : ∀ x, (f x).oneCell' = true
instance : OneF (Value.int .i64) := ⟨fun _ => rfl⟩
instance : OneF Value.string := ⟨fun _ => rfl⟩
section
variable {α : Type} [Inhabited α]
def dueB (M : List (It α)) (now : Int) : Bool := match M with | [] => false | x :: _ => decide (x.at_ ≤ now)
def leftI (M : List (It α)) (now : Int) : List (It α) := if dueB M now then M.tail else M
theorem Rep.take {h M h' : List (It α)} {n : Nat} {now : Int} (r : Rep h M n) (hd : dueB M now = true) (hp : h'.Perm (popI h)) (hh : HeapL h') : Rep h' (leftI M now) n := by
  rw [leftI, if_pos hd]
  cases M with
  | nil => cases hd
  | cons x M => exact r.pop hp hh
end
section
variable {α : Type} [Inhabited α]
theorem Rep.no {h M : List (It α)} {n : Nat} {now : Int} (r : Rep h M n) (h0 : h.length = 0) : dueB M now = false := by
  have := r.len
  cases M with
  | nil => rfl
  | cons x M => rw [h0] at this; simp at this
end
def cv8 (z : Int) : UInt8 := UInt8.ofNat (z % 256).toNat
end Go.Mo
