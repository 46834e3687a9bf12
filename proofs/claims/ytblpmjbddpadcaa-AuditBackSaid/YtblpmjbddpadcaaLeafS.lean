/- What is kept of a text: plain laws. -/
import Derived.Test.YtblpmjbddpadcaaTickS
import Derived.Laws.Bits64
import Derived.Laws.BitsLemmas
set_option linter.unusedVariables false
set_option linter.unusedSimpArgs false
namespace Go.Mo
/-- The cells of a text: its address, its size, its slots, its bound. -/
def textC (a : List UInt8) (s : Int) (sv : Value) (b : Int) : List Value := bys a ++ [.int .i64 s, sv, .int .i64 b]
theorem textC_length {a : List UInt8} (h : a.length = 32) (s : Int) (sv : Value) (b : Int) : (textC a s sv b).length = 35 := by simp [textC, bys_length, h]
theorem txt32 {a : List UInt8} (h : a.length = 32) (s : Int) (sv : Value) (b : Int) : (textC a s sv b)[32]? = some (.int .i64 s) := by
  rw [textC, List.getElem?_append_right (by rw [bys_length]; omega), bys_length, h]; rfl
theorem txt33 {a : List UInt8} (h : a.length = 32) (s : Int) (sv : Value) (b : Int) : (textC a s sv b)[33]? = some sv := by
  rw [textC, List.getElem?_append_right (by rw [bys_length]; omega), bys_length, h]; rfl
theorem txt34 {a : List UInt8} (h : a.length = 32) (s : Int) (sv : Value) (b : Int) : (textC a s sv b)[34]? = some (.int .i64 b) := by
  rw [textC, List.getElem?_append_right (by rw [bys_length]; omega), bys_length, h]; rfl
theorem txtB {a : List UInt8} (h : a.length = 32) (s : Int) (sv : Value) (b : Int) {i : Nat} (hi : i < 32) : (textC a s sv b)[i]? = some (.int .u8 ((a.getD i 0).toNat : Int)) := by
  rw [textC, List.getElem?_append_left (by rw [bys_length]; omega)]
  exact bys_at (by omega)
def countI (n : Int) : Int := if n < 1 then 0 else (n - 1) / 256 + 1
def slotOk (slots s : Int) : Bool := decide (0 ≤ s ∧ s < slots ∧ s < 200)
def leafC (size : Int) (l : List Int) (bound slots : Int) : Int :=
  if size < 1 ∨ 2048 < size then 15 else if (l.length : Int) ≠ countI size then 1 else if bound < 0 ∨ 160 < bound then 2 else if l.all (slotOk slots) then 0 else 2
theorem all_take {p : Int → Bool} {l : List Int} {i : Nat} {y : Int} (h : (l.take i).all p = true) (hy : l[i]? = some y) (hp : p y = true) : (l.take (i + 1)).all p = true := by
  obtain ⟨hi, rfl⟩ := List.getElem?_eq_some_iff.1 hy
  rw [List.take_succ_eq_append_getElem hi, List.all_append, h]
  simp [hp]
theorem all_no {p : Int → Bool} {l : List Int} {i : Nat} {y : Int} (hy : l[i]? = some y) (hp : p y = false) : l.all p = false := by
  rw [List.all_eq_false]
  exact ⟨y, List.mem_of_getElem? hy, by simp [hp]⟩
theorem txtA {a : List UInt8} (h : a.length = 32) (s : Int) (sv : Value) (b : Int) {j : Nat} {u : Value} (hj : (bys a)[j]? = some u) : (textC a s sv b)[j]? = some u := by
  have hlt : j < (bys a).length := (List.getElem?_eq_some_iff.1 hj).1
  rw [textC, List.getElem?_append_left hlt]
  exact hj
def sameT (a1 : List UInt8) (s1 : Int) (b1 : Int) (l1 : List Int) (a2 : List UInt8) (s2 : Int) (b2 : Int) (l2 : List Int) : Bool := decide (a1 = a2 ∧ s1 = s2 ∧ b1 = b2 ∧ l1 = l2)
theorem take_same {l m : List Int} {i : Nat} {y : Int} (h : l.take i = m.take i) (hy : l[i]? = some y) (hz : m[i]? = some y) : l.take (i + 1) = m.take (i + 1) := by
  obtain ⟨h1, e1⟩ := List.getElem?_eq_some_iff.1 hy
  obtain ⟨h2, e2⟩ := List.getElem?_eq_some_iff.1 hz
  rw [List.take_succ_eq_append_getElem h1, List.take_succ_eq_append_getElem h2, h, e1, e2]
theorem same_no {a1 a2 : List UInt8} {s1 s2 b1 b2 : Int} {l1 l2 : List Int} (h : ¬ (a1 = a2 ∧ s1 = s2 ∧ b1 = b2 ∧ l1 = l2)) : sameT a1 s1 b1 l1 a2 s2 b2 l2 = false := decide_eq_false h
theorem same_yes {a1 a2 : List UInt8} {s1 s2 b1 b2 : Int} {l1 l2 : List Int} (h : a1 = a2 ∧ s1 = s2 ∧ b1 = b2 ∧ l1 = l2) : sameT a1 s1 b1 l1 a2 s2 b2 l2 = true := decide_eq_true h
theorem ints_one (k : IntKind) (l : List Int) : ∀ u ∈ l.map (Value.int k), u.oneCell' = true := by
  intro u hu
  obtain ⟨n, _, rfl⟩ := List.mem_map.1 hu
  rfl
theorem textC_one {a : List UInt8} {s : Int} {sv : Value} {b : Int} (h : sv.oneCell' = true) : ∀ u ∈ textC a s sv b, u.oneCell' = true :=
  oneA (bys_one a) (oneC rfl (oneC h (one1 rfl)))
theorem txt_set {a : List UInt8} (h : a.length = 32) (s : Int) (sv sv' : Value) (b : Int) : splice (textC a s sv b) 33 [sv'] = textC a s sv' b := by
  have e1 : textC a s sv b = (bys a ++ [.int .i64 s]) ++ sv :: [.int .i64 b] := by simp [textC]
  have e2 : textC a s sv' b = (bys a ++ [.int .i64 s]) ++ sv' :: [.int .i64 b] := by simp [textC]
  rw [e1, e2, splice_one _ _ _ _ _ (by simp [bys_length, h])]
/-! Slots, each in eight bytes. -/
def u64N (x : Int) : Nat := (x % 18446744073709551616).toNat
theorem u64_wrapN (x : Int) : IntKind.u64.wrap x = (u64N x : Int) := by rw [IntKind.wrap_u64, u64N]; omega
theorem u64N_lt (x : Int) : u64N x < 18446744073709551616 := by rw [u64N]; omega
theorem u64N_pos {x : Int} (h : 0 ≤ x) (h2 : x < 18446744073709551616) : u64N x = x.toNat := by rw [u64N, Int.emod_eq_of_lt h h2]
def I64s (l : List Int) : Prop := ∀ y ∈ l, -9223372036854775808 ≤ y ∧ y ≤ 9223372036854775807
def slotsL (l : List Int) : List UInt8 := l.flatMap fun x => putL (u64N x) 8
theorem slotsL_take {l : List Int} {i : Nat} {y : Int} (h : l[i]? = some y) : slotsL (l.take (i + 1)) = slotsL (l.take i) ++ putL (u64N y) 8 := by
  rw [take_one h, slotsL, List.flatMap_append]; simp [slotsL]
theorem slotsL_length (l : List Int) : (slotsL l).length = 8 * l.length := by
  induction l with
  | nil => rfl
  | cons x l ih =>
    have : slotsL (x :: l) = putL (u64N x) 8 ++ slotsL l := rfl
    rw [this, List.length_append, ih, putL_length, List.length_cons]; omega
theorem slotsL_inj : ∀ {l m : List Int}, I64s l → I64s m → slotsL l = slotsL m → l = m
  | [], [], _, _, _ => rfl
  | [], y :: m, _, _, h => by have := congrArg List.length h; rw [slotsL_length, slotsL_length] at this; simp at this
  | x :: l, [], _, _, h => by have := congrArg List.length h; rw [slotsL_length, slotsL_length] at this; simp at this
  | x :: l, y :: m, hl, hm, h => by
    have e1 : slotsL (x :: l) = putL (u64N x) 8 ++ slotsL l := rfl
    have e2 : slotsL (y :: m) = putL (u64N y) 8 ++ slotsL m := rfl
    rw [e1, e2] at h
    obtain ⟨h1, h2⟩ := List.append_inj h (by rw [putL_length, putL_length])
    have h3 := congrArg getL h1
    rw [get_put (u64N_lt x), get_put (u64N_lt y)] at h3
    have hx := hl x (by simp)
    have hy := hm y (by simp)
    unfold u64N at h3
    obtain rfl : x = y := by omega
    rw [slotsL_inj (fun z hz => hl z (by simp [hz])) (fun z hz => hm z (by simp [hz])) h2]
/-! A slot becomes another one. -/
def mvI (f t x : Int) : Int := if x = f then t else x
def movedL (f t : Int) (l : List Int) : List Int := l.map (mvI f t)
def metB (f : Int) (l : List Int) : Bool := l.any fun x => decide (x = f)
theorem movedL_length (f t : Int) (l : List Int) : (movedL f t l).length = l.length := List.length_map _
theorem movedL_take {f t : Int} {l : List Int} {i : Nat} {y : Int} (h : l[i]? = some y) : movedL f t (l.take (i + 1)) = movedL f t (l.take i) ++ [mvI f t y] := by
  rw [take_one h, movedL, List.map_append]; rfl
theorem metB_take {f : Int} {l : List Int} {i : Nat} {y : Int} (h : l[i]? = some y) : metB f (l.take (i + 1)) = (metB f (l.take i) || decide (y = f)) := by
  rw [take_one h, metB, List.any_append]; simp [metB]
theorem midI_stay {f t : Int} {l : List Int} {i : Nat} {y : Int} (h : l[i]? = some y) (hy : ¬ y = f) : movedL f t (l.take i) ++ l.drop i = movedL f t (l.take (i + 1)) ++ l.drop (i + 1) := by
  obtain ⟨hi, rfl⟩ := List.getElem?_eq_some_iff.1 h
  rw [movedL_take h, List.drop_eq_getElem_cons hi, mvI, if_neg hy, List.append_assoc]; rfl
theorem midI_at {f t : Int} {l : List Int} {i : Nat} {y : Int} (h : l[i]? = some y) : ((movedL f t (l.take i) ++ l.drop i).map (Value.int .i64))[i]? = some (.int .i64 y) := by
  obtain ⟨hi, rfl⟩ := List.getElem?_eq_some_iff.1 h
  rw [List.getElem?_map, List.getElem?_append_right (by rw [movedL_length, List.length_take]; omega), movedL_length, List.length_take, Nat.min_eq_left (by omega), Nat.sub_self, List.getElem?_drop]
  simp
theorem midI_set {f t : Int} {l : List Int} {i : Nat} {y : Int} (h : l[i]? = some y) (hy : y = f) : splice ((movedL f t (l.take i) ++ l.drop i).map (Value.int .i64)) (0 + i * 1) [.int .i64 t] = (movedL f t (l.take (i + 1)) ++ l.drop (i + 1)).map (Value.int .i64) := by
  obtain ⟨hi, rfl⟩ := List.getElem?_eq_some_iff.1 h
  rw [movedL_take h, List.drop_eq_getElem_cons hi, mvI, if_pos hy, List.map_append, List.map_cons, Nat.zero_add, Nat.mul_one, splice_one _ _ _ _ _ (by rw [List.length_map, movedL_length, List.length_take]; omega)]
  simp
theorem midI_len (f t : Int) (l : List Int) (i : Nat) : ((movedL f t (l.take i) ++ l.drop i).map (Value.int .i64)).length = l.length := by
  rw [List.length_map, List.length_append, movedL_length, List.length_take, List.length_drop]; omega
/-! A text as a sector. -/
def slotB (s : Int) : UInt8 := UInt8.ofNat s.toNat
def leafB (a : List UInt8) (s b : Int) (l : List Int) : List UInt8 := [76, 69, 65, 70] ++ a ++ putL s.toNat 2 ++ putL b.toNat 2 ++ l.map slotB
def leafS (a : List UInt8) (s : Int) (l : List Int) (b : Int) : List UInt8 := if leafC s l b 200 = 0 then secL (leafB a s b l) else List.replicate 256 0
theorem leafS_length (a : List UInt8) (s : Int) (l : List Int) (b : Int) : (leafS a s l b).length = 256 := by unfold leafS; split; exact secL_length _; exact List.length_replicate
theorem leafB_length {a : List UInt8} (h : a.length = 32) (s b : Int) (l : List Int) : (leafB a s b l).length = 40 + l.length := by simp [leafB, putL_length, h]; omega
theorem leafC_zero {s : Int} {l : List Int} {b m : Int} : leafC s l b m = 0 ↔ 1 ≤ s ∧ s ≤ 2048 ∧ (l.length : Int) = countI s ∧ 0 ≤ b ∧ b ≤ 160 ∧ l.all (slotOk m) = true := by
  unfold leafC
  split
  · constructor
    · intro h; cases h
    · intro h; omega
  · split
    · constructor
      · intro h; cases h
      · intro h; omega
    · split
      · constructor
        · intro h; cases h
        · intro h; omega
      · split
        · rename_i h; exact ⟨fun _ => ⟨by omega, by omega, by omega, by omega, by omega, h⟩, fun _ => rfl⟩
        · rename_i h; exact ⟨fun q => (by cases q), fun q => absurd q.2.2.2.2.2 h⟩
theorem count_le {s : Int} (h : s ≤ 2048) : countI s ≤ 8 := by unfold countI; split <;> omega
theorem leafC_len {s : Int} {l : List Int} {b m : Int} (h : leafC s l b m = 0) : l.length ≤ 8 := by
  have h1 := leafC_zero.1 h
  have := count_le h1.2.1
  omega
theorem slotB_wrap {s m : Int} (h : slotOk m s = true) : IntKind.u8.wrap s = ((slotB s).toNat : Int) := by
  simp only [slotOk, decide_eq_true_eq] at h
  have h1 : (slotB s).toNat = s.toNat % 256 := UInt8.toNat_ofNat'
  rw [h1, IntKind.wrap_u8]
  omega
theorem all_get {p : Int → Bool} {l : List Int} {i : Nat} {y : Int} (h : l.all p = true) (hy : l[i]? = some y) : p y = true := List.all_eq_true.1 h y (List.mem_of_getElem? hy)
theorem leafB_snoc {a : List UInt8} {s b : Int} {l : List Int} {i : Nat} {y : Int} (hy : l[i]? = some y) : bys (leafB a s b (l.take i)) ++ [.int .u8 ((slotB y).toNat : Int)] = bys (leafB a s b (l.take (i + 1))) := by
  have e : leafB a s b (l.take i ++ [y]) = leafB a s b (l.take i) ++ [slotB y] := by simp [leafB]
  rw [take_one hy, e, bys_append]
  rfl
theorem leaf_made {a : List UInt8} (ha : a.length = 32) {s b : Int} {l : List Int} (h : leafC s l b 200 = 0) : wholeL (sealL ((wholeL (leafB a s b l)).take 252)) = leafS a s l b := by
  have := leafC_len h
  rw [seal_whole (by rw [leafB_length ha]; omega), leafS, if_pos h]
theorem leafS_ok {a : List UInt8} {s b : Int} {l : List Int} (h : leafC s l b 200 = 0) : secL (leafB a s b l) = leafS a s l b := by rw [leafS, if_pos h]
theorem leafS_no {a : List UInt8} {s b : Int} {l : List Int} (h : ¬ leafC s l b 200 = 0) : leafS a s l b = List.replicate 256 0 := by rw [leafS, if_neg h]
/-! A sector as a text. -/
def lfA (x : List UInt8) : List UInt8 := ((x.take 252).drop 4).take 32
def lfS (x : List UInt8) : Nat := getL ((((x.take 252).drop 4).drop 32).take 2)
def lfB (x : List UInt8) : Nat := getL (((((x.take 252).drop 4).drop 32).drop 2).take 2)
def lfR (x : List UInt8) : List UInt8 := ((((x.take 252).drop 4).drop 32).drop 2).drop 2
def slotsX (r : List UInt8) (k : Nat) : List Int := (r.take k).map fun b => (b.toNat : Int)
def lfK (x : List UInt8) : Nat := min (countI (lfS x)).toNat 8
def lfQ (x : List UInt8) : Nat := min ((lfS x + 255) / 256) 9
def leafGd (x : List UInt8) (m : Int) : Bool := holdsL x && decide ((x.take 252).take 4 = [76, 69, 65, 70]) && zeroL ((lfR x).drop (lfK x)) && decide (leafC (lfS x) (slotsX (lfR x) (lfK x)) (lfB x) m = 0)
theorem leafGd_iff {x : List UInt8} {m : Int} : leafGd x m = true ↔ holdsL x = true ∧ (x.take 252).take 4 = [76, 69, 65, 70] ∧ zeroL ((lfR x).drop (lfK x)) = true ∧ leafC (lfS x) (slotsX (lfR x) (lfK x)) (lfB x) m = 0 := by
  simp only [leafGd, Bool.and_eq_true, decide_eq_true_eq, and_assoc]
theorem lfR_length {x : List UInt8} (hx : x.length = 256) : (lfR x).length = 212 := by simp only [lfR, List.length_drop, List.length_take, hx]; rfl
theorem lf_eq {x : List UInt8} (hx : x.length = 256) (k : Nat) : x.take 252 = (x.take 252).take 4 ++ (lfA x ++ (putL (lfS x) 2 ++ (putL (lfB x) 2 ++ ((lfR x).take k ++ (lfR x).drop k)))) := by
  have hx0 : (x.take 252).length = 252 := by rw [List.length_take]; omega
  have e1 : putL (lfS x) 2 = (((x.take 252).drop 4).drop 32).take 2 := by
    have := put_get ((((x.take 252).drop 4).drop 32).take 2)
    rwa [List.length_take, List.length_drop, List.length_drop, hx0] at this
  have e2 : putL (lfB x) 2 = ((((x.take 252).drop 4).drop 32).drop 2).take 2 := by
    have := put_get (((((x.take 252).drop 4).drop 32).drop 2).take 2)
    rwa [List.length_take, List.length_drop, List.length_drop, List.length_drop, hx0] at this
  rw [e1, e2, lfA, List.take_append_drop, lfR, List.take_append_drop, List.take_append_drop, List.take_append_drop, List.take_append_drop]
theorem slot_bytes : ∀ r : List UInt8, (r.map fun b => (b.toNat : Int)).map slotB = r
  | [] => rfl
  | b :: r => by
    have : slotB (b.toNat : Int) = b := by rw [slotB, Int.toNat_natCast]; exact UInt8.ofNat_toNat
    rw [List.map_cons, List.map_cons, this, slot_bytes r]
theorem bytes_slot {m : Int} : ∀ l : List Int, l.all (slotOk m) = true → ((l.map slotB).map fun b => (b.toNat : Int)) = l
  | [], _ => rfl
  | x :: l, h => by
    rw [List.all_cons, Bool.and_eq_true] at h
    have e := slotB_wrap h.1
    have h1 := h.1
    simp only [slotOk, decide_eq_true_eq] at h1
    rw [IntKind.wrap_u8] at e
    rw [List.map_cons, List.map_cons, bytes_slot l h.2, show ((slotB x).toNat : Int) = x by omega]
theorem leaf_pad {a : List UInt8} (ha : a.length = 32) (s b : Int) (l : List Int) (hl : l.length ≤ 8) : padN 252 (leafB a s b l) = [76, 69, 65, 70] ++ (a ++ (putL s.toNat 2 ++ (putL b.toNat 2 ++ (l.map slotB ++ List.replicate (212 - l.length) 0)))) := by
  rw [padN, leafB_length ha, leafB, show 252 - (40 + l.length) = 212 - l.length by omega]
  simp only [List.append_assoc]
theorem lf_of {x a r : List UInt8} {p q : Nat} (ha : a.length = 32) (hp : p < 65536) (hq : q < 65536) (h : x.take 252 = [76, 69, 65, 70] ++ (a ++ (putL p 2 ++ (putL q 2 ++ r)))) : (x.take 252).take 4 = [76, 69, 65, 70] ∧ lfA x = a ∧ lfS x = p ∧ lfB x = q ∧ lfR x = r := by
  refine ⟨by rw [h]; rfl, ?_, ?_, ?_, ?_⟩
  · rw [lfA, h, drop_four, List.take_left' ha]
  · rw [lfS, h, drop_four, List.drop_left' ha, List.take_left' (putL_length 2 _), get_put (by omega)]
  · rw [lfB, h, drop_four, List.drop_left' ha, List.drop_left' (putL_length 2 _), List.take_left' (putL_length 2 _), get_put (by omega)]
  · rw [lfR, h, drop_four, List.drop_left' ha, List.drop_left' (putL_length 2 _), List.drop_left' (putL_length 2 _)]
theorem leaf_kq {x : List UInt8} (h1 : 1 ≤ lfS x) (h2 : lfS x ≤ 2048) : lfK x = lfQ x := by
  unfold lfK lfQ countI
  rw [if_neg (by omega)]
  omega
theorem slotsX_length {r : List UInt8} {k : Nat} (h : k ≤ r.length) : (slotsX r k).length = k := by rw [slotsX, List.length_map, List.length_take]; omega
theorem leafC_less {s : Int} {l : List Int} {b m : Int} (h : leafC s l b m = 0) : leafC s l b 200 = 0 := by
  obtain ⟨h1, h2, h3, h4, h5, h6⟩ := leafC_zero.1 h
  refine leafC_zero.2 ⟨h1, h2, h3, h4, h5, List.all_eq_true.2 fun y hy => ?_⟩
  have := List.all_eq_true.1 h6 y hy
  simp only [slotOk, decide_eq_true_eq] at this ⊢
  omega
/-- The reference's way of telling is the program's. -/
theorem leaf_iff {x : List UInt8} (hx : x.length = 256) (m : Int) : leafGd x m = true ↔ leafC (lfS x) (slotsX (lfR x) (lfQ x)) (lfB x) 200 = 0 ∧ leafS (lfA x) (lfS x) (slotsX (lfR x) (lfQ x)) (lfB x) = x ∧ leafC (lfS x) (slotsX (lfR x) (lfQ x)) (lfB x) m = 0 := by
  have hA : (lfA x).length = 32 := by simp only [lfA, List.length_take, List.length_drop, hx]; rfl
  have hR := lfR_length hx
  rw [leafGd_iff]
  constructor
  · rintro ⟨h1, h2, h3, h4⟩
    obtain ⟨q1, q2, q3, q4, q5, q6⟩ := leafC_zero.1 h4
    have hk := leaf_kq (x := x) (by omega) (by omega)
    have hk8 : lfK x ≤ 8 := by unfold lfK; omega
    rw [← hk]
    refine ⟨leafC_less h4, ?_, h4⟩
    rw [← leafS_ok (leafC_less h4)]
    refine ((sec_iff hx (by rw [leafB_length hA, slotsX_length (by omega)]; omega)).2 ⟨h1, ?_⟩).symm
    rw [leaf_pad hA _ _ _ (by rw [slotsX_length (by omega)]; omega), slotsX_length (by omega), slotsX, slot_bytes, Int.toNat_natCast, Int.toNat_natCast, ← h2]
    have e3 := zeroL_eq h3
    rw [List.length_drop, hR] at e3
    rw [← e3]
    exact lf_eq hx _
  · rintro ⟨h4, h5, h6⟩
    obtain ⟨q1, q2, q3, q4, q5, q6⟩ := leafC_zero.1 h4
    have hk := leaf_kq (x := x) (by omega) (by omega)
    have hk8 : lfK x ≤ 8 := by unfold lfK; omega
    rw [← hk] at h4 h5 h6
    rw [← leafS_ok h4] at h5
    obtain ⟨h1, h2⟩ := (sec_iff hx (by rw [leafB_length hA, slotsX_length (by omega)]; omega)).1 h5.symm
    rw [leaf_pad hA _ _ _ (by rw [slotsX_length (by omega)]; omega), slotsX_length (by omega), slotsX, slot_bytes, Int.toNat_natCast, Int.toNat_natCast] at h2
    have hS : lfS x < 65536 := by omega
    have hB : lfB x < 65536 := by omega
    obtain ⟨g1, _, _, _, g5⟩ := lf_of hA hS hB h2
    refine ⟨h1, g1, ?_, h6⟩
    rw [g5, List.drop_left' (by rw [List.length_take]; omega), zeroL_replicate]
/-- There and back. -/
theorem leaf_back {a : List UInt8} (ha : a.length = 32) {s b : Int} {l : List Int} {m : Int} (h : leafC s l b 200 = 0) : leafGd (leafS a s l b) m = decide (leafC s l b m = 0) ∧ lfA (leafS a s l b) = a ∧ (lfS (leafS a s l b) : Int) = s ∧ slotsX (lfR (leafS a s l b)) (lfK (leafS a s l b)) = l ∧ (lfB (leafS a s l b) : Int) = b := by
  obtain ⟨q1, q2, q3, q4, q5, q6⟩ := leafC_zero.1 h
  have hl8 := leafC_len h
  obtain ⟨h1, h2⟩ := (sec_iff (secL_length _) (b := leafB a s b l) (by rw [leafB_length ha]; omega)).1 rfl
  rw [leafS_ok h] at h1 h2
  rw [leaf_pad ha _ _ _ hl8] at h2
  obtain ⟨g1, g2, g3, g4, g5⟩ := lf_of ha (by omega) (by omega) h2
  have hk : lfK (leafS a s l b) = l.length := by rw [lfK, g3, Int.toNat_of_nonneg (by omega)]; omega
  have e5 : slotsX (lfR (leafS a s l b)) (lfK (leafS a s l b)) = l := by
    rw [hk, slotsX, g5, List.take_left' (List.length_map _), bytes_slot _ q6]
  have e3 : (lfS (leafS a s l b) : Int) = s := by omega
  have e4 : (lfB (leafS a s l b) : Int) = b := by omega
  refine ⟨?_, g2, e3, e5, e4⟩
  rw [leafGd, e5, e3, e4, h1, g1, g5, hk, List.drop_left' (List.length_map _), zeroL_replicate]
  simp
theorem leafGd_zero (m : Int) : leafGd (List.replicate 256 0) m = false := by
  cases h : leafGd (List.replicate 256 0) m with
  | false => rfl
  | true =>
    have h2 := (leafGd_iff.1 h).2.1
    rw [List.take_replicate, List.take_replicate] at h2
    exact absurd h2 (by decide)
theorem txt_addr {a : List UInt8} (h : a.length = 32) (s : Int) (sv : Value) (b : Int) : bys a = ((textC a s sv b).drop 0).take (32 * 1) := by
  rw [List.drop_zero, textC, List.take_left' (by rw [bys_length, h])]
theorem txtB0 {a : List UInt8} (h : a.length = 32) (s : Int) (sv : Value) (b : Int) {i : Nat} (hi : i < 32) : (textC a s sv b)[0 + i * 1]? = some (.int .u8 ((a.getD i 0).toNat : Int)) := by
  rw [Nat.zero_add, Nat.mul_one]; exact txtB h s sv b hi
theorem head_snoc {p a : List UInt8} {i : Nat} (h : i < a.length) : bys (p ++ a.take i) ++ [.int .u8 ((a.getD i 0).toNat : Int)] = bys (p ++ a.take (i + 1)) := by
  rw [List.take_succ_eq_append_getElem h, ← List.append_assoc, bys_append (p ++ a.take i)]
  congr 1
  simp [bys, List.getD_eq_getElem?_getD, h]
theorem leafB_none (a : List UInt8) (s b : Int) (l : List Int) : [76, 69, 65, 70] ++ a ++ putL s.toNat 2 ++ putL b.toNat 2 = leafB a s b (l.take 0) := by rw [leafB, List.take_zero, List.map_nil, List.append_nil]
theorem txt_zero (sv : Value) : List.replicate 32 (Value.int .u8 0) ++ [.int .i64 0, sv, .int .i64 0] = textC (List.replicate 32 0) 0 sv 0 := by rw [textC, bys_replicate]; rfl
theorem str_eq (a b : List UInt8) : ((⟨a.toArray⟩ : ByteArray) = ⟨b.toArray⟩) ↔ a = b := by simp
theorem splice_left {α : Type} (A B : List α) (k : Nat) (vs : List α) (h : k + vs.length ≤ A.length) : splice (A ++ B) k vs = splice A k vs ++ B := by
  simp only [splice]
  rw [List.take_append_of_le_length (by omega), List.drop_append_of_le_length (by omega)]
  simp only [List.append_assoc]
theorem txt_setA {a a' : List UInt8} (h : a.length = 32) (h' : a'.length = 32) (s : Int) (sv : Value) (b : Int) : splice (textC a' s sv b) 0 (bys a) = textC a s sv b := by
  rw [textC, splice_left _ _ _ _ (by rw [bys_length, bys_length]; omega), splice_all _ _ (by rw [bys_length, bys_length, h, h'])]; rfl
theorem txt_setS {a : List UInt8} (h : a.length = 32) (s s' : Int) (sv : Value) (b : Int) : splice (textC a s sv b) 32 [.int .i64 s'] = textC a s' sv b := by
  rw [textC, splice_one _ _ _ _ _ (by rw [bys_length, h])]; rfl
theorem txt_setB {a : List UInt8} (h : a.length = 32) (s : Int) (sv : Value) (b b' : Int) : splice (textC a s sv b) 34 [.int .i64 b'] = textC a s sv b' := by
  have e1 : textC a s sv b = (bys a ++ [.int .i64 s, sv]) ++ .int .i64 b :: [] := by simp [textC]
  have e2 : textC a s sv b' = (bys a ++ [.int .i64 s, sv]) ++ .int .i64 b' :: [] := by simp [textC]
  rw [e1, e2, splice_one _ _ _ _ _ (by simp [bys_length, h])]
theorem txt_set0 {a : List UInt8} (h : a.length = 32) (sv : Value) : splice (List.replicate 32 (Value.int .u8 0) ++ [.int .i64 0, sv, .int .i64 0]) 0 (bys a) = textC a 0 sv 0 := by
  rw [txt_zero, txt_setA h List.length_replicate]
theorem lfA_length {x : List UInt8} (hx : x.length = 256) : (lfA x).length = 32 := by simp only [lfA, List.length_take, List.length_drop, hx]; rfl
theorem lfS_lt (x : List UInt8) : lfS x < 65536 := by
  have h := getL_lt ((((x.take 252).drop 4).drop 32).take 2)
  have h2 : 256 ^ ((((x.take 252).drop 4).drop 32).take 2).length ≤ 256 ^ 2 := Nat.pow_le_pow_right (by decide) (by rw [List.length_take]; omega)
  have h3 : (256 : Nat) ^ 2 = 65536 := by decide
  rw [lfS]; omega
theorem lfB_lt (x : List UInt8) : lfB x < 65536 := by
  have h := getL_lt (((((x.take 252).drop 4).drop 32).drop 2).take 2)
  have h2 : 256 ^ (((((x.take 252).drop 4).drop 32).drop 2).take 2).length ≤ 256 ^ 2 := Nat.pow_le_pow_right (by decide) (by rw [List.length_take]; omega)
  have h3 : (256 : Nat) ^ 2 = 65536 := by decide
  rw [lfB]; omega
theorem lfS_eq (x : List UInt8) : lfS x = getL ((x.drop 36).take 2) := by
  rw [lfS, List.drop_drop, List.drop_take, List.take_take]; rfl
theorem lfB_eq (x : List UInt8) : lfB x = getL ((x.drop 38).take 2) := by
  rw [lfB, List.drop_drop, List.drop_drop, List.drop_take, List.take_take]; rfl
theorem lfA_at {x : List UInt8} (hx : x.length = 256) {i : Nat} (hi : i < 32) : (lfA x).getD i 0 = x.getD (4 + i) 0 := by
  simp only [lfA, List.getD_eq_getElem?_getD, List.getElem?_take, List.getElem?_drop]
  rw [if_pos hi, if_pos (by omega)]
theorem lfR_at {x : List UInt8} (hx : x.length = 256) {i : Nat} (hi : i < 212) : (lfR x).getD i 0 = x.getD (40 + i) 0 := by
  simp only [lfR, List.getD_eq_getElem?_getD, List.getElem?_take, List.getElem?_drop]
  rw [if_pos (by omega), show 4 + (32 + (2 + (2 + i))) = 40 + i by omega]
theorem two_get {x : List UInt8} {p : Nat} (h : p + 2 ≤ x.length) : (((x.getD p 0).toNat : Int) + 256 * ((x.getD (p + 1) 0).toNat : Int)) = (getL ((x.drop p).take 2) : Int) := by
  rw [List.drop_eq_getElem_cons (show p < x.length by omega), List.drop_eq_getElem_cons (show p + 1 < x.length by omega)]
  simp only [List.take_succ_cons, List.take_zero, getL, List.getD_eq_getElem?_getD, show p < x.length by omega, show p + 1 < x.length by omega, getElem?_pos, Option.getD_some]
  omega
theorem slotsX_succ {r : List UInt8} {i : Nat} (h : i < r.length) : slotsX r (i + 1) = slotsX r i ++ [((r.getD i 0).toNat : Int)] := by
  rw [slotsX, slotsX, List.take_succ_eq_append_getElem h, List.map_append]
  simp [List.getD_eq_getElem?_getD, h]
theorem one_get {r : List UInt8} {i : Nat} (h : i < r.length) : getL ((r.drop i).take 1) = (r.getD i 0).toNat := by
  rw [List.drop_eq_getElem_cons h, List.take_succ_cons, List.take_zero, getL, getL, List.getD_eq_getElem?_getD, List.getElem?_eq_getElem h]
  rfl
theorem conv_one {r : List UInt8} {i : Nat} (h : i < r.length) : IntKind.i64.wrap (getL ((r.drop i).take 1) : Int) = ((r.getD i 0).toNat : Int) := by
  rw [one_get h]
  have := (r.getD i 0).toNat_lt
  exact IntWalk.i64_in _ (by omega)
theorem leafGd_no {x : List UInt8} {m : Int} (h : ¬ (holdsL x = true ∧ (x.take 252).take 4 = [76, 69, 65, 70] ∧ zeroL ((lfR x).drop (lfK x)) = true ∧ leafC (lfS x) (slotsX (lfR x) (lfK x)) (lfB x) m = 0)) : leafGd x m = false := by
  cases hg : leafGd x m with
  | false => rfl
  | true => exact absurd (leafGd_iff.1 hg) h
def lgA (x : List UInt8) (m : Int) : List UInt8 := if leafGd x m then lfA x else List.replicate 32 0
def lgS (x : List UInt8) (m : Int) : Int := if leafGd x m then lfS x else 0
def lgB (x : List UInt8) (m : Int) : Int := if leafGd x m then lfB x else 0
def lgL (x : List UInt8) (m : Int) : List Int := if leafGd x m then slotsX (lfR x) (lfK x) else []
def lgO (x : List UInt8) (m : Int) : Bool := leafGd x m || decide (x = List.replicate 256 0)
def lgE (x : List UInt8) (m : Int) : Int := if lgO x m then 0 else 5
theorem lg_yes {x : List UInt8} {m : Int} (h : leafGd x m = true) : lgA x m = lfA x ∧ lgS x m = lfS x ∧ lgB x m = lfB x ∧ lgL x m = slotsX (lfR x) (lfK x) ∧ lgO x m = true ∧ lgE x m = 0 := by simp only [lgA, lgS, lgB, lgL, lgO, lgE, h, Bool.true_or, if_true, and_self]
theorem lg_no {x : List UInt8} {m : Int} (h : leafGd x m = false) : lgA x m = List.replicate 32 0 ∧ lgS x m = 0 ∧ lgB x m = 0 ∧ lgL x m = [] ∧ lgO x m = decide (x = List.replicate 256 0) := by
  simp only [lgA, lgS, lgB, lgL, lgO, h, Bool.false_or, Bool.false_eq_true, if_false, true_and]
theorem lg_txt {x : List UInt8} {m : Int} (h : leafGd x m = false) (sv : Value) : List.replicate 32 (Value.int .u8 0) ++ [.int .i64 0, sv, .int .i64 0] = textC (lgA x m) (lgS x m) sv (lgB x m) := by
  have := lg_no h
  rw [this.1, this.2.1, this.2.2.1, txt_zero]
theorem leafGd_z {x : List UInt8} {m : Int} (h : x = List.replicate 256 0) : leafGd x m = false := by rw [h]; exact leafGd_zero m
theorem lgE_no {x : List UInt8} {m : Int} (h : leafGd x m = false) (hz : ¬ x = List.replicate 256 0) : lgE x m = 5 ∧ lgO x m = false := by
  have : lgO x m = false := by rw [(lg_no h).2.2.2.2, decide_eq_false hz]
  exact ⟨by rw [lgE, this]; rfl, this⟩
theorem lgE_z {x : List UInt8} {m : Int} (hz : x = List.replicate 256 0) : lgE x m = 0 ∧ lgO x m = true := by
  have : lgO x m = true := by rw [(lg_no (leafGd_z hz)).2.2.2.2, decide_eq_true hz]
  exact ⟨by rw [lgE, this]; rfl, this⟩
theorem addr_fill {a : List UInt8} (ha : a.length = 32) {i : Nat} (hi : i < 32) (s : Int) (sv : Value) (b : Int) : splice (textC (a.take i ++ List.replicate (32 - i) 0) s sv b) (0 + i * 1) [.int .u8 ((a.getD i 0).toNat : Int)] = textC (a.take (i + 1) ++ List.replicate (32 - (i + 1)) 0) s sv b := by
  have hl : (bys (a.take i ++ List.replicate (32 - i) 0)).length = 32 := by rw [bys_length, List.length_append, List.length_take, List.length_replicate]; omega
  rw [textC, splice_left _ _ _ _ (by rw [hl]; simp; omega), copy_at hi (by omega)]; rfl
theorem addr_len {a : List UInt8} (ha : a.length = 32) (i : Nat) (hi : i ≤ 32) : (a.take i ++ List.replicate (32 - i) 0).length = 32 := by rw [List.length_append, List.length_take, List.length_replicate]; omega
theorem addr_fillX {x : List UInt8} (hx : x.length = 256) {i : Nat} (hi : i < 32) (s : Int) (sv : Value) (b : Int) : splice (textC ((lfA x).take i ++ List.replicate (32 - i) 0) s sv b) (0 + i * 1) [.int .u8 ((x.getD (4 + i) 0).toNat : Int)] = textC ((lfA x).take (i + 1) ++ List.replicate (32 - (i + 1)) 0) s sv b := by
  rw [← lfA_at hx hi]; exact addr_fill (lfA_length hx) hi s sv b
theorem leafS_nz {a : List UInt8} (ha : a.length = 32) {s b : Int} {l : List Int} (h : leafC s l b 200 = 0) : ¬ leafS a s l b = List.replicate 256 0 := by
  intro e
  have h1 := (leaf_back ha (m := 200) h).1
  rw [h, e, leafGd_zero] at h1
  exact absurd h1 (by decide)
theorem leaf_back_yes {a : List UInt8} (ha : a.length = 32) {s b : Int} {l : List Int} {m : Int} (h : leafC s l b 200 = 0) (hm : leafC s l b m = 0) :
    lgA (leafS a s l b) m = a ∧ lgS (leafS a s l b) m = s ∧ lgB (leafS a s l b) m = b ∧ lgL (leafS a s l b) m = l ∧ leafGd (leafS a s l b) m = true ∧ lgE (leafS a s l b) m = 0 := by
  obtain ⟨h1, h2, h3, h4, h5⟩ := leaf_back ha (m := m) h
  rw [decide_eq_true hm] at h1
  obtain ⟨y1, y2, y3, y4, _, y6⟩ := lg_yes h1
  exact ⟨y1.trans h2, y2.trans h3, y3.trans h5, y4.trans h4, h1, y6⟩
theorem leaf_back_no {a : List UInt8} (ha : a.length = 32) {s b : Int} {l : List Int} {m : Int} (h : leafC s l b 200 = 0) (hm : ¬ leafC s l b m = 0) : leafGd (leafS a s l b) m = false ∧ lgE (leafS a s l b) m = 5 := by
  have h1 := (leaf_back ha (m := m) h).1
  rw [decide_eq_false hm] at h1
  exact ⟨h1, (lgE_no h1 (leafS_nz ha h)).1⟩
theorem leaf_same {a1 a2 : List UInt8} (ha1 : a1.length = 32) (ha2 : a2.length = 32) {s1 b1 s2 b2 : Int} {l1 l2 : List Int} (h1 : leafC s1 l1 b1 200 = 0) (h2 : leafC s2 l2 b2 200 = 0) : decide (leafS a1 s1 l1 b1 = leafS a2 s2 l2 b2) = sameT a1 s1 b1 l1 a2 s2 b2 l2 := by
  unfold sameT
  rw [decide_eq_decide]
  constructor
  · intro e
    obtain ⟨x1, x2, x3, x4, _⟩ := leaf_back_yes ha1 h1 h1
    obtain ⟨y1, y2, y3, y4, _⟩ := leaf_back_yes ha2 h2 h2
    rw [e] at x1 x2 x3 x4
    exact ⟨x1.symm.trans y1, x2.symm.trans y2, x3.symm.trans y3, x4.symm.trans y4⟩
  · rintro ⟨rfl, rfl, rfl, rfl⟩; rfl
theorem lgE_ok (x : List UInt8) (m : Int) : (decide (lgE x m = 0)) = lgO x m := by unfold lgE; cases lgO x m <;> rfl
def addr5 : List UInt8 := 5 :: List.replicate 31 0
theorem addr5_length : addr5.length = 32 := rfl
end Go.Mo
