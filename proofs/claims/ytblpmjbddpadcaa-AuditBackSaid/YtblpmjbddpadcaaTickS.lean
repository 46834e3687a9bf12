/- The clock: plain laws. -/
import Derived.Test.YtblpmjbddpadcaaSealS
set_option linter.unusedVariables false
set_option linter.unusedSimpArgs false
namespace Go.Mo
def tickOk (now ser : Int) : Bool := decide (0 ≤ now ∧ now ≤ 1099511627776 ∧ 0 ≤ ser ∧ ser ≤ 1099511627776)
def tickC (now ser : Int) : Int := if tickOk now ser then 0 else 2
def addC (now n : Int) : Int := if n < 0 then 1 else if 1099511627776 - now < n then 2 else 0
def addN (now n : Int) : Int := if n < 0 then now else if 1099511627776 - now < n then now else now + n
def deedC (ser : Int) : Int := if 1099511627776 ≤ ser then 7 else 0
def deedN (ser : Int) : Int := if 1099511627776 ≤ ser then ser else ser + 1
def tickL (now ser : Int) : List UInt8 := [84, 73, 67, 75] ++ putL now.toNat 8 ++ putL ser.toNat 8
def tickS (now ser : Int) : List UInt8 := if tickOk now ser then secL (tickL now ser) else List.replicate 256 0
theorem tickL_length (now ser : Int) : (tickL now ser).length = 20 := by simp [tickL, putL_length]
theorem tickS_length (now ser : Int) : (tickS now ser).length = 256 := by unfold tickS; split; exact secL_length _; exact List.length_replicate
theorem tickC_no {now ser : Int} (h : tickOk now ser = false) : tickC now ser = 2 := by simp [tickC, h]
theorem tickC_yes {now ser : Int} (h : tickOk now ser = true) : tickC now ser = 0 := by simp [tickC, h]
theorem tickC_zero {now ser : Int} : tickC now ser = 0 ↔ tickOk now ser = true := by unfold tickC; cases tickOk now ser <;> simp
theorem tick_made {now ser : Int} (h : tickOk now ser = true) : wholeL (sealL ((wholeL ([84, 73, 67, 75] ++ putL now.toNat 8 ++ putL ser.toNat 8)).take 252)) = tickS now ser := by
  rw [seal_whole (by have := tickL_length now ser; rw [tickL] at this; omega), tickS, if_pos h]; rfl
theorem tickS_ok {now ser : Int} (h : tickOk now ser = true) : secL ([84, 73, 67, 75] ++ putL now.toNat 8 ++ putL ser.toNat 8) = tickS now ser := by rw [tickS, if_pos h]; rfl
theorem Sl.cellsB {w : World} {g T n c : Nat} {x : List UInt8} (h : (Go.Mo.cells g T (bys x)).at_ w) (hn : n ≤ x.length) (hc : n ≤ c) (hm : c ≤ maxLen) : Sl w (.slice (some ⟨g, 0, none⟩) n c) 1 (x.take n).length (bys (x.take n)) := by
  rw [List.length_take, Nat.min_eq_left hn]
  exact Sl.cells h 1 n c 0 _ (by rw [List.drop_zero, Nat.mul_one]; exact (bys_take _ _).symm) (by rw [bys_length]; omega) hc hm
theorem cur_step (l : List UInt8) (k : Nat) (h : k ≤ l.length) : curOk false l (k : Int) = true ∧ curOut false l (k : Int) = l.take k ∧ curL false l (k : Int) = l.drop k := by
  have hok : curOk false l (k : Int) = true := by simp only [curOk, Bool.not_false, Bool.true_and, decide_eq_true_eq]; omega
  exact ⟨hok, (cur_yes hok).1, (cur_yes hok).2⟩
theorem num_step (l : List UInt8) (k : Nat) (h : k ≤ l.length) (h8 : k ≤ 8) : curNum false l (k : Int) = getL (l.take k) := by
  rw [curNum, (cur_step l k h).2.1, List.take_take, Nat.min_eq_right h8]
theorem put_get : ∀ l : List UInt8, putL (getL l) l.length = l
  | [] => rfl
  | b :: l => by
    have hb := b.toNat_lt
    have e1 : UInt8.ofNat (b.toNat + 256 * getL l) = b := by
      apply UInt8.toNat_inj.1
      rw [UInt8.toNat_ofNat']
      omega
    have e2 : (b.toNat + 256 * getL l) / 256 = getL l := by omega
    rw [getL, List.length_cons, putL, e1, e2, put_get l]
theorem get_put {k n : Nat} (h : n < 256 ^ k) : getL (putL n k) = n := by rw [getL_put, Nat.mod_eq_of_lt h]
theorem zeroL_eq {l : List UInt8} (h : zeroL l = true) : l = List.replicate l.length 0 := by
  simp only [zeroL, List.all_eq_true, beq_iff_eq] at h
  exact List.eq_replicate_iff.2 ⟨rfl, h⟩
def tickGood (x : List UInt8) : Prop := holdsL x = true ∧ (x.take 252).take 4 = [84, 73, 67, 75] ∧ zeroL ((((x.take 252).drop 4).drop 8).drop 8) = true ∧ getL (((x.take 252).drop 4).take 8) ≤ 1099511627776 ∧ getL ((((x.take 252).drop 4).drop 8).take 8) ≤ 1099511627776
def tickA (x : List UInt8) : Nat := getL ((x.drop 4).take 8)
def tickB (x : List UInt8) : Nat := getL ((x.drop 12).take 8)
def tickG (x : List UInt8) : Option (Nat × Nat) := if tickA x ≤ 1099511627776 ∧ tickB x ≤ 1099511627776 ∧ tickS (tickA x) (tickB x) = x then some (tickA x, tickB x) else none
theorem tick_a (x : List UInt8) : getL (((x.take 252).drop 4).take 8) = tickA x := by
  rw [tickA, List.drop_take, List.take_take]; rfl
theorem tick_b (x : List UInt8) : getL ((((x.take 252).drop 4).drop 8).take 8) = tickB x := by
  rw [tickB, List.drop_drop, List.drop_take, List.take_take]; rfl
theorem tick_pad {a b : Nat} : padN 252 (tickL a b) = [84, 73, 67, 75] ++ (putL a 8 ++ (putL b 8 ++ List.replicate 232 0)) := by
  rw [padN, tickL_length, tickL]
  simp only [List.append_assoc, Int.toNat_natCast]
theorem drop_four (a b c d : UInt8) (l : List UInt8) : ([a, b, c, d] ++ l).drop 4 = l := rfl
theorem tick_iff {x : List UInt8} (hx : x.length = 256) : tickGood x ↔ (tickA x ≤ 1099511627776 ∧ tickB x ≤ 1099511627776 ∧ tickS (tickA x) (tickB x) = x) := by
  have hl : (tickL (tickA x : Int) (tickB x : Int)).length ≤ 252 := by rw [tickL_length]; decide
  have hx0 : (x.take 252).length = 252 := by rw [List.length_take]; omega
  constructor
  · rintro ⟨h1, h2, h3, h4, h5⟩
    have ha := h4
    have hb := h5
    rw [tick_a] at ha
    rw [tick_b] at hb
    refine ⟨ha, hb, ?_⟩
    have hok : tickOk (tickA x : Int) (tickB x : Int) = true := by simp only [tickOk, decide_eq_true_eq]; omega
    rw [tickS, if_pos hok]
    refine ((sec_iff hx hl).2 ⟨h1, ?_⟩).symm
    rw [tick_pad]
    have e1 : putL (tickA x) 8 = ((x.take 252).drop 4).take 8 := by
      have := put_get (((x.take 252).drop 4).take 8)
      rwa [tick_a, List.length_take, List.length_drop, hx0] at this
    have e2 : putL (tickB x) 8 = (((x.take 252).drop 4).drop 8).take 8 := by
      have := put_get ((((x.take 252).drop 4).drop 8).take 8)
      rwa [tick_b, List.length_take, List.length_drop, List.length_drop, hx0] at this
    have e3 : List.replicate 232 0 = (((x.take 252).drop 4).drop 8).drop 8 := by
      have := zeroL_eq h3
      rw [List.length_drop, List.length_drop, List.length_drop, hx0] at this
      exact this.symm
    rw [e1, e2, e3, ← h2, List.take_append_drop, List.take_append_drop, List.take_append_drop]
  · rintro ⟨ha, hb, h⟩
    have hok : tickOk (tickA x : Int) (tickB x : Int) = true := by simp only [tickOk, decide_eq_true_eq]; omega
    rw [tickS, if_pos hok] at h
    obtain ⟨h1, h2⟩ := (sec_iff hx hl).1 h.symm
    refine ⟨h1, ?_, ?_, by rw [tick_a]; exact ha, by rw [tick_b]; exact hb⟩
    · rw [h2, tick_pad]; rfl
    · rw [h2, tick_pad, drop_four, List.drop_left' (putL_length 8 _), List.drop_left' (putL_length 8 _), zeroL_replicate]
theorem tickG_no {x : List UInt8} (hx : x.length = 256) (h : ¬ tickGood x) : tickG x = none := by rw [tickG, if_neg (fun q => h ((tick_iff hx).2 q))]
theorem tickG_yes {x : List UInt8} (hx : x.length = 256) (h : tickGood x) : tickG x = some (tickA x, tickB x) := by rw [tickG, if_pos ((tick_iff hx).1 h)]
def tickV (o : Option (Nat × Nat)) : List Value := match o with | some (a, b) => [.int .i64 (a : Int), .int .i64 (b : Int)] | none => [.int .i64 0, .int .i64 0]
def tickE (o : Option (Nat × Nat)) : Int := match o with | some _ => 0 | none => 5
def tickN (o : Option (Nat × Nat)) : Int := match o with | some (a, _) => a | none => 0
def tickM (o : Option (Nat × Nat)) : Int := match o with | some (_, b) => b | none => 0
theorem take_snoc {x : List UInt8} {at_ k : Nat} (h : at_ + k < x.length) : bys ((x.drop at_).take k) ++ [.int .u8 ((x.getD (at_ + k) 0).toNat : Int)] = bys ((x.drop at_).take (k + 1)) := by
  have hl : k < (x.drop at_).length := by rw [List.length_drop]; omega
  rw [List.take_succ_eq_append_getElem hl, bys_append]
  simp [bys, List.getD_eq_getElem?_getD, h]
theorem bys_at0 {l : List UInt8} {i : Nat} (h : i < l.length) : (bys l)[0 + i * 1]? = some (.int .u8 ((l.getD i 0).toNat : Int)) := by
  rw [Nat.zero_add, Nat.mul_one]; exact bys_at h
inductive ClockM where
  | fixed (n : Int)
  | state (a b : Int)
  | none
instance : Inhabited ClockM := ⟨.none⟩
def ClockM.after (t : Int) : ClockM → Int
  | .fixed n => max t n
  | .state a _ => max t a
  | .none => t
def latestL (l : List ClockM) : Int := l.foldl ClockM.after 0
theorem tick_back {a b : Nat} (ha : a ≤ 1099511627776) (hb : b ≤ 1099511627776) : tickG (tickS a b) = some (a, b) := by
  have hok : tickOk (a : Int) (b : Int) = true := by simp only [tickOk, decide_eq_true_eq]; omega
  have hl : (tickL (a : Int) (b : Int)).length ≤ 252 := by rw [tickL_length]; decide
  have h2 := ((sec_iff (secL_length _) hl).1 rfl).2
  have hs : tickS (a : Int) (b : Int) = secL (tickL (a : Int) (b : Int)) := by rw [tickS, if_pos hok]
  have ea : tickA (tickS (a : Int) (b : Int)) = a := by
    rw [hs, ← tick_a, h2, tick_pad, drop_four, List.take_left' (putL_length 8 _), get_put (by omega)]
  have eb : tickB (tickS (a : Int) (b : Int)) = b := by
    rw [hs, ← tick_b, h2, tick_pad, drop_four, List.drop_left' (putL_length 8 _), List.take_left' (putL_length 8 _), get_put (by omega)]
  rw [tickG, ea, eb, if_pos ⟨ha, hb, rfl⟩]
theorem latest_snoc (cs : List ClockM) (x : ClockM) : latestL (cs ++ [x]) = x.after (latestL cs) := by rw [latestL, List.foldl_append]; rfl
def fixL (l : List Int) : List ClockM := l.map ClockM.fixed
def pairL (l : List Int) : List ClockM := l.flatMap fun x => [.state x 0, .none]
theorem take_one {α : Type} {l : List α} {i : Nat} {x : α} (h : l[i]? = some x) : l.take (i + 1) = l.take i ++ [x] := by
  obtain ⟨hi, rfl⟩ := List.getElem?_eq_some_iff.1 h
  rw [List.take_succ_eq_append_getElem hi]
theorem fix_take {l : List Int} {i : Nat} {x : Int} (h : l[i]? = some x) : fixL (l.take (i + 1)) = fixL (l.take i) ++ [.fixed x] := by rw [take_one h, fixL, List.map_append]; rfl
theorem pair_take {l : List Int} {i : Nat} {x : Int} (h : l[i]? = some x) : pairL (l.take (i + 1)) = pairL (l.take i) ++ [.state x 0, .none] := by rw [take_one h, pairL, List.flatMap_append]; rfl
theorem latest_pair (cs : List ClockM) (x : Int) : latestL (cs ++ [.state x 0, .none]) = max (latestL cs) x := by rw [latestL, List.foldl_append]; rfl
theorem addN_ge {now n : Int} (h0 : 0 ≤ now) (h1 : now ≤ 1099511627776) : now ≤ addN now n ∧ addN now n ≤ 1099511627776 := by
  unfold addN
  split
  · omega
  · split <;> omega
end Go.Mo
