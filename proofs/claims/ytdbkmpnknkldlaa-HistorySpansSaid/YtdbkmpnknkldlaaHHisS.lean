/- What records tell of a clip: states, holds, clips: plain laws. -/
import Derived.Test.YtdbkmpnknkldlaaHAudS
import Derived.Test.YtdbkmpnknkldlaaHBinS
set_option linter.unusedVariables false
set_option linter.unusedSimpArgs false
namespace Go.Mo
open Go.RowKit Go.Lib
theorem rev_ind {α : Type} {p : List α → Prop} (h0 : p []) (h1 : ∀ l x, p l → p (l ++ [x])) (l : List α) : p l := by
  have h : ∀ n (l : List α), l.length = n → p l := by
    intro n
    induction n with
    | zero => intro l hl; rw [List.eq_nil_of_length_eq_zero hl]; exact h0
    | succ n ih =>
      intro l hl
      rcases List.eq_nil_or_concat l with rfl | ⟨m, x, rfl⟩
      · simp at hl
      · rw [List.concat_eq_append] at hl ⊢
        exact h1 m x (ih m (by simp at hl; omega))
  exact h _ l rfl
structure HS where
  holds : List ByteArray
  fired : Bool
  event : Int
  gone : Bool
  actor : ByteArray
  reason : ByteArray
def hzZ : HS := ⟨[], false, 0, false, ⟨#[]⟩, ⟨#[]⟩⟩
/-- The cells of a state; the slice of its holds. -/
def hzC (hv : Value) (s : HS) : List Value := [hv, .bool s.fired, .int .i64 s.event, .bool s.gone, .string s.actor, .string s.reason]
def eraseF : List ByteArray → ByteArray → List ByteArray
  | [], _ => []
  | y :: l, x => if y = x then l else y :: eraseF l x
theorem eraseF_none {x : ByteArray} : ∀ {l : List ByteArray}, ¬ x ∈ l → eraseF l x = l
  | [], _ => rfl
  | y :: l, h => by
    rw [eraseF, if_neg (fun e => h (by rw [e]; exact List.mem_cons_self)), eraseF_none (fun q => h (List.mem_cons_of_mem _ q))]
theorem eraseF_snoc {x y : ByteArray} : ∀ {l : List ByteArray}, eraseF (l ++ [y]) x = if x ∈ l then eraseF l x ++ [y] else if y = x then l else l ++ [y]
  | [] => by
    by_cases e : y = x <;> simp [eraseF, e]
  | z :: l => by
    rw [List.cons_append, eraseF]
    by_cases e : z = x
    · rw [if_pos e, if_pos (by rw [e]; exact List.mem_cons_self), eraseF, if_pos e]
    · rw [if_neg e, eraseF_snoc (l := l)]
      by_cases q : x ∈ l
      · rw [if_pos q, if_pos (List.mem_cons_of_mem _ q), eraseF, if_neg e]; rfl
      · have q2 : ¬ x ∈ z :: l := by rw [List.mem_cons]; exact fun u => u.elim (fun k => e k.symm) q
        rw [if_neg q, if_neg q2]
        by_cases k : y = x
        · rw [if_pos k, if_pos k]
        · rw [if_neg k, if_neg k]
theorem strAt_cons (y : ByteArray) (l : List ByteArray) (i : Nat) : strAt (y :: l) (i + 1) = strAt l i := by simp [strAt]
theorem eraseF_at {x : ByteArray} : ∀ {l : List ByteArray} {i : Nat}, i < l.length → strAt l i = x → (∀ j, j < i → ¬ strAt l j = x) → eraseF l x = l.take i ++ l.drop (i + 1)
  | [], i, h, _, _ => by simp at h
  | y :: l, 0, _, h, _ => by
    have e : y = x := by rw [← h]; rfl
    rw [eraseF, if_pos e]; rfl
  | y :: l, i + 1, hi, h, hno => by
    have e : ¬ y = x := fun e => hno 0 (by omega) (by rw [← e]; rfl)
    rw [eraseF, if_neg e, eraseF_at (i := i) (by simp at hi; omega) (by rw [← strAt_cons y]; exact h) (fun j hj => by rw [← strAt_cons y]; exact hno (j + 1) (by omega))]
    rfl
theorem eraseF_len (x : ByteArray) : ∀ l : List ByteArray, (eraseF l x).length ≤ l.length
  | [] => Nat.le_refl _
  | y :: l => by
    rw [eraseF]; split
    · simp
    · have := eraseF_len x l; simp; omega
def goneR (r : Rec) : Bool := decide (r.kind = 1 ∨ r.kind = 2)
def hHold (h : List ByteArray) (r : Rec) : List ByteArray := if r.kind = 3 then (if r.reason ∈ h then h else h ++ [r.reason]) else if r.kind = 4 then eraseF h r.reason else h
def hNext (s : HS) (r : Rec) : HS := ⟨hHold s.holds r, s.fired || decide (r.kind = 5), if r.kind = 5 then r.time else s.event, s.gone || goneR r, if goneR r = true then r.actor else s.actor, if goneR r = true then r.reason else s.reason⟩
theorem hHold_len (h : List ByteArray) (r : Rec) : (hHold h r).length ≤ h.length + 1 := by
  unfold hHold
  split
  · split <;> simp
  · split
    · have := eraseF_len r.reason h; omega
    · omega
theorem goneR_iff {r : Rec} : goneR r = true ↔ r.kind = 1 ∨ r.kind = 2 := by simp [goneR]
theorem next_in {s : HS} {r : Rec} (hk : r.kind = 3) (h : r.reason ∈ s.holds) : hNext s r = s := by simp [hNext, hHold, goneR, hk, h]
theorem next_add {s : HS} {r : Rec} (hk : r.kind = 3) (h : ¬ r.reason ∈ s.holds) : hNext s r = { s with holds := s.holds ++ [r.reason] } := by simp [hNext, hHold, goneR, hk, h]
theorem next_del {s : HS} {r : Rec} {i : Nat} (hk : r.kind = 4) (hi : i < s.holds.length) (h : strAt s.holds i = r.reason) (hno : ∀ j, j < i → ¬ strAt s.holds j = r.reason) : hNext s r = { s with holds := s.holds.take i ++ s.holds.drop (i + 1) } := by
  simp [hNext, hHold, goneR, hk, eraseF_at hi h hno]
theorem next_miss {s : HS} {r : Rec} (hk : r.kind = 4) (h : ¬ r.reason ∈ s.holds) : hNext s r = s := by simp [hNext, hHold, goneR, hk, eraseF_none h]
theorem next_fire {s : HS} {r : Rec} (hk : r.kind = 5) : hNext s r = { s with fired := true, event := r.time } := by simp [hNext, hHold, goneR, hk]
theorem next_gone {s : HS} {r : Rec} (hk : r.kind = 1 ∨ r.kind = 2) : hNext s r = { s with gone := true, actor := r.actor, reason := r.reason } := by
  rcases hk with hk | hk <;> simp [hNext, hHold, goneR, hk]
theorem next_other {s : HS} {r : Rec} (h3 : ¬ r.kind = 3) (h4 : ¬ r.kind = 4) (h5 : ¬ r.kind = 5) (h1 : ¬ (r.kind = 1 ∨ r.kind = 2)) : hNext s r = s := by
  simp [hNext, hHold, goneR, h3, h4, h5, h1]
def uT (t : Int) (r : Rec) : Bool := decide (r.time ≤ t)
theorem filt_mid {α : Type} {l : List α} {p : α → Bool} {i : Nat} {x : α} (hi : l[i]? = some x) (h : p x = true) : l.filter p = (l.take i).filter p ++ x :: (l.drop (i + 1)).filter p := by
  have hl := (List.getElem?_eq_some_iff.1 hi)
  obtain ⟨hl, he⟩ := hl
  have e : l = l.take i ++ x :: l.drop (i + 1) := by
    conv => lhs; rw [← List.take_append_drop i l, List.drop_eq_getElem_cons hl, he]
  conv => lhs; rw [e]
  rw [List.filter_append, List.filter_cons, if_pos h]
theorem filt_yes {α : Type} {l : List α} {p : α → Bool} {i : Nat} {x : α} (hi : l[i]? = some x) (h : p x = true) : (l.take (i + 1)).filter p = (l.take i).filter p ++ [x] := by
  rw [List.take_add_one, hi, List.filter_append]; simp [h]
theorem filt_none {α : Type} {l : List α} {p : α → Bool} {i : Nat} {x : α} (hi : l[i]? = some x) (h : p x = false) : (l.take (i + 1)).filter p = (l.take i).filter p := by
  rw [List.take_add_one, hi, List.filter_append]; simp [h]
def hStep (c : A32) (s : HS) (r : Rec) : HS := if r.clip = c then hNext (if s.gone = true then hzZ else s) r else s
def hF (c : A32) (q : List Rec) : HS := q.foldl (hStep c) hzZ
theorem hF_snoc (c : A32) (q : List Rec) (x : Rec) : hF c (q ++ [x]) = hStep c (hF c q) x := by rw [hF, List.foldl_append]; rfl
theorem hF_skip {c : A32} {q : List Rec} {x : Rec} (h : ¬ x.clip = c) : hF c (q ++ [x]) = hF c q := by rw [hF_snoc, hStep, if_neg h]
theorem hF_back {c : A32} {q : List Rec} {x : Rec} (h : x.clip = c) (hg : (hF c q).gone = true) : hF c (q ++ [x]) = hNext hzZ x := by rw [hF_snoc, hStep, if_pos h, if_pos hg]
theorem hF_go {c : A32} {q : List Rec} {x : Rec} (h : x.clip = c) (hg : (hF c q).gone = false) : hF c (q ++ [x]) = hNext (hF c q) x := by rw [hF_snoc, hStep, if_pos h, if_neg (by rw [hg]; decide)]
theorem hF_len (c : A32) (q : List Rec) : (hF c q).holds.length ≤ q.length := by
  induction q using rev_ind with
  | h0 => simp [hF, hzZ]
  | h1 q x ih =>
    rw [hF_snoc, hStep, List.length_append]
    split
    · refine Nat.le_trans (hHold_len _ _) ?_
      split
      · simp [hzZ]
      · simp; exact ih
    · simp; omega
def hOf (l : List Rec) (c : A32) (t : Int) : HS := hF c (l.filter (uT t))
def mineB (c : A32) (t : Int) (r : Rec) : Bool := decide (r.clip = c) && uT t r
def fromK (m : List Rec) : Nat → Nat
  | 0 => 0
  | k + 1 => if goneR (recAt m k) = true then k + 1 else fromK m k
theorem fromK_le (m : List Rec) : ∀ k, fromK m k ≤ k
  | 0 => Nat.le_refl _
  | k + 1 => by rw [fromK]; split; exact Nat.le_refl _; exact Nat.le_succ_of_le (fromK_le m k)
theorem fromK_yes {m : List Rec} {k : Nat} (h : goneR (recAt m k) = true) : fromK m (k + 1) = k + 1 := by rw [fromK, if_pos h]
theorem fromK_no {m : List Rec} {k : Nat} (h : goneR (recAt m k) = false) : fromK m (k + 1) = fromK m k := by rw [fromK, if_neg (by rw [h]; decide)]
theorem fromK_append (m : List Rec) (x : Rec) : ∀ k, k ≤ m.length → fromK (m ++ [x]) k = fromK m k
  | 0, _ => rfl
  | k + 1, h => by rw [fromK, fromK, recAt_append (by omega), fromK_append m x k (by omega)]
def sinceL (m : List Rec) : List Rec := m.drop (fromK m (m.length - 1))
theorem since_yes {m : List Rec} {y x : Rec} (h : goneR y = true) : sinceL (m ++ [y] ++ [x]) = [x] := by
  have hl : (m ++ [y] ++ [x]).length - 1 = m.length + 1 := by simp
  rw [sinceL, hl, fromK_yes (by rw [recAt_append (by simp), recAt_last]; exact h)]
  rw [List.drop_append_of_le_length (by simp), List.drop_of_length_le (by simp)]; rfl
theorem since_no {m : List Rec} {y x : Rec} (h : goneR y = false) : sinceL (m ++ [y] ++ [x]) = sinceL (m ++ [y]) ++ [x] := by
  have hl : (m ++ [y] ++ [x]).length - 1 = m.length + 1 := by simp
  have hk : (m ++ [y]).length - 1 = m.length := by simp
  rw [sinceL, hl, fromK_no (by rw [recAt_append (by simp), recAt_last]; exact h), fromK_append _ _ _ (by simp), sinceL, hk]
  have := fromK_le (m ++ [y]) m.length
  rw [List.drop_append_of_le_length (by simp; omega)]
def rF (m : List Rec) : HS := m.foldl hNext hzZ
theorem rF_snoc (m : List Rec) (x : Rec) : rF (m ++ [x]) = hNext (rF m) x := by rw [rF, List.foldl_append]; rfl
def gF (m : List Rec) : HS := m.foldl (fun s r => hNext (if s.gone = true then hzZ else s) r) hzZ
theorem gF_snoc (m : List Rec) (x : Rec) : gF (m ++ [x]) = hNext (if (gF m).gone = true then hzZ else gF m) x := by rw [gF, List.foldl_append]; rfl
theorem gF_gone (m : List Rec) (x : Rec) : (gF (m ++ [x])).gone = goneR x := by
  rw [gF_snoc]
  show ((if (gF m).gone = true then hzZ else gF m).gone || goneR x) = goneR x
  by_cases h : (gF m).gone = true
  · rw [if_pos h]; rfl
  · rw [if_neg h, Bool.eq_false_iff.2 h]; rfl
theorem gF_since : ∀ m : List Rec, gF m = rF (sinceL m) := by
  intro m
  induction m using rev_ind with
  | h0 => rfl
  | h1 m x ih =>
    rw [gF_snoc]
    rcases List.eq_nil_or_concat m with rfl | ⟨m', y, rfl⟩
    · rfl
    · rw [List.concat_eq_append] at ih ⊢
      rw [gF_gone]
      cases hy : goneR y with
      | true => rw [if_pos rfl, since_yes hy]; rfl
      | false => rw [if_neg (by decide), since_no hy, rF_snoc, ih]
theorem hF_gF (c : A32) : ∀ (q : List Rec), hF c q = gF (q.filter fun r => decide (r.clip = c)) := by
  intro q
  induction q using rev_ind with
  | h0 => rfl
  | h1 q x ih =>
    rw [hF_snoc, hStep, List.filter_append]
    by_cases h : x.clip = c
    · rw [if_pos h, ih]
      have e : [x].filter (fun r => decide (r.clip = c)) = [x] := by simp [h]
      rw [e, gF_snoc]
    · rw [if_neg h, ih]
      have e : [x].filter (fun r => decide (r.clip = c)) = [] := by simp [h]
      rw [e, List.append_nil]
theorem hOf_ref (l : List Rec) (c : A32) (t : Int) : hOf l c t = rF (sinceL (l.filter (mineB c t))) := by
  rw [hOf, hF_gF, gF_since, List.filter_filter]; rfl
def hR (m : List Rec) : List ByteArray := m.foldl hHold []
theorem hR_snoc (m : List Rec) (x : Rec) : hR (m ++ [x]) = hHold (hR m) x := by rw [hR, List.foldl_append]; rfl
theorem rF_holds : ∀ m : List Rec, (rF m).holds = hR m := by
  intro m
  induction m using rev_ind with
  | h0 => rfl
  | h1 m x ih => rw [rF_snoc, hR_snoc, ← ih]; rfl
theorem take_recs {l : List Rec} {i : Nat} (hi : i < l.length) : l.take (i + 1) = l.take i ++ [recAt l i] := by
  rw [List.take_add_one, recAt_some hi]; rfl
theorem hR_len (m : List Rec) : (hR m).length ≤ m.length := by
  induction m using rev_ind with
  | h0 => simp [hR]
  | h1 m x ih => rw [hR_snoc, List.length_append]; exact Nat.le_trans (hHold_len _ _) (by simp; omega)
theorem since_len (m : List Rec) : (sinceL m).length ≤ m.length := by rw [sinceL, List.length_drop]; omega
theorem cells_fire {hv : Value} {s : HS} {r : Rec} (h : r.kind = 5) : hzC hv (hNext s r) = [hv, .bool true, .int .i64 r.time, .bool s.gone, .string s.actor, .string s.reason] := by rw [next_fire h]; rfl
theorem cells_gone {hv : Value} {s : HS} {r : Rec} (h : goneR r = true) : hzC hv (hNext s r) = [hv, .bool s.fired, .int .i64 s.event, .bool true, .string r.actor, .string r.reason] := by rw [next_gone (goneR_iff.1 h)]; rfl
theorem cells_stay {hv : Value} {s : HS} {r : Rec} (h5 : ¬ r.kind = 5) (h : goneR r = false) : hzC hv (hNext s r) = hzC hv s := by
  have e : (hNext s r).fired = s.fired := by simp [hNext, h5]
  have e2 : (hNext s r).event = s.event := by simp [hNext, h5]
  have e3 : (hNext s r).gone = s.gone := by simp [hNext, h]
  have e4 : (hNext s r).actor = s.actor := by simp [hNext, h]
  have e5 : (hNext s r).reason = s.reason := by simp [hNext, h]
  rw [hzC, e, e2, e3, e4, e5]; rfl
/-- The reference's holds, while it goes through those of before. -/
def restK (h : List ByteArray) (r : Rec) (k : Nat) : List ByteArray := if r.kind = 4 then eraseF (h.take k) r.reason else h.take k
theorem take_strs {l : List ByteArray} {i : Nat} (hi : i < l.length) : l.take (i + 1) = l.take i ++ [strAt l i] := by
  rw [List.take_add_one, strAt_some hi]; rfl
theorem rest_add {h : List ByteArray} {r : Rec} {k : Nat} (hk : k < h.length) (q : ¬ strAt h k = r.reason ∨ ¬ r.kind = 4 ∨ r.reason ∈ h.take k) : restK h r (k + 1) = restK h r k ++ [strAt h k] := by
  unfold restK
  rw [take_strs hk]
  by_cases e : r.kind = 4
  · rw [if_pos e, if_pos e, eraseF_snoc]
    by_cases m : r.reason ∈ h.take k
    · rw [if_pos m]
    · rw [if_neg m, if_neg (by rcases q with q | q | q; exact q; exact absurd e q; exact absurd q m), eraseF_none m]
  · rw [if_neg e, if_neg e]
theorem rest_skip {h : List ByteArray} {r : Rec} {k : Nat} (hk : k < h.length) (e : strAt h k = r.reason) (h4 : r.kind = 4) (m : ¬ r.reason ∈ h.take k) : restK h r (k + 1) = restK h r k := by
  unfold restK
  rw [take_strs hk, if_pos h4, if_pos h4, eraseF_snoc, if_neg m, if_pos e, eraseF_none m]
theorem rest_len (h : List ByteArray) (r : Rec) (k : Nat) : (restK h r k).length ≤ h.length := by
  unfold restK
  split
  · exact Nat.le_trans (eraseF_len _ _) (by rw [List.length_take]; omega)
  · rw [List.length_take]; omega
theorem hold_new {h : List ByteArray} {r : Rec} (h3 : r.kind = 3) (m : ¬ r.reason ∈ h) : hHold h r = restK h r h.length ++ [r.reason] := by
  unfold hHold restK
  rw [if_pos h3, if_neg m, if_neg (by omega), List.take_length]
theorem hold_rest {h : List ByteArray} {r : Rec} (q : ¬ (r.kind = 3 ∧ ¬ r.reason ∈ h)) : hHold h r = restK h r h.length := by
  unfold hHold restK
  rw [List.take_length]
  by_cases h3 : r.kind = 3
  · rw [if_pos h3, if_pos (Classical.byContradiction fun m => q ⟨h3, m⟩), if_neg (by omega)]
  · rw [if_neg h3]
theorem mem_takeS {h : List ByteArray} {x : ByteArray} {k : Nat} (hk : k < h.length) : decide (x ∈ h.take (k + 1)) = (decide (x ∈ h.take k) || decide (strAt h k = x)) := by
  rw [take_strs hk]
  by_cases a : x ∈ h.take k <;> by_cases b : strAt h k = x <;> simp [a, b]
  exact fun e => b e.symm
theorem rF_take {m : List Rec} {i : Nat} (hi : i < m.length) : rF (m.take (i + 1)) = hNext (rF (m.take i)) (recAt m i) := by rw [take_recs hi, rF_snoc]
theorem hR_take {m : List Rec} {i : Nat} (hi : i < m.length) : hR (m.take (i + 1)) = hHold (hR (m.take i)) (recAt m i) := by rw [take_recs hi, hR_snoc]
def aC (a : A32) : List Value := bys a.1
theorem aC_len (a : A32) : (aC a).length = 32 := by rw [aC, bys_length]; exact a.2
theorem aC_one (a : A32) : ∀ u ∈ aC a, u.oneCell' = true := bys_one _
def adA (l : List A32) (i : Nat) : A32 := l.getD i a32Z
theorem adA_some {l : List A32} {i : Nat} (hi : i < l.length) : l[i]? = some (adA l i) := by rw [adA, List.getD_eq_getElem?_getD, List.getElem?_eq_getElem hi]; rfl
theorem aC_lt {a : A32} {j : Nat} {u : Value} (h : (aC a)[j]? = some u) : j < 32 := by have := (List.getElem?_eq_some_iff.1 h).1; rw [aC_len] at this; exact this
def clStep (out : List A32) (r : Rec) : List A32 := if r.clip ∈ out then out else out ++ [r.clip]
def clipsL (l : List Rec) : List A32 := l.foldl clStep []
theorem clips_snoc (l : List Rec) (x : Rec) : clipsL (l ++ [x]) = clStep (clipsL l) x := by rw [clipsL, List.foldl_append]; rfl
theorem clips_in {l : List Rec} {i : Nat} (hi : i < l.length) (h : (recAt l i).clip ∈ clipsL (l.take i)) : clipsL (l.take (i + 1)) = clipsL (l.take i) := by rw [take_recs hi, clips_snoc, clStep, if_pos h]
theorem clips_new {l : List Rec} {i : Nat} (hi : i < l.length) (h : ¬ (recAt l i).clip ∈ clipsL (l.take i)) : clipsL (l.take (i + 1)) = clipsL (l.take i) ++ [(recAt l i).clip] := by rw [take_recs hi, clips_snoc, clStep, if_neg h]
theorem clips_len (l : List Rec) : (clipsL l).length ≤ l.length := by
  induction l using rev_ind with
  | h0 => simp [clipsL]
  | h1 l x ih =>
    rw [clips_snoc, clStep, List.length_append]
    split
    · simp; omega
    · simp; exact ih
theorem adR_snoc (T : Nat) (v : Value) (L : List A32) (c : A32) : Res.row T 32 v (L.length + 1) (L.flatMap aC ++ aC c) = Res.row T 32 v (L ++ [c]).length ((L ++ [c]).flatMap aC) := by rw [List.flatMap_append, List.length_append]; simp
theorem stR_snoc (T : Nat) (v : Value) (L : List ByteArray) (c : ByteArray) : Res.row T 1 v (L.length + 1) (L.map Value.string ++ [.string c]) = Res.row T 1 v (L ++ [c]).length ((L ++ [c]).map Value.string) := by rw [List.map_append, List.length_append]; rfl
theorem rcR_snoc (T : Nat) (v : Value) (L : List Rec) (r : Rec) : Res.row T 100 v (L.length + 1) (L.flatMap recC ++ recC r) = Res.row T 100 v (L ++ [r]).length ((L ++ [r]).flatMap recC) := by rw [List.flatMap_append, List.length_append]; simp
theorem Hp.here {w0 w : World} {S : List Nat} {H : List Res} (h : Hp w0 S w H) : Hp w [] w [] := Hp.refl w []
theorem Hp.rowOne {w : World} {T sz n : Nat} {v : Value} {xs : List Value} (h : (Res.row T sz v n xs).at_ w) : Hp w v.ownBlock.toList w [.row T sz v n xs] :=
  Hp.ofGrown ⟨rfl, rfl, rfl, Nat.le_refl _, fun _ _ _ => rfl⟩ h (.inl rfl)
/-- What Until's closure holds on to. -/
def OwnU (T N : Nat) (sv : Value) (m : Nat) (l : List Rec) (t : Int) (ga gb : Nat) (w : World) : Prop := (cells ga T [sv]).at_ w ∧ (cells gb N [.int .i64 t]).at_ w ∧ Sl w sv 100 m (l.flatMap recC)
def heldB (l : List Rec) (nm : ByteArray) (t : Int) (c : A32) : Bool := !(hOf l c t).gone && decide (nm ∈ (hOf l c t).holds)
def heldL (l : List Rec) (nm : ByteArray) (t : Int) : List A32 := (clipsL l).filter (heldB l nm t)
end Go.Mo
