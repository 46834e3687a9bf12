/- Sectors that bear a sum: plain lists. -/
import Derived.Test.YtpagpmioopaciaaGreatPCrcS
import Derived.Laws.BitsLemmas
set_option linter.unusedVariables false
set_option linter.unusedSimpArgs false
namespace Go.Mo
/-- A load of a whole variable. -/
theorem rd_loadC {P : Program} {n : Nat} {f : Fm} {w : World} {o : Oper} {x : Operand} {T U : TypeId} {g sz : Nat} {d : TypeDesc} {L : List Value} (ho : o.op = .load T x) (hx : ev n f x = .pointer (some ⟨g, 0, none⟩)) (hT : P.underlying T = some d) (hd : plainT d = false)
    (hs : (P.info? T).map (·.size) = some sz) (hg : (cells g U L).at_ w) (hl : L.length = sz) : Rd P n f o w (.agg ⟨L⟩) :=
  rd_loadN ho hx hT hd hs hl fun j u hj => by rw [Nat.zero_add]; exact (cell_of_cells hg j).trans hj
def padN (n : Nat) (b : List UInt8) : List UInt8 := b ++ List.replicate (n - b.length) 0
theorem padN_length {n : Nat} {b : List UInt8} (h : b.length ≤ n) : (padN n b).length = n := by simp [padN]; omega
/-- What the reference seals: bytes, noughts up to 252, the sum. -/
def longL (b : List UInt8) : List UInt8 := padN 252 b ++ fourL (ofB (padN 252 b))
def secL (b : List UInt8) : List UInt8 := (longL b).take 256
theorem fourL_length (r : BitVec 32) : (fourL r).length = 4 := rfl
theorem longL_length {b : List UInt8} (h : b.length ≤ 252) : (longL b).length = 256 := by rw [longL, List.length_append, padN_length h, fourL_length]
theorem secL_eq {b : List UInt8} (h : b.length ≤ 252) : secL b = longL b := by rw [secL, List.take_of_length_le (by rw [longL_length h]; omega)]
theorem holds_long {b : List UInt8} (h : b.length ≤ 252) : holdsL (longL b) = true := by
  rw [holdsL, longL_length h]
  have e1 : (longL b).take (256 - 4) = padN 252 b := by rw [longL, List.take_append_of_le_length (by rw [padN_length h]; decide), List.take_of_length_le (by rw [padN_length h]; decide)]
  have e2 : (longL b).drop (256 - 4) = fourL (ofB (padN 252 b)) := by
    have := padN_length h
    rw [longL, List.drop_append, List.drop_of_length_le (by omega), this]; rfl
  rw [e1, e2]
  simp
theorem long_take {b : List UInt8} (h : b.length ≤ 252) : (longL b).take 252 = padN 252 b := by
  rw [longL, List.take_append_of_le_length (by rw [padN_length h]; decide), List.take_of_length_le (by rw [padN_length h]; decide)]
end Go.Mo
set_option linter.unusedVariables false
set_option linter.unusedSimpArgs false
namespace Go.Mo
theorem cur_step (l : List UInt8) (k : Nat) (h : k ≤ l.length) : curOk false l (k : Int) = true ∧ curOut false l (k : Int) = l.take k ∧ curL false l (k : Int) = l.drop k := by
  have hok : curOk false l (k : Int) = true := by simp only [curOk, Bool.not_false, Bool.true_and, decide_eq_true_eq]; omega
  exact ⟨hok, (cur_yes hok).1, (cur_yes hok).2⟩
theorem num_step (l : List UInt8) (k : Nat) (h : k ≤ l.length) (h8 : k ≤ 8) : curNum false l (k : Int) = getL (l.take k) := by
  rw [curNum, (cur_step l k h).2.1, List.take_take, Nat.min_eq_right h8]
theorem get_put {k n : Nat} (h : n < 256 ^ k) : getL (putL n k) = n := by rw [getL_put, Nat.mod_eq_of_lt h]
inductive ClockM where
  | fixed (n : Int)
  | state (a b : Int)
  | none
instance : Inhabited ClockM := ⟨.none⟩
def ClockM.after (t : Int) : ClockM → Int
  | .fixed n => max t n
  | .state a _ => max t a
  | .none => t
theorem take_one {α : Type} {l : List α} {i : Nat} {x : α} (h : l[i]? = some x) : l.take (i + 1) = l.take i ++ [x] := by
  obtain ⟨hi, rfl⟩ := List.getElem?_eq_some_iff.1 h
  rw [List.take_succ_eq_append_getElem hi]
end Go.Mo
set_option linter.unusedVariables false
set_option linter.unusedSimpArgs false
namespace Go.Mo
structure It (α : Type) where
  at_ : Int
  rk : Nat
  wt : α
instance {α : Type} [Inhabited α] : Inhabited (It α) := ⟨⟨0, 0, default⟩⟩
section
variable {α : Type}
def ltB (x y : It α) : Bool := decide (x.at_ < y.at_) || (decide (x.at_ = y.at_) && decide (x.rk < y.rk))
theorem ltB_t {x y : It α} : ltB x y = true ↔ x.at_ < y.at_ ∨ x.at_ = y.at_ ∧ x.rk < y.rk := by simp only [ltB, Bool.or_eq_true, Bool.and_eq_true, decide_eq_true_eq]
theorem ltB_f {x y : It α} : ltB x y = false ↔ ¬ (x.at_ < y.at_ ∨ x.at_ = y.at_ ∧ x.rk < y.rk) := by rw [← ltB_t]; simp
variable [Inhabited α]
def itAt (h : List (It α)) (i : Nat) : It α := h.getD i default
theorem itAt_some {h : List (It α)} {i : Nat} (hi : i < h.length) : h[i]? = some (itAt h i) := by rw [itAt, List.getD_eq_getElem?_getD, List.getElem?_eq_getElem hi]; rfl
theorem itAt_of {h : List (It α)} {i : Nat} {x : It α} (hx : h[i]? = some x) : itAt h i = x := by rw [itAt, List.getD_eq_getElem?_getD, hx]; rfl
def HeapL (h : List (It α)) : Prop := ∀ k, 0 < k → k < h.length → ltB (itAt h k) (itAt h ((k - 1) / 2)) = false
theorem heap_min {h : List (It α)} (hh : HeapL h) : ∀ k, k < h.length → ltB (itAt h k) (itAt h 0) = false := by
  intro k
  induction k using Nat.strongRecOn with
  | _ k ih =>
    intro hk
    by_cases e : k = 0
    · subst e; rw [ltB_f]; omega
    · have q := hh k (by omega) hk
      have q2 := ih ((k - 1) / 2) (by omega) (by omega)
      rw [ltB_f] at q q2 ⊢
      omega
/-- A heap that stands for things in their order. -/
structure Rep (h M : List (It α)) (n : Nat) : Prop where
  perm : h.Perm M
  srt : M.Pairwise fun x y => ltB x y = true
  heap : HeapL h
  rk : ∀ x ∈ M, x.rk < n
theorem Rep.nil : Rep (α := α) [] [] 0 := ⟨.refl _, .nil, fun k _ hk => (by cases hk), fun x hx => (by cases hx)⟩
theorem Rep.len {h M : List (It α)} {n : Nat} (r : Rep h M n) : h.length = M.length := r.perm.length_eq
theorem Rep.head {h M : List (It α)} {n : Nat} {x : It α} (r : Rep h (x :: M) n) : itAt h 0 = x := by
  have hl : 0 < h.length := by rw [r.len]; simp
  have hm : itAt h 0 ∈ x :: M := r.perm.mem_iff.1 (List.mem_of_getElem? (itAt_some hl))
  rcases List.mem_cons.1 hm with e | hm
  · exact e
  · have h1 := (List.pairwise_cons.1 r.srt).1 _ hm
    obtain ⟨k, hk⟩ := List.getElem?_of_mem (r.perm.mem_iff.2 (List.mem_cons_self (a := x) (l := M)))
    have h2 := heap_min r.heap k (List.getElem?_eq_some_iff.1 hk).1
    rw [itAt_of hk, h1] at h2
    cases h2
def insI (x : It α) (M : List (It α)) : List (It α) := M.takeWhile (fun y => decide (y.at_ ≤ x.at_)) ++ x :: M.dropWhile (fun y => decide (y.at_ ≤ x.at_))
omit [Inhabited α] in
theorem insI_perm (x : It α) (M : List (It α)) : (insI x M).Perm (M ++ [x]) := by
  have h1 : (insI x M).Perm (x :: M) := by
    have := List.perm_middle (a := x) (l₁ := M.takeWhile (fun y => decide (y.at_ ≤ x.at_))) (l₂ := M.dropWhile (fun y => decide (y.at_ ≤ x.at_)))
    rw [List.takeWhile_append_dropWhile] at this
    exact this
  exact h1.trans (List.perm_append_singleton x M).symm
omit [Inhabited α] in
theorem srt_drop {M : List (It α)} (hs : M.Pairwise fun x y => ltB x y = true) (t : Int) : ∀ y ∈ M.dropWhile (fun y => decide (y.at_ ≤ t)), t < y.at_ := by
  induction M with
  | nil => simp
  | cons z M ih =>
    intro y hy
    have hp := List.pairwise_cons.1 hs
    rw [List.dropWhile_cons] at hy
    split at hy
    · exact ih hp.2 y hy
    · rename_i hz
      simp only [decide_eq_true_eq] at hz
      rcases List.mem_cons.1 hy with e | hy
      · subst e; omega
      · have q := hp.1 y hy
        rw [ltB_t] at q
        omega
theorem mem_tw {β : Type} {p : β → Bool} : ∀ {l : List β} {y : β}, y ∈ l.takeWhile p → p y = true
  | [], _, h => by cases h
  | z :: l, y, h => by
    rw [List.takeWhile_cons] at h
    split at h
    · rename_i hz
      rcases List.mem_cons.1 h with e | h
      · subst e; exact hz
      · exact mem_tw h
    · cases h
theorem Rep.add {h M h' : List (It α)} {n : Nat} {x : It α} (r : Rep h M n) (hx : x.rk = n) (hp : h'.Perm (h ++ [x])) (hh : HeapL h') : Rep h' (insI x M) (n + 1) := by
  have hperm : h'.Perm (insI x M) := hp.trans ((r.perm.append_right [x]).trans (insI_perm x M).symm)
  refine ⟨hperm, ?_, hh, fun y hy => ?_⟩
  · have e : M = M.takeWhile (fun y => decide (y.at_ ≤ x.at_)) ++ M.dropWhile (fun y => decide (y.at_ ≤ x.at_)) := List.takeWhile_append_dropWhile.symm
    have hs := r.srt
    rw [e] at hs
    obtain ⟨s1, s2, s3⟩ := List.pairwise_append.1 hs
    refine List.pairwise_append.2 ⟨s1, List.pairwise_cons.2 ⟨fun y hy => ?_, s2⟩, fun a ha b hb => ?_⟩
    · have := srt_drop r.srt x.at_ y hy
      rw [ltB_t]; omega
    · rcases List.mem_cons.1 hb with e2 | hb
      · have h1 := mem_tw ha
        simp only [decide_eq_true_eq] at h1
        have h2 := r.rk a (List.takeWhile_subset _ ha)
        subst e2
        rw [ltB_t]; omega
      · exact s3 a ha b hb
  · rcases List.mem_append.1 (((insI_perm x M).mem_iff).1 hy) with hy | hy
    · have := r.rk y hy; omega
    · simp only [List.mem_singleton] at hy; subst hy; omega
def popI (h : List (It α)) : List (It α) := (h.set 0 (itAt h (h.length - 1))).take (h.length - 1)
theorem pop_perm {h : List (It α)} (hl : 0 < h.length) : (itAt h 0 :: popI h).Perm h := by
  cases h with
  | nil => cases hl
  | cons x t =>
    rcases List.eq_nil_or_concat t with rfl | ⟨t', y, rfl⟩
    · simp [popI, itAt]
    · have e1 : itAt (x :: t'.concat y) ((x :: t'.concat y).length - 1) = y := itAt_of (by simp)
      have e2 : popI (x :: t'.concat y) = y :: t' := by
        rw [popI, e1]
        simp
      rw [e2]
      have e3 : itAt (x :: t'.concat y) 0 = x := rfl
      rw [e3, List.concat_eq_append]
      exact (List.perm_append_singleton y t').symm.cons x
theorem Rep.pop {h M h' : List (It α)} {n : Nat} {x : It α} (r : Rep h (x :: M) n) (hp : h'.Perm (popI h)) (hh : HeapL h') : Rep h' M n := by
  have hl : 0 < h.length := by rw [r.len]; simp
  have h1 := (pop_perm hl).trans r.perm
  rw [r.head] at h1
  exact ⟨hp.trans (List.perm_cons x |>.1 h1), (List.pairwise_cons.1 r.srt).2, hh, fun y hy => r.rk y (by simp [hy])⟩
end
class OneF {α : Type} (f : α → Value) : Prop where
  one : ∀ x, (f x).oneCell' = true
instance : OneF (Value.int .i64) := ⟨fun _ => rfl⟩
instance : OneF Value.string := ⟨fun _ => rfl⟩
section
variable {α : Type} [Inhabited α]
def dueB (M : List (It α)) (now : Int) : Bool := match M with | [] => false | x :: _ => decide (x.at_ ≤ now)
def leftI (M : List (It α)) (now : Int) : List (It α) := if dueB M now then M.tail else M
theorem Rep.take {h M h' : List (It α)} {n : Nat} {now : Int} (r : Rep h M n) (hd : dueB M now = true) (hp : h'.Perm (popI h)) (hh : HeapL h') : Rep h' (leftI M now) n := by
  rw [leftI, if_pos hd]
  cases M with
  | nil => cases hd
  | cons x M => exact r.pop hp hh
end
section
variable {α : Type} [Inhabited α]
theorem Rep.no {h M : List (It α)} {n : Nat} {now : Int} (r : Rep h M n) (h0 : h.length = 0) : dueB M now = false := by
  have := r.len
  cases M with
  | nil => rfl
  | cons x M => rw [h0] at this; simp at this
end
def cv8 (z : Int) : UInt8 := UInt8.ofNat (z % 256).toNat
end Go.Mo
