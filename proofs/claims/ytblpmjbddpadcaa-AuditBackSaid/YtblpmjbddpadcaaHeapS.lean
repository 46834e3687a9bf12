/- Things that come due, as a heap: plain laws. -/
import Derived.Test.YtblpmjbddpadcaaTickS
import Derived.Laws.BitsLemmas
set_option linter.unusedVariables false
set_option linter.unusedSimpArgs false
namespace Go.Mo
structure It (α : Type) where
  at_ : Int
  rk : Nat
  wt : α
instance {α : Type} [Inhabited α] : Inhabited (It α) := ⟨⟨0, 0, default⟩⟩
section
variable {α : Type}
def ltB (x y : It α) : Bool := decide (x.at_ < y.at_) || (decide (x.at_ = y.at_) && decide (x.rk < y.rk))
theorem ltB_t {x y : It α} : ltB x y = true ↔ x.at_ < y.at_ ∨ x.at_ = y.at_ ∧ x.rk < y.rk := by simp only [ltB, Bool.or_eq_true, Bool.and_eq_true, decide_eq_true_eq]
theorem ltB_f {x y : It α} : ltB x y = false ↔ ¬ (x.at_ < y.at_ ∨ x.at_ = y.at_ ∧ x.rk < y.rk) := by rw [← ltB_t]; simp
variable [Inhabited α]
def itAt (h : List (It α)) (i : Nat) : It α := h.getD i default
theorem itAt_some {h : List (It α)} {i : Nat} (hi : i < h.length) : h[i]? = some (itAt h i) := by rw [itAt, List.getD_eq_getElem?_getD, List.getElem?_eq_getElem hi]; rfl
theorem itAt_of {h : List (It α)} {i : Nat} {x : It α} (hx : h[i]? = some x) : itAt h i = x := by rw [itAt, List.getD_eq_getElem?_getD, hx]; rfl
def swapI (h : List (It α)) (i j : Nat) : List (It α) := (h.set i (itAt h j)).set j (itAt h i)
theorem swapI_length (h : List (It α)) (i j : Nat) : (swapI h i j).length = h.length := by simp [swapI]
theorem itAt_swap {h : List (It α)} {i j k : Nat} (hi : i < h.length) (hj : j < h.length) : itAt (swapI h i j) k = if k = j then itAt h i else if k = i then itAt h j else itAt h k := by
  unfold swapI
  split
  · rename_i e; subst e; exact itAt_of (by rw [List.getElem?_set_self (by rw [List.length_set]; exact hj)])
  · rename_i e
    split
    · rename_i e2; subst e2; exact itAt_of (by rw [List.getElem?_set_ne (Ne.symm e), List.getElem?_set_self hi])
    · rename_i e2
      show ((h.set i (itAt h j)).set j (itAt h i)).getD k default = h.getD k default
      simp only [List.getD_eq_getElem?_getD]
      rw [List.getElem?_set_ne (Ne.symm e), List.getElem?_set_ne (Ne.symm e2)]
theorem swap_perm {h : List (It α)} {i j : Nat} (hi : i < h.length) (hj : j < h.length) : (swapI h i j).Perm h := by
  have e1 : itAt h i = h[i] := itAt_of (List.getElem?_eq_getElem hi)
  have e2 : itAt h j = h[j] := itAt_of (List.getElem?_eq_getElem hj)
  unfold swapI
  rw [e1, e2]
  exact List.set_set_perm hi hj
def HeapL (h : List (It α)) : Prop := ∀ k, 0 < k → k < h.length → ltB (itAt h k) (itAt h ((k - 1) / 2)) = false
def UpI (h : List (It α)) (i : Nat) : Prop := (∀ k, 0 < k → k < h.length → k ≠ i → ltB (itAt h k) (itAt h ((k - 1) / 2)) = false) ∧ (0 < i → ∀ c, 0 < c → c < h.length → (c - 1) / 2 = i → ltB (itAt h c) (itAt h ((i - 1) / 2)) = false)
theorem up_first {h : List (It α)} (hh : HeapL h) (x : It α) : UpI (h ++ [x]) h.length := by
  have e : ∀ k, k < h.length → itAt (h ++ [x]) k = itAt h k := fun k hk => by rw [itAt, itAt, List.getD_eq_getElem?_getD, List.getElem?_append_left hk, ← List.getD_eq_getElem?_getD]
  refine ⟨fun k h0 hk hne => ?_, fun h0 c hc hcl hp => ?_⟩
  · rw [List.length_append, List.length_singleton] at hk
    rw [e k (by omega), e _ (by omega)]
    exact hh k h0 (by omega)
  · rw [List.length_append, List.length_singleton] at hcl
    omega
theorem up_stop {h : List (It α)} {i : Nat} (hu : UpI h i) (hs : i = 0 ∨ ltB (itAt h i) (itAt h ((i - 1) / 2)) = false) : HeapL h := fun k h0 hk => by
  by_cases e : k = i
  · subst e
    rcases hs with hs | hs
    · omega
    · exact hs
  · exact hu.1 k h0 hk e
theorem up_step {h : List (It α)} {i : Nat} (hu : UpI h i) (h0 : 0 < i) (hi : i < h.length) (hl : ltB (itAt h i) (itAt h ((i - 1) / 2)) = true) : UpI (swapI h i ((i - 1) / 2)) ((i - 1) / 2) := by
  have hp : (i - 1) / 2 < h.length := by omega
  obtain ⟨u1, u2⟩ := hu
  have sw : ∀ k, itAt (swapI h i ((i - 1) / 2)) k = if k = (i - 1) / 2 then itAt h i else if k = i then itAt h ((i - 1) / 2) else itAt h k := fun k => itAt_swap hi hp
  rw [ltB_t] at hl
  refine ⟨fun k k0 hk hne => ?_, fun p0 c c0 hc hpc => ?_⟩
  · rw [swapI_length] at hk
    rw [sw, sw, if_neg hne]
    by_cases e1 : k = i
    · subst e1
      rw [if_pos rfl, if_pos rfl, ltB_f]
      omega
    · rw [if_neg e1]
      by_cases e2 : (k - 1) / 2 = (i - 1) / 2
      · rw [if_pos e2]
        have q := u1 k k0 hk e1
        rw [e2, ltB_f] at q
        rw [ltB_f]
        omega
      · rw [if_neg e2]
        by_cases e3 : (k - 1) / 2 = i
        · rw [if_pos e3]
          exact u2 h0 k k0 hk e3
        · rw [if_neg e3]
          exact u1 k k0 hk e1
  · rw [swapI_length] at hc
    rw [sw, sw, if_neg (show ¬ ((i - 1) / 2 - 1) / 2 = (i - 1) / 2 by omega), if_neg (show ¬ ((i - 1) / 2 - 1) / 2 = i by omega), if_neg (show ¬ c = (i - 1) / 2 by omega)]
    have q := u1 ((i - 1) / 2) p0 hp (by omega)
    by_cases e1 : c = i
    · rw [if_pos e1]
      exact q
    · rw [if_neg e1]
      have q2 := u1 c c0 hc e1
      rw [hpc, ltB_f] at q2
      rw [ltB_f] at q ⊢
      omega
def DownI (h : List (It α)) (i : Nat) : Prop := (∀ k, 0 < k → k < h.length → (k - 1) / 2 ≠ i → ltB (itAt h k) (itAt h ((k - 1) / 2)) = false) ∧ (0 < i → ∀ c, 0 < c → c < h.length → (c - 1) / 2 = i → ltB (itAt h c) (itAt h ((i - 1) / 2)) = false)
def BestI (h : List (It α)) (i j b : Nat) : Prop := (b = i ∨ (0 < b ∧ b < h.length ∧ (b - 1) / 2 = i ∧ ltB (itAt h b) (itAt h i) = true)) ∧ ∀ c, 0 < c → c < h.length → (c - 1) / 2 = i → c < 2 * i + 1 + j → ltB (itAt h c) (itAt h b) = false
theorem best_first (h : List (It α)) (i : Nat) : BestI h i 0 i := ⟨.inl rfl, fun c h0 hc hp hl => by omega⟩
theorem best_take {h : List (It α)} {i j b : Nat} (hb : BestI h i j b) (hj : j < 2) (hk : 2 * i + 1 + j < h.length) (hl : ltB (itAt h (2 * i + 1 + j)) (itAt h b) = true) : BestI h i (j + 1) (2 * i + 1 + j) := by
  rw [ltB_t] at hl
  refine ⟨.inr ⟨by omega, hk, by omega, ?_⟩, fun c c0 hc hp hlt => ?_⟩
  · rcases hb.1 with e | ⟨_, _, _, q⟩
    · subst e; rw [ltB_t]; exact hl
    · rw [ltB_t] at q ⊢; omega
  · by_cases e : c = 2 * i + 1 + j
    · subst e; rw [ltB_f]; omega
    · have q := hb.2 c c0 hc hp (by omega)
      rw [ltB_f] at q ⊢; omega
theorem best_keep {h : List (It α)} {i j b : Nat} (hb : BestI h i j b) (hl : ¬ 2 * i + 1 + j < h.length ∨ ltB (itAt h (2 * i + 1 + j)) (itAt h b) = false) : BestI h i (j + 1) b := by
  refine ⟨hb.1, fun c c0 hc hp hlt => ?_⟩
  by_cases e : c = 2 * i + 1 + j
  · subst e
    rcases hl with q | q
    · exact absurd hc q
    · exact q
  · exact hb.2 c c0 hc hp (by omega)
theorem down_stop {h : List (It α)} {i : Nat} (hd : DownI h i) (hb : BestI h i 2 i) : HeapL h := fun k h0 hk => by
  by_cases e : (k - 1) / 2 = i
  · rw [e]; exact hb.2 k h0 hk e (by omega)
  · exact hd.1 k h0 hk e
theorem down_step {h : List (It α)} {i b : Nat} (hd : DownI h i) (hi : i < h.length) (hb : BestI h i 2 b) (hne : ¬ b = i) : DownI (swapI h i b) b ∧ i < b ∧ b < h.length := by
  obtain ⟨b1, b2⟩ := hb
  obtain ⟨b0, bl, bp, blt⟩ := b1.resolve_left hne
  obtain ⟨d1, d2⟩ := hd
  rw [ltB_t] at blt
  have sw : ∀ k, itAt (swapI h i b) k = if k = b then itAt h i else if k = i then itAt h b else itAt h k := fun k => itAt_swap hi bl
  refine ⟨⟨fun k k0 hk hne2 => ?_, fun _ c c0 hc hpc => ?_⟩, by omega, bl⟩
  · rw [swapI_length] at hk
    rw [sw, sw, if_neg hne2]
    by_cases e1 : (k - 1) / 2 = i
    · rw [if_pos e1]
      by_cases e2 : k = b
      · rw [if_pos e2, ltB_f]; omega
      · rw [if_neg e2, if_neg (show ¬ k = i by omega)]
        exact b2 k k0 hk e1 (by omega)
    · rw [if_neg e1, if_neg (show ¬ k = b by intro e; subst e; exact e1 bp)]
      by_cases e2 : k = i
      · subst e2
        rw [if_pos rfl]
        exact d2 k0 b b0 bl bp
      · rw [if_neg e2]
        exact d1 k k0 hk e1
  · rw [swapI_length] at hc
    rw [sw, sw, if_neg (show ¬ (b - 1) / 2 = b by omega), if_pos bp, if_neg (show ¬ c = b by omega), if_neg (show ¬ c = i by omega)]
    have q := d1 c c0 hc (by omega)
    rw [hpc] at q
    exact q
theorem heap_min {h : List (It α)} (hh : HeapL h) : ∀ k, k < h.length → ltB (itAt h k) (itAt h 0) = false := by
  intro k
  induction k using Nat.strongRecOn with
  | _ k ih =>
    intro hk
    by_cases e : k = 0
    · subst e; rw [ltB_f]; omega
    · have q := hh k (by omega) hk
      have q2 := ih ((k - 1) / 2) (by omega) (by omega)
      rw [ltB_f] at q q2 ⊢
      omega
/-- A heap that stands for things in their order. -/
structure Rep (h M : List (It α)) (n : Nat) : Prop where
  perm : h.Perm M
  srt : M.Pairwise fun x y => ltB x y = true
  heap : HeapL h
  rk : ∀ x ∈ M, x.rk < n
theorem Rep.nil : Rep (α := α) [] [] 0 := ⟨.refl _, .nil, fun k _ hk => (by cases hk), fun x hx => (by cases hx)⟩
theorem Rep.len {h M : List (It α)} {n : Nat} (r : Rep h M n) : h.length = M.length := r.perm.length_eq
theorem Rep.head {h M : List (It α)} {n : Nat} {x : It α} (r : Rep h (x :: M) n) : itAt h 0 = x := by
  have hl : 0 < h.length := by rw [r.len]; simp
  have hm : itAt h 0 ∈ x :: M := r.perm.mem_iff.1 (List.mem_of_getElem? (itAt_some hl))
  rcases List.mem_cons.1 hm with e | hm
  · exact e
  · have h1 := (List.pairwise_cons.1 r.srt).1 _ hm
    obtain ⟨k, hk⟩ := List.getElem?_of_mem (r.perm.mem_iff.2 (List.mem_cons_self (a := x) (l := M)))
    have h2 := heap_min r.heap k (List.getElem?_eq_some_iff.1 hk).1
    rw [itAt_of hk, h1] at h2
    cases h2
def insI (x : It α) (M : List (It α)) : List (It α) := M.takeWhile (fun y => decide (y.at_ ≤ x.at_)) ++ x :: M.dropWhile (fun y => decide (y.at_ ≤ x.at_))
omit [Inhabited α] in
theorem insI_perm (x : It α) (M : List (It α)) : (insI x M).Perm (M ++ [x]) := by
  have h1 : (insI x M).Perm (x :: M) := by
    have := List.perm_middle (a := x) (l₁ := M.takeWhile (fun y => decide (y.at_ ≤ x.at_))) (l₂ := M.dropWhile (fun y => decide (y.at_ ≤ x.at_)))
    rw [List.takeWhile_append_dropWhile] at this
    exact this
  exact h1.trans (List.perm_append_singleton x M).symm
omit [Inhabited α] in
theorem srt_drop {M : List (It α)} (hs : M.Pairwise fun x y => ltB x y = true) (t : Int) : ∀ y ∈ M.dropWhile (fun y => decide (y.at_ ≤ t)), t < y.at_ := by
  induction M with
  | nil => simp
  | cons z M ih =>
    intro y hy
    have hp := List.pairwise_cons.1 hs
    rw [List.dropWhile_cons] at hy
    split at hy
    · exact ih hp.2 y hy
    · rename_i hz
      simp only [decide_eq_true_eq] at hz
      rcases List.mem_cons.1 hy with e | hy
      · subst e; omega
      · have q := hp.1 y hy
        rw [ltB_t] at q
        omega
theorem mem_tw {β : Type} {p : β → Bool} : ∀ {l : List β} {y : β}, y ∈ l.takeWhile p → p y = true
  | [], _, h => by cases h
  | z :: l, y, h => by
    rw [List.takeWhile_cons] at h
    split at h
    · rename_i hz
      rcases List.mem_cons.1 h with e | h
      · subst e; exact hz
      · exact mem_tw h
    · cases h
theorem Rep.add {h M h' : List (It α)} {n : Nat} {x : It α} (r : Rep h M n) (hx : x.rk = n) (hp : h'.Perm (h ++ [x])) (hh : HeapL h') : Rep h' (insI x M) (n + 1) := by
  have hperm : h'.Perm (insI x M) := hp.trans ((r.perm.append_right [x]).trans (insI_perm x M).symm)
  refine ⟨hperm, ?_, hh, fun y hy => ?_⟩
  · have e : M = M.takeWhile (fun y => decide (y.at_ ≤ x.at_)) ++ M.dropWhile (fun y => decide (y.at_ ≤ x.at_)) := List.takeWhile_append_dropWhile.symm
    have hs := r.srt
    rw [e] at hs
    obtain ⟨s1, s2, s3⟩ := List.pairwise_append.1 hs
    refine List.pairwise_append.2 ⟨s1, List.pairwise_cons.2 ⟨fun y hy => ?_, s2⟩, fun a ha b hb => ?_⟩
    · have := srt_drop r.srt x.at_ y hy
      rw [ltB_t]; omega
    · rcases List.mem_cons.1 hb with e2 | hb
      · have h1 := mem_tw ha
        simp only [decide_eq_true_eq] at h1
        have h2 := r.rk a (List.takeWhile_subset _ ha)
        subst e2
        rw [ltB_t]; omega
      · exact s3 a ha b hb
  · rcases List.mem_append.1 (((insI_perm x M).mem_iff).1 hy) with hy | hy
    · have := r.rk y hy; omega
    · simp only [List.mem_singleton] at hy; subst hy; omega
def popI (h : List (It α)) : List (It α) := (h.set 0 (itAt h (h.length - 1))).take (h.length - 1)
theorem popI_length (h : List (It α)) : (popI h).length = h.length - 1 := by simp [popI]
theorem pop_perm {h : List (It α)} (hl : 0 < h.length) : (itAt h 0 :: popI h).Perm h := by
  cases h with
  | nil => cases hl
  | cons x t =>
    rcases List.eq_nil_or_concat t with rfl | ⟨t', y, rfl⟩
    · simp [popI, itAt]
    · have e1 : itAt (x :: t'.concat y) ((x :: t'.concat y).length - 1) = y := itAt_of (by simp)
      have e2 : popI (x :: t'.concat y) = y :: t' := by
        rw [popI, e1]
        simp
      rw [e2]
      have e3 : itAt (x :: t'.concat y) 0 = x := rfl
      rw [e3, List.concat_eq_append]
      exact (List.perm_append_singleton y t').symm.cons x
theorem pop_down {h : List (It α)} (hh : HeapL h) : DownI (popI h) 0 := by
  have e : ∀ k, 0 < k → k < h.length - 1 → itAt (popI h) k = itAt h k := fun k h0 hk => by
    rw [itAt, itAt, popI, List.getD_eq_getElem?_getD, List.getElem?_take, if_pos hk, List.getElem?_set_ne (by omega), ← List.getD_eq_getElem?_getD]
  refine ⟨fun k h0 hk hne => ?_, fun h0 => by omega⟩
  rw [popI_length] at hk
  rw [e k h0 hk, e _ (by omega) (by omega)]
  exact hh k h0 (by omega)
theorem Rep.pop {h M h' : List (It α)} {n : Nat} {x : It α} (r : Rep h (x :: M) n) (hp : h'.Perm (popI h)) (hh : HeapL h') : Rep h' M n := by
  have hl : 0 < h.length := by rw [r.len]; simp
  have h1 := (pop_perm hl).trans r.perm
  rw [r.head] at h1
  exact ⟨hp.trans (List.perm_cons x |>.1 h1), (List.pairwise_cons.1 r.srt).2, hh, fun y hy => r.rk y (by simp [hy])⟩
end
/-! As cells. -/
class OneF {α : Type} (f : α → Value) : Prop where
  one : ∀ x, (f x).oneCell' = true
instance : OneF (Value.int .i64) := ⟨fun _ => rfl⟩
instance : OneF Value.string := ⟨fun _ => rfl⟩
def itC {α : Type} (f : α → Value) (x : It α) : List Value := [.int .i64 x.at_, .int .i64 (x.rk : Int), f x.wt]
theorem itC_len {α : Type} (f : α → Value) (x : It α) : (itC f x).length = 3 := rfl
theorem flat_set {α β : Type} {e : α → List β} {sz : Nat} (he : ∀ x, (e x).length = sz) : ∀ (h : List α) (i : Nat) (x : α), i < h.length → splice (h.flatMap e) (i * sz) (e x) = (h.set i x).flatMap e
  | [], i, x, hi => by cases hi
  | y :: h, 0, x, _ => by
    simp only [List.flatMap_cons, List.set_cons_zero, splice, Nat.zero_mul, List.take_zero, List.nil_append, Nat.zero_add]
    rw [he x, List.drop_left' (he y)]
  | y :: h, i + 1, x, hi => by
    simp only [List.length_cons] at hi
    have ih := flat_set he h i x (by omega)
    simp only [List.flatMap_cons, List.set_cons_succ, ← ih, splice]
    have e1 : (i + 1) * sz = (e y).length + i * sz := by rw [he]; rw [Nat.succ_mul]; omega
    rw [e1, List.take_append, List.drop_append, Nat.add_assoc]
    simp [List.take_of_length_le, List.drop_of_length_le]
theorem flat_take {α β : Type} {e : α → List β} {sz : Nat} (he : ∀ x, (e x).length = sz) : ∀ (h : List α) (m : Nat), (h.flatMap e).take (m * sz) = (h.take m).flatMap e
  | [], m => by simp
  | y :: h, 0 => by simp
  | y :: h, m + 1 => by
    have e1 : (m + 1) * sz = (e y).length + m * sz := by rw [he, Nat.succ_mul]; omega
    rw [List.flatMap_cons, e1, List.take_succ_cons, List.flatMap_cons, ← flat_take he h m, List.take_append, List.take_of_length_le (by omega)]
    simp
theorem flat_set0 {α β : Type} {e : α → List β} {sz : Nat} (he : ∀ x, (e x).length = sz) (h : List α) (i : Nat) (x : α) (hi : i < h.length) : splice (h.flatMap e) (0 + i * sz) (e x) = (h.set i x).flatMap e := by rw [Nat.zero_add]; exact flat_set he h i x hi
theorem flat_len {α β : Type} {e : α → List β} {sz m : Nat} (he : ∀ x, (e x).length = sz) (h0 : 0 < sz) {h : List α} (hl : (h.flatMap e).length = m * sz) : h.length = m := by
  rw [flat_length he] at hl
  exact Nat.eq_of_mul_eq_mul_right h0 hl
theorem flat_snoc {α β : Type} (e : α → List β) (h : List α) (x : α) : (h ++ [x]).flatMap e = h.flatMap e ++ e x := by simp
theorem ltB_rk {α : Type} {x y : It α} (h : x.at_ = y.at_) : ltB x y = decide ((x.rk : Int) < (y.rk : Int)) := by
  unfold ltB
  rw [decide_eq_false (by omega), decide_eq_true h]
  simp
section
variable {α : Type} [Inhabited α]
theorem it_cell {f : α → Value} {h : List (It α)} {i j : Nat} {u : Value} (hi : i < h.length) (hu : (itC f (itAt h i))[j]? = some u) (hj : j < 3) : (h.flatMap (itC f))[i * 3 + j]? = some u := (flat_get (itC_len f) h i j (itAt h i) hj (itAt_some hi)).trans hu
def dueB (M : List (It α)) (now : Int) : Bool := match M with | [] => false | x :: _ => decide (x.at_ ≤ now)
def headI (M : List (It α)) : It α := M.headD default
def leftI (M : List (It α)) (now : Int) : List (It α) := if dueB M now then M.tail else M
theorem Rep.head0 {h M : List (It α)} {n : Nat} (r : Rep h M n) (hl : 0 < h.length) : itAt h 0 = headI M := by
  cases M with
  | nil => rw [r.len] at hl; cases hl
  | cons x M => exact r.head
theorem dueB_of {M : List (It α)} {now : Int} (hl : 0 < M.length) : dueB M now = decide ((headI M).at_ ≤ now) := by
  cases M with
  | nil => cases hl
  | cons x M => rfl
theorem Rep.take {h M h' : List (It α)} {n : Nat} {now : Int} (r : Rep h M n) (hd : dueB M now = true) (hp : h'.Perm (popI h)) (hh : HeapL h') : Rep h' (leftI M now) n := by
  rw [leftI, if_pos hd]
  cases M with
  | nil => cases hd
  | cons x M => exact r.pop hp hh
end
theorem itC_lt {α : Type} {f : α → Value} {x : It α} {j : Nat} {u : Value} (h : (itC f x)[j]? = some u) : j < 3 := (List.getElem?_eq_some_iff.1 h).1
theorem itC_one {α : Type} {f : α → Value} [hf : OneF f] (x : It α) : ∀ u ∈ itC f x, u.oneCell' = true := oneC rfl (oneC rfl (one1 (hf.one _)))
section
variable {α : Type} [Inhabited α]
theorem Rep.no {h M : List (It α)} {n : Nat} {now : Int} (r : Rep h M n) (h0 : h.length = 0) : dueB M now = false := by
  have := r.len
  cases M with
  | nil => rfl
  | cons x M => rw [h0] at this; simp at this
theorem Rep.late {h M : List (It α)} {n : Nat} {now : Int} (r : Rep h M n) (h0 : 0 < h.length) : dueB M now = decide ((itAt h 0).at_ ≤ now) := by
  rw [r.head0 h0, dueB_of (by rw [← r.len]; exact h0)]
omit [Inhabited α] in
theorem due_split {D N M : List (It α)} {now : Int} (he : D ++ N = M) (hd : ∀ x ∈ D, x.at_ ≤ now) (hn : dueB N now = false) : D = M.takeWhile (fun y => decide (y.at_ ≤ now)) ∧ N = M.dropWhile (fun y => decide (y.at_ ≤ now)) := by
  subst he
  have h1 : N.takeWhile (fun y => decide (y.at_ ≤ now)) = [] := by
    cases N with
    | nil => rfl
    | cons x N =>
      have : decide (x.at_ ≤ now) = false := hn
      rw [List.takeWhile_cons, this]; rfl
  have h2 : N.dropWhile (fun y => decide (y.at_ ≤ now)) = N := by
    cases N with
    | nil => rfl
    | cons x N =>
      have : decide (x.at_ ≤ now) = false := hn
      rw [List.dropWhile_cons, this]; rfl
  have h3 : ∀ y ∈ D, decide (y.at_ ≤ now) = true := fun y hy => decide_eq_true (hd y hy)
  constructor
  · rw [List.takeWhile_append_of_pos h3, h1, List.append_nil]
  · rw [List.dropWhile_append_of_pos h3, h2]
theorem due_cons {M : List (It α)} {now : Int} (hd : dueB M now = true) : M = headI M :: leftI M now ∧ (headI M).at_ ≤ now := by
  cases M with
  | nil => cases hd
  | cons x M =>
    rw [leftI, if_pos hd]
    exact ⟨rfl, of_decide_eq_true hd⟩
end
/-! The reference's list: times and things. -/
def prC (p : Int × Int) : List Value := [.int .i64 p.1, .int .i64 p.2]
theorem prC_len (p : Int × Int) : (prC p).length = 2 := rfl
theorem prC_one (p : Int × Int) : ∀ u ∈ prC p, u.oneCell' = true := oneC rfl (one1 rfl)
theorem prC_lt {p : Int × Int} {j : Nat} {u : Value} (h : (prC p)[j]? = some u) : j < 2 := (List.getElem?_eq_some_iff.1 h).1
def prAt (l : List (Int × Int)) (i : Nat) : Int × Int := l.getD i (0, 0)
theorem prAt_some {l : List (Int × Int)} {i : Nat} (hi : i < l.length) : l[i]? = some (prAt l i) := by rw [prAt, List.getD_eq_getElem?_getD, List.getElem?_eq_getElem hi]; rfl
theorem pr_cell {l : List (Int × Int)} {i j : Nat} {u : Value} (hi : i < l.length) (hu : (prC (prAt l i))[j]? = some u) (hj : j < 2) : (l.flatMap prC)[i * 2 + j]? = some u := (flat_get prC_len l i j (prAt l i) hj (prAt_some hi)).trans hu
def insP (x : Int × Int) (l : List (Int × Int)) : List (Int × Int) := l.takeWhile (fun y => decide (y.1 ≤ x.1)) ++ x :: l.dropWhile (fun y => decide (y.1 ≤ x.1))
theorem ins_done {l : List (Int × Int)} {x : Int × Int} {i : Nat} (ht : ∀ j, j < i → (prAt l j).1 ≤ x.1) (hi : i ≤ l.length) (hs : i = l.length ∨ ¬ (prAt l i).1 ≤ x.1) : l.take i ++ [x] ++ l.drop i = insP x l := by
  have h1 : ∀ y ∈ l.take i, decide (y.1 ≤ x.1) = true := fun y hy => by
    obtain ⟨j, hj⟩ := List.getElem?_of_mem hy
    obtain ⟨hj1, hj2⟩ := List.getElem?_eq_some_iff.1 hj
    rw [List.length_take] at hj1
    have h3 := ht j (by omega)
    have h4 : prAt l j = y := by
      rw [prAt, List.getD_eq_getElem?_getD]
      rw [List.getElem?_take, if_pos (by omega)] at hj
      rw [hj]; rfl
    rw [h4] at h3
    exact decide_eq_true h3
  have e : l = l.take i ++ l.drop i := (List.take_append_drop i l).symm
  have h2 : (l.drop i).takeWhile (fun y => decide (y.1 ≤ x.1)) = [] ∧ (l.drop i).dropWhile (fun y => decide (y.1 ≤ x.1)) = l.drop i := by
    rcases hs with hs | hs
    · rw [List.drop_of_length_le (by omega)]; exact ⟨rfl, rfl⟩
    · by_cases hl : i = l.length
      · rw [List.drop_of_length_le (by omega)]; exact ⟨rfl, rfl⟩
      · have hlt : i < l.length := by omega
        have h5 : prAt l i = l[i] := by rw [prAt, List.getD_eq_getElem?_getD, List.getElem?_eq_getElem hlt]; rfl
        rw [h5] at hs
        rw [List.drop_eq_getElem_cons hlt, List.takeWhile_cons, List.dropWhile_cons, decide_eq_false hs]
        exact ⟨rfl, rfl⟩
  rw [insP]
  conv => rhs; rw [e]
  rw [List.takeWhile_append_of_pos h1, List.dropWhile_append_of_pos h1, h2.1, h2.2]
  simp
theorem ins_map {α : Type} (f : It α → Int × Int) (hf : ∀ x, (f x).1 = x.at_) (x : It α) (M : List (It α)) : insP (f x) (M.map f) = (insI x M).map f := by
  rw [insP, insI, List.map_append, List.map_cons, List.takeWhile_map, List.dropWhile_map]
  have e : ((fun y : Int × Int => decide (y.1 ≤ (f x).1)) ∘ f) = fun y : It α => decide (y.at_ ≤ x.at_) := by
    funext y; simp only [Function.comp, hf]
  rw [e]
theorem cut_tail {A : Option Addr} {m c : Nat} {l : List (Int × Int)} {w : World} (h : Sl w (.slice A m c) 2 m (l.flatMap prC)) (h0 : 0 < m) : Sl w (.slice (if c = 1 then A else A.map (·.add (1 * 2))) (m - 1) (c - 1)) 2 (m - 1) (l.tail.flatMap prC) := by
  have h1 := h.cut 1 m h0 (Nat.le_refl _)
  have hl := flat_len prC_len (by decide) h.len
  have e : ((l.flatMap prC).drop (1 * 2)).take ((m - 1) * 2) = l.tail.flatMap prC := by
    cases l with
    | nil => simp
    | cons p l =>
      simp only [List.length_cons] at hl
      have e1 : (p :: l).flatMap prC = prC p ++ l.flatMap prC := rfl
      rw [e1, List.drop_left' (prC_len p), List.tail_cons, List.take_of_length_le (by rw [flat_length prC_len]; omega)]
  rw [e] at h1
  exact h1
theorem flat_part {α β : Type} {e : α → List β} {sz : Nat} (he : ∀ x, (e x).length = sz) (h : List α) (i : Nat) : ((h.flatMap e).drop (i * sz)).take ((h.length - i) * sz) = (h.drop i).flatMap e := by
  have h1 : h.flatMap e = (h.take i).flatMap e ++ (h.drop i).flatMap e := by rw [← List.flatMap_append, List.take_append_drop]
  by_cases hi : i ≤ h.length
  · rw [h1, List.drop_left' (by rw [flat_length he, List.length_take]; congr 1; omega), List.take_of_length_le (by rw [flat_length he, List.length_drop]; exact Nat.le_refl _)]
  · rw [List.drop_of_length_le (by rw [flat_length he]; exact Nat.mul_le_mul_right _ (by omega)), List.drop_of_length_le (show h.length ≤ i by omega)]; simp
theorem flat_one {α : Type} {e : α → List Value} (he : ∀ x, ∀ u ∈ e x, u.oneCell' = true) (l : List α) : ∀ u ∈ l.flatMap e, u.oneCell' = true := fun u hu => by
  obtain ⟨x, _, hx⟩ := List.mem_flatMap.1 hu
  exact he x u hx
def trC (p : Int × Int × Int) : List Value := [.int .i64 p.1, .int .i64 p.2.1, .int .i64 p.2.2]
theorem trC_len (p : Int × Int × Int) : (trC p).length = 3 := rfl
theorem tr_cell {l : List (Int × Int × Int)} {i j : Nat} {x : Int × Int × Int} {u : Value} (hx : l[i]? = some x) (hu : (trC x)[j]? = some u) (hj : j < 3) : (l.flatMap trC)[i * 3 + j]? = some u := (flat_get trC_len l i j x hj hx).trans hu
def prI (x : It Int) : Int × Int := (x.at_, x.wt)
def prR {α : Type} (x : It α) : Int × Int := (x.at_, (x.rk : Int))
theorem pr_head {α : Type} [Inhabited α] {M : List (It α)} (g : It α → Int × Int) {w : World} {gA bA m c : Nat} (h : Sl w (.slice (some ⟨gA, bA, none⟩) m c) 2 m ((M.map g).flatMap prC)) (h0 : 0 < M.length) (j : Nat) (u : Value) (hj : (prC (g (headI M)))[j]? = some u) : w.cell? ⟨gA, bA + 0 * 2 + j, none⟩ = some u := by
  cases M with
  | nil => cases h0
  | cons x M => exact h.elem prC_len 0 j (prC_lt hj) rfl hj
theorem leftI_tail {α : Type} [Inhabited α] {M : List (It α)} {now : Int} (h : dueB M now = true) : leftI M now = M.tail := by rw [leftI, if_pos h]
theorem leftI_all {α : Type} [Inhabited α] {M : List (It α)} {now : Int} (h : dueB M now = false) : leftI M now = M := by rw [leftI, h]; rfl
theorem insI_length {α : Type} (x : It α) (M : List (It α)) : (insI x M).length = M.length + 1 := by rw [(insI_perm x M).length_eq, List.length_append]; rfl
theorem bo_neqS {P : Program} {T : TypeId} {x y : Operand} {w : World} {k : IntKind} {p q : Int} (h : p = q) : Bo P .neq T x y (.int k p) (.int k q) w (.bool false) := by
  have := bo_neq (P := P) (T := T) (x := x) (y := y) (w := w) (k := k) (p := p) (q := q)
  rw [decide_eq_true h] at this
  exact this
def cv8 (z : Int) : UInt8 := UInt8.ofNat (z % 256).toNat
theorem cv8_wrap (z : Int) : IntKind.u8.wrap z = ((cv8 z).toNat : Int) := by
  have h1 : (cv8 z).toNat = (z % 256).toNat % 256 := UInt8.toNat_ofNat'
  rw [h1, IntKind.wrap_u8]
  omega
def strOf (z : Int) (i : Nat) : ByteArray := ⟨[cv8 z, cv8 (i : Int)].toArray⟩
theorem pr_at {α : Type} [Inhabited α] {M : List (It α)} (g : It α → Int × Int) {w : World} {gA bA m c : Nat} (h : Sl w (.slice (some ⟨gA, bA, none⟩) m c) 2 m ((M.map g).flatMap prC)) {i : Nat} (hi : i < M.length) (j : Nat) (u : Value) (hj : (prC (g (itAt M i)))[j]? = some u) : w.cell? ⟨gA, bA + i * 2 + j, none⟩ = some u :=
  h.elem prC_len i j (prC_lt hj) (by rw [List.getElem?_map, itAt_some hi]; rfl) hj
theorem tw_at {α : Type} [Inhabited α] {M : List (It α)} {p : It α → Bool} {i : Nat} (hi : i < (M.takeWhile p).length) : (M.takeWhile p)[i]? = some (itAt M i) ∧ p (itAt M i) = true ∧ i < M.length := by
  have e : M = M.takeWhile p ++ M.dropWhile p := List.takeWhile_append_dropWhile.symm
  have h1 : (M.takeWhile p)[i]? = M[i]? := by conv => rhs; rw [e, List.getElem?_append_left hi]
  have hl : (M.takeWhile p).length + (M.dropWhile p).length = M.length := by rw [← List.length_append, ← e]
  have hm : i < M.length := by omega
  have h2 := h1.trans (itAt_some hm)
  exact ⟨h2, mem_tw (List.mem_of_getElem? h2), hm⟩
theorem tw_len {α : Type} (M : List (It α)) (p : It α → Bool) : (M.takeWhile p).length + (M.dropWhile p).length = M.length := by rw [← List.length_append, List.takeWhile_append_dropWhile]
theorem insI_all {α : Type} {Q : It α → Prop} {x : It α} {M : List (It α)} (h : ∀ y ∈ M, Q y) (hx : Q x) : ∀ y ∈ insI x M, Q y := fun y hy => by
  rcases List.mem_append.1 ((insI_perm x M).mem_iff.1 hy) with hy | hy
  · exact h y hy
  · rw [List.mem_singleton] at hy; subst hy; exact hx
theorem bo_sneqS {P : Program} {T : TypeId} {x y : Operand} {w : World} {a b : ByteArray} (hT : P.underlying T = some .string) (h : a = b) : Bo P .neq T x y (.string a) (.string b) w (.bool false) := by
  have := bo_sneq (P := P) (T := T) (x := x) (y := y) (w := w) (p := a) (q := b)
  rw [decide_eq_true h] at this
  exact this
end Go.Mo
