/- What the reference's guard comes to, and that it is the program's: plain laws. -/
import Derived.Test.YtpagpmioopaciaaGGuaR
import Derived.Test.YtpagpmioopaciaaGGuaM
import Derived.Test.YtpagpmioopaciaaGOrd
set_option linter.unusedVariables false
set_option linter.unusedSimpArgs false
namespace Go.Mo
open Go.RowKit
abbrev riseR (R : List RO) : Prop := R.Pairwise fun a b => ltS a.1 b.1 = true
theorem take_ro {R : List RO} {i : Nat} (hi : i < R.length) : R.take (i + 1) = R.take i ++ [roAt R i] := by rw [List.take_add_one, roAt_some hi]; rfl
theorem take_ha {L : List HA} {i : Nat} (hi : i < L.length) : L.take (i + 1) = L.take i ++ [haAt L i] := by rw [List.take_add_one, haAt_some hi]; rfl
theorem roAt_mem {R : List RO} {i : Nat} (hi : i < R.length) : roAt R i ∈ R := List.mem_of_getElem? (roAt_some hi)
theorem haAt_mem {L : List HA} {i : Nat} (hi : i < L.length) : haAt L i ∈ L := List.mem_of_getElem? (haAt_some hi)
theorem ro_idx {R : List RO} {x : RO} (h : x ∈ R) : ∃ i, i < R.length ∧ roAt R i = x := by
  obtain ⟨i, hi⟩ := List.getElem?_of_mem h
  have hl := (List.getElem?_eq_some_iff.1 hi).1
  rw [roAt_some hl] at hi
  exact ⟨i, hl, Option.some.inj hi⟩
theorem ha_idx {R : List HA} {x : HA} (h : x ∈ R) : ∃ i, i < R.length ∧ haAt R i = x := by
  obtain ⟨i, hi⟩ := List.getElem?_of_mem h
  have hl := (List.getElem?_eq_some_iff.1 hi).1
  rw [haAt_some hl] at hi
  exact ⟨i, hl, Option.some.inj hi⟩
theorem rise_lt {R : List RO} (h : riseR R) {i j : Nat} (hij : i < j) (hj : j < R.length) : ltS (roAt R i).1 (roAt R j).1 = true := by
  have e1 := roAt_some (l := R) (i := i) (by omega)
  have e2 := roAt_some hj
  rw [List.getElem?_eq_getElem (by omega)] at e1 e2
  rw [← Option.some.inj e1, ← Option.some.inj e2]
  exact List.pairwise_iff_getElem.1 h i j (by omega) hj hij
theorem first_at {p : Nat → Prop} [DecidablePred p] : ∀ n, (∃ i, i < n ∧ p i) → ∃ i, i < n ∧ p i ∧ ∀ j, j < i → ¬ p j := by
  intro n
  induction n with
  | zero => rintro ⟨i, h, _⟩; omega
  | succ n ih =>
    rintro ⟨i, hi, hp⟩
    by_cases h : ∃ j, j < n ∧ p j
    · obtain ⟨j, a, b, c⟩ := ih h; exact ⟨j, by omega, b, c⟩
    · have : i = n := by
        apply Classical.byContradiction
        intro q; exact h ⟨i, by omega, hp⟩
      subst this
      exact ⟨i, by omega, hp, fun j hj q => h ⟨j, hj, q⟩⟩
/-- Where a role stands, if it stands. -/
theorem roF_ge {R : List RO} {s : ByteArray} (h : s ∈ R.map (·.1)) : ∃ i, i < R.length ∧ roF R s = (i : Int) ∧ (roAt R i).1 = s := by
  obtain ⟨x, hx, rfl⟩ := List.mem_map.1 h
  obtain ⟨i, hi, e⟩ := ro_idx hx
  obtain ⟨j, a, b, c⟩ := first_at (p := fun i => (roAt R i).1 = x.1) R.length ⟨i, hi, by rw [e]⟩
  exact ⟨j, a, roF_at a b c, b⟩
theorem roF_lt {R : List RO} {s : ByteArray} (h : ¬ s ∈ R.map (·.1)) : roF R s = -1 := roF_no fun j hj e => h (e ▸ List.mem_map_of_mem (roAt_mem hj))
theorem haF_ge {L : List HA} {w s : ByteArray} (h : (w, s) ∈ L) : ∃ i, i < L.length ∧ haF L w s = (i : Int) ∧ haAt L i = (w, s) ∧ ∀ j, j < i → ¬ haAt L j = (w, s) := by
  obtain ⟨i, hi, e⟩ := ha_idx h
  obtain ⟨j, a, b, c⟩ := first_at (p := fun i => (haAt L i).1 = w ∧ (haAt L i).2 = s) L.length ⟨i, hi, by rw [e]; exact ⟨rfl, rfl⟩⟩
  exact ⟨j, a, haF_at a b c, Prod.ext b.1 b.2, fun k hk q => c k hk (by rw [q]; exact ⟨rfl, rfl⟩)⟩
theorem haF_lt {L : List HA} {w s : ByteArray} (h : ¬ (w, s) ∈ L) : haF L w s = -1 := haF_no fun j hj e => h (by have := haAt_mem hj; rwa [show haAt L j = (w, s) from Prod.ext e.1 e.2] at this)
def defS (R : List RO) (x : RO) (k : Int) : Nat → List RO × Bool
  | 0 => ([], false)
  | i + 1 => ((if (!(defS R x k i).2 && !ltS (roAt R i).1 x.1) = true then (defS R x k i).1 ++ [x] else (defS R x k i).1) ++ (if (i : Int) = k then [] else [roAt R i]), (defS R x k i).2 || (!(defS R x k i).2 && !ltS (roAt R i).1 x.1))
section
variable {R : List RO} {x : RO} {k : Int} {i : Nat} {o : List RO} {p : Bool}
theorem defS_yes (hs : defS R x k i = (o, false)) (h : ltS (roAt R i).1 x.1 = false) (hk : ¬ (i : Int) = k) : defS R x k (i + 1) = (o ++ [x] ++ [roAt R i], true) := by rw [defS, hs]; simp [h, hk]
theorem defS_yesK (hs : defS R x k i = (o, false)) (h : ltS (roAt R i).1 x.1 = false) (hk : (i : Int) = k) : defS R x k (i + 1) = (o ++ [x], true) := by rw [defS, hs]; simp [h, hk]
theorem defS_no (hs : defS R x k i = (o, p)) (h : p = true ∨ ltS (roAt R i).1 x.1 = true) (hk : ¬ (i : Int) = k) : defS R x k (i + 1) = (o ++ [roAt R i], p) := by
  rw [defS, hs]; rcases h with h | h <;> simp [h, hk]
theorem defS_noK (hs : defS R x k i = (o, p)) (h : p = true ∨ ltS (roAt R i).1 x.1 = true) (hk : (i : Int) = k) : defS R x k (i + 1) = (o, p) := by
  rw [defS, hs]; rcases h with h | h <;> simp [h, hk]
end
theorem defS_len (R : List RO) (x : RO) (k : Int) (i : Nat) : (defS R x k i).1.length ≤ 2 * i := by
  induction i with
  | zero => simp [defS]
  | succ i ih => rw [defS]; simp only; split <;> split <;> simp <;> omega
def defR (R : List RO) (x : RO) : List RO := R.filter (fun r => ltS r.1 x.1) ++ x :: R.filter (fun r => ltS x.1 r.1)
theorem defS_at {R : List RO} {x : RO} (hR : riseR R) : ∀ i, i ≤ R.length → defS R x (roF R x.1) i = ((R.take i).filter (fun r => ltS r.1 x.1) ++ (if (R.take i).all (fun r => ltS r.1 x.1) = true then [] else x :: (R.take i).filter (fun r => ltS x.1 r.1)), !(R.take i).all (fun r => ltS r.1 x.1)) := by
  intro i
  induction i with
  | zero => intro _; simp [defS]
  | succ i ih =>
    intro hi
    have hb := ih (by omega)
    rw [take_ro (by omega), List.filter_append, List.filter_append, List.all_append, List.filter_cons, List.filter_cons, List.filter_nil, List.filter_nil, List.all_cons, List.all_nil, Bool.and_true]
    cases h1 : ltS (roAt R i).1 x.1 with
    | true =>
      have hall : (R.take i).all (fun r => ltS r.1 x.1) = true := by
        rw [List.all_eq_true]
        intro r hr
        obtain ⟨j, hj⟩ := List.getElem?_of_mem hr
        have hl := (List.getElem?_eq_some_iff.1 hj).1
        rw [List.length_take] at hl
        rw [List.getElem?_take_of_lt (by omega), roAt_some (by omega)] at hj
        rw [← Option.some.inj hj]
        exact ltS_trans (rise_lt hR (j := i) (by omega) (by omega)) h1
      have hk : ¬ (i : Int) = roF R x.1 := by
        intro e
        by_cases hm : x.1 ∈ R.map (·.1)
        · obtain ⟨j, a, b, c⟩ := roF_ge hm
          have : i = j := by omega
          subst this
          rw [c, ltS_irr] at h1; cases h1
        · rw [roF_lt hm] at e; omega
      rw [hall] at hb ⊢
      rw [defS_no hb (.inr h1) hk]
      simp
    | false =>
      by_cases he : (roAt R i).1 = x.1
      · have hall : (R.take i).all (fun r => ltS r.1 x.1) = true := by
          rw [List.all_eq_true]
          intro r hr
          obtain ⟨j, hj⟩ := List.getElem?_of_mem hr
          have hl := (List.getElem?_eq_some_iff.1 hj).1
          rw [List.length_take] at hl
          rw [List.getElem?_take_of_lt (by omega), roAt_some (by omega)] at hj
          rw [← Option.some.inj hj, ← he]
          exact rise_lt hR (by omega) (by omega)
        have hk : (i : Int) = roF R x.1 := by
          rw [roF_at (i := i) (by omega) he]
          intro j hj e
          have := rise_lt hR hj (by omega)
          rw [e, he, ltS_irr] at this; cases this
        rw [hall] at hb ⊢
        rw [defS_yesK hb h1 hk]
        have hf : (R.take i).filter (fun r => ltS x.1 r.1) = [] := by
          rw [List.filter_eq_nil_iff]
          intro r hr
          rw [ltS_asym (List.all_eq_true.1 hall r hr)]; decide
        simp [he, ltS_irr, hf]
      · have h2 : ltS x.1 (roAt R i).1 = true := ltS_tri h1 he
        have hk : ¬ (i : Int) = roF R x.1 := by
          intro e
          by_cases hm : x.1 ∈ R.map (·.1)
          · obtain ⟨j, a, b, c⟩ := roF_ge hm
            have : i = j := by omega
            subst this; exact he c
          · rw [roF_lt hm] at e; omega
        cases hall : (R.take i).all (fun r => ltS r.1 x.1) with
        | true =>
          rw [hall] at hb
          rw [defS_yes hb h1 hk]
          have hf : (R.take i).filter (fun r => ltS x.1 r.1) = [] := by
            rw [List.filter_eq_nil_iff]
            intro r hr
            rw [ltS_asym (List.all_eq_true.1 hall r hr)]; decide
          simp [h2, hf]
        | false =>
          rw [hall] at hb
          rw [defS_no hb (.inl rfl) hk]
          simp [h2]
theorem defS_all {R : List RO} {x : RO} {o : List RO} {p : Bool} (hR : riseR R) (hs : defS R x (roF R x.1) R.length = (o, p)) : (if p = true then o else o ++ [x]) = defR R x := by
  have h := defS_at (x := x) hR R.length (Nat.le_refl _)
  rw [List.take_length, hs] at h
  cases hall : R.all (fun r => ltS r.1 x.1) with
  | true =>
    rw [hall] at h
    injection h with h1 h2
    subst h1 h2
    have hf : R.filter (fun r => ltS x.1 r.1) = [] := by
      rw [List.filter_eq_nil_iff]
      intro r hr
      rw [ltS_asym (List.all_eq_true.1 hall r hr)]; decide
    simp [defR, hf]
  | false =>
    rw [hall] at h
    injection h with h1 h2
    subst h1 h2
    simp [defR]
theorem defR_rise {R : List RO} {x : RO} (hR : riseR R) : riseR (defR R x) := by
  unfold riseR defR
  rw [List.pairwise_append]
  refine ⟨hR.filter _, ?_, ?_⟩
  · rw [List.pairwise_cons]
    exact ⟨fun r hr => (List.mem_filter.1 hr).2, hR.filter _⟩
  · intro a ha b hb
    have h1 := (List.mem_filter.1 ha).2
    rcases List.mem_cons.1 hb with rfl | hb
    · exact h1
    · exact ltS_trans h1 (List.mem_filter.1 hb).2
theorem defR_mem {R : List RO} {x y : RO} : y ∈ defR R x ↔ y = x ∨ (y ∈ R ∧ ¬ y.1 = x.1) := by
  unfold defR
  rw [List.mem_append, List.mem_cons, List.mem_filter, List.mem_filter]
  constructor
  · rintro (⟨a, b⟩ | rfl | ⟨a, b⟩)
    · exact .inr ⟨a, ltS_ne b⟩
    · exact .inl rfl
    · exact .inr ⟨a, fun e => ltS_ne b e.symm⟩
  · rintro (rfl | ⟨a, b⟩)
    · exact .inr (.inl rfl)
    · cases h : ltS y.1 x.1 with
      | true => exact .inl ⟨a, rfl⟩
      | false => exact .inr (.inr ⟨a, ltS_tri h b⟩)
theorem defR_names {R : List RO} {x : RO} {s : ByteArray} : s ∈ (defR R x).map (·.1) ↔ s = x.1 ∨ s ∈ R.map (·.1) := by
  constructor
  · intro h
    obtain ⟨y, hy, rfl⟩ := List.mem_map.1 h
    rcases defR_mem.1 hy with rfl | ⟨a, _⟩
    · exact .inl rfl
    · exact .inr (List.mem_map_of_mem a)
  · rintro (rfl | h)
    · exact List.mem_map.2 ⟨x, defR_mem.2 (.inl rfl), rfl⟩
    · obtain ⟨y, hy, rfl⟩ := List.mem_map.1 h
      by_cases e : y.1 = x.1
      · rw [e]; exact List.mem_map.2 ⟨x, defR_mem.2 (.inl rfl), rfl⟩
      · exact List.mem_map_of_mem (defR_mem.2 (.inr ⟨hy, e⟩))
theorem rise_names {R : List RO} (h : riseR R) : (R.map (·.1)).Nodup := by
  unfold List.Nodup
  rw [List.pairwise_map]
  exact h.imp fun q => ltS_ne q
def insK (s : ByteArray) (st : List ByteArray × Bool) (x : ByteArray) : List ByteArray × Bool :=
  if (st.2 || decide (x = s)) = true then (st.1 ++ [x], true) else if (ltS x s || decide (x = s)) = true then (st.1 ++ [x], false) else (st.1 ++ [s] ++ [x], true)
def insW (l : List ByteArray) (s : ByteArray) : List ByteArray := if (l.foldl (insK s) ([], false)).2 = true then (l.foldl (insK s) ([], false)).1 else (l.foldl (insK s) ([], false)).1 ++ [s]
def insN (l : List ByteArray) (s : ByteArray) (k : Nat) : List ByteArray × Bool := (l.take k).foldl (insK s) ([], false)
theorem insK_1 {s x : ByteArray} {a : List ByteArray} {p : Bool} (h : p = true ∨ x = s) : insK s (a, p) x = (a ++ [x], true) := by
  unfold insK; rw [if_pos (by rcases h with h | h <;> simp [h])]
theorem insK_2 {s x : ByteArray} {a : List ByteArray} (h : ¬ x = s) (h2 : ltS x s = true) : insK s (a, false) x = (a ++ [x], false) := by
  unfold insK; rw [if_neg (by simp [h]), if_pos (by simp [h2])]
theorem insK_3 {s x : ByteArray} {a : List ByteArray} (h : ¬ x = s) (h2 : ltS x s = false) : insK s (a, false) x = (a ++ [s] ++ [x], true) := by
  unfold insK; rw [if_neg (by simp [h]), if_neg (by simp [h, h2])]
section
variable {l o : List ByteArray} {s : ByteArray} {k : Nat} {p : Bool}
theorem insN_succ (hk : k < l.length) : insN l s (k + 1) = insK s (insN l s k) (strAt l k) := by unfold insN; rw [take_str1 hk, List.foldl_append]; rfl
theorem insN_put (hk : k < l.length) (hs : insN l s k = (o, p)) (h : p = true ∨ strAt l k = s) : insN l s (k + 1) = (o ++ [strAt l k], true) := by
  rw [insN_succ hk, hs, insK_1 h]
theorem insN_pass (hk : k < l.length) (hs : insN l s k = (o, false)) (h : ¬ strAt l k = s) (h2 : ltS (strAt l k) s = true) : insN l s (k + 1) = (o ++ [strAt l k], false) := by
  rw [insN_succ hk, hs, insK_2 h h2]
theorem insN_new (hk : k < l.length) (hs : insN l s k = (o, false)) (h : ¬ strAt l k = s) (h2 : ltS (strAt l k) s = false) : insN l s (k + 1) = (o ++ [s] ++ [strAt l k], true) := by
  rw [insN_succ hk, hs, insK_3 h h2]
theorem insN_all (hs : insN l s l.length = (o, p)) : insW l s = if p = true then o else o ++ [s] := by
  unfold insN at hs; rw [List.take_length] at hs; rw [insW, hs]
end
theorem insN_len (l : List ByteArray) (s : ByteArray) (k : Nat) : (insN l s k).1.length ≤ 2 * l.length := by
  have key : ∀ (l : List ByteArray) (st : List ByteArray × Bool), (l.foldl (insK s) st).1.length ≤ st.1.length + 2 * l.length := by
    intro l
    induction l with
    | nil => intro st; simp
    | cons x l ih =>
      intro st
      rw [List.foldl_cons]
      refine Nat.le_trans (ih _) ?_
      unfold insK
      split
      · simp; omega
      · split <;> simp <;> omega
  have h := key (l.take k) ([], false)
  unfold insN
  have h2 : (l.take k).length ≤ l.length := by rw [List.length_take]; omega
  simp only [List.length_nil, Nat.zero_add] at h
  omega
def ins2 (s : ByteArray) : List ByteArray → List ByteArray
  | [] => [s]
  | x :: l => if x = s then x :: l else if ltS x s = true then x :: ins2 s l else s :: x :: l
theorem fold_put (s : ByteArray) : ∀ (l a : List ByteArray), l.foldl (insK s) (a, true) = (a ++ l, true) := by
  intro l
  induction l with
  | nil => intro a; simp
  | cons x l ih => intro a; rw [List.foldl_cons, insK_1 (.inl rfl), ih]; simp
theorem insW_eq (l : List ByteArray) (s : ByteArray) : insW l s = ins2 s l := by
  have key : ∀ (l a : List ByteArray), (if (l.foldl (insK s) (a, false)).2 = true then (l.foldl (insK s) (a, false)).1 else (l.foldl (insK s) (a, false)).1 ++ [s]) = a ++ ins2 s l := by
    intro l
    induction l with
    | nil => intro a; simp [ins2]
    | cons x l ih =>
      intro a
      rw [List.foldl_cons, ins2]
      by_cases h : x = s
      · rw [insK_1 (.inr h), fold_put, if_pos h]; simp
      · cases h2 : ltS x s with
        | true => rw [insK_2 h h2, ih, if_neg h, if_pos rfl]; simp
        | false => rw [insK_3 h h2, fold_put, if_neg h]; simp
  have h := key l []
  rw [List.nil_append] at h
  exact h
abbrev riseS (l : List ByteArray) : Prop := l.Pairwise fun a b => ltS a b = true
theorem ins2_mem {s y : ByteArray} : ∀ {l : List ByteArray}, y ∈ ins2 s l ↔ y = s ∨ y ∈ l := by
  intro l
  induction l with
  | nil => simp [ins2]
  | cons x l ih =>
    rw [ins2]
    split
    · rename_i h; subst h; simp
    · split
      · rw [List.mem_cons, ih, List.mem_cons]
        constructor
        · rintro (h | h | h)
          · exact .inr (.inl h)
          · exact .inl h
          · exact .inr (.inr h)
        · rintro (h | h | h)
          · exact .inr (.inl h)
          · exact .inl h
          · exact .inr (.inr h)
      · simp
theorem ins2_rise {s : ByteArray} : ∀ {l : List ByteArray}, riseS l → riseS (ins2 s l) := by
  intro l
  induction l with
  | nil => intro _; exact List.pairwise_singleton _ _
  | cons x l ih =>
    intro h
    obtain ⟨h1, h2⟩ := List.pairwise_cons.1 h
    rw [ins2]
    split
    · exact h
    · rename_i hne
      split
      · rename_i hlt
        refine List.pairwise_cons.2 ⟨fun y hy => ?_, ih h2⟩
        rcases ins2_mem.1 hy with rfl | hy
        · exact hlt
        · exact h1 y hy
      · rename_i hlt
        have hsx : ltS s x = true := ltS_tri (by simpa using hlt) hne
        refine List.pairwise_cons.2 ⟨fun y hy => ?_, h⟩
        rcases List.mem_cons.1 hy with rfl | hy
        · exact hsx
        · exact ltS_trans hsx (h1 y hy)
def peoL (L : List HA) : List ByteArray := L.foldl (fun a h => insW a h.1) []
theorem peoL_take {L : List HA} {i : Nat} (hi : i < L.length) : peoL (L.take (i + 1)) = insW (peoL (L.take i)) (haAt L i).1 := by unfold peoL; rw [take_ha hi, List.foldl_append]; rfl
theorem peo_all (L : List HA) : (∀ s, s ∈ peoL L ↔ s ∈ L.map (·.1)) ∧ riseS (peoL L) := by
  have key : ∀ (L : List HA) (a : List ByteArray), riseS a → (∀ s, s ∈ L.foldl (fun a h => insW a h.1) a ↔ s ∈ a ∨ s ∈ L.map (·.1)) ∧ riseS (L.foldl (fun a h => insW a h.1) a) := by
    intro L
    induction L with
    | nil => intro a h; simpa using h
    | cons x L ih =>
      intro a h
      rw [List.foldl_cons, insW_eq]
      obtain ⟨h1, h2⟩ := ih (ins2 x.1 a) (ins2_rise h)
      refine ⟨fun s => ?_, h2⟩
      rw [h1, ins2_mem, List.map_cons, List.mem_cons]
      constructor
      · rintro ((h | h) | h)
        · exact .inr (.inl h)
        · exact .inl h
        · exact .inr (.inr h)
      · rintro (h | h | h)
        · exact .inl (.inr h)
        · exact .inl (.inl h)
        · exact .inr h
  have h := key L [] List.Pairwise.nil
  simpa [peoL] using h
theorem rise_nodup {l : List ByteArray} (h : riseS l) : l.Nodup := h.imp fun q => ltS_ne q
theorem peo_len (L : List HA) : (peoL L).length ≤ L.length := by
  have h := List.Nodup.length_le_of_subset (rise_nodup (peo_all L).2) (l₂ := L.map (·.1)) (fun s hs => ((peo_all L).1 s).1 hs)
  rwa [List.length_map] at h
def defK (R : List RO) (nm : ByteArray) : Int := if nameC nm = 0 then (if roF R nm < 0 ∧ 16 ≤ R.length then 7 else 0) else nameC nm
def graK (R : List RO) (L : List HA) (who role : ByteArray) : Int := if nameC who = 0 then (if roF R role < 0 then 8 else if 0 ≤ haF L who role then 9 else if ¬ (∃ j, j < L.length ∧ (haAt L j).1 = who) ∧ 64 ≤ (peoL L).length then 7 else 0) else nameC who
def hitM (R : List RO) (who : ByteArray) (op : Int) (h : HA) : Prop := h.1 = who ∧ op ∈ (roAt R (roF R h.2).toNat).2.2 ∧ 1 ≤ op ∧ op ≤ 18
instance (R : List RO) (who : ByteArray) (op : Int) (h : HA) : Decidable (hitM R who op h) := inferInstanceAs (Decidable (_ ∧ _))
def mayR (R : List RO) (L : List HA) (who : ByteArray) (op : Int) : Bool := decide (∃ h ∈ L, hitM R who op h)
theorem mayR_yes {R : List RO} {L : List HA} {who : ByteArray} {op : Int} {i : Nat} (hi : i < L.length) (h : hitM R who op (haAt L i)) : mayR R L who op = true := decide_eq_true ⟨_, haAt_mem hi, h⟩
theorem mayR_no {R : List RO} {L : List HA} {who : ByteArray} {op : Int} (h : ∀ i, i < L.length → ¬ hitM R who op (haAt L i)) : mayR R L who op = false := decide_eq_false (by
  rintro ⟨x, hx, hh⟩
  obtain ⟨i, hi, rfl⟩ := ha_idx hx
  exact h i hi hh)
def knoH (L : List HA) (who : ByteArray) (i : Nat) : Bool := (L.take i).any fun h => decide (h.1 = who)
theorem knoH_succ {L : List HA} {who : ByteArray} {i : Nat} (hi : i < L.length) : knoH L who (i + 1) = (knoH L who i || decide ((haAt L i).1 = who)) := by unfold knoH; rw [take_ha hi, List.any_append]; simp
theorem knoH_all {L : List HA} {who : ByteArray} {i : Nat} (hi : i = L.length) : knoH L who i = true ↔ ∃ j, j < L.length ∧ (haAt L j).1 = who := by
  subst hi
  unfold knoH
  rw [List.take_length, List.any_eq_true]
  constructor
  · rintro ⟨x, hx, h⟩
    obtain ⟨j, hj, rfl⟩ := ha_idx hx
    exact ⟨j, hj, of_decide_eq_true h⟩
  · rintro ⟨j, hj, h⟩; exact ⟨_, haAt_mem hj, decide_eq_true h⟩
def eraH (L : List HA) (k : Nat) : List HA := L.take k ++ L.drop (k + 1)
def eraI (L : List HA) (k i : Nat) : List HA := (L.take i).eraseIdx k
theorem eraI_ne {L : List HA} {k i : Nat} (hi : i < L.length) (hk : ¬ i = k) : eraI L k (i + 1) = eraI L k i ++ [haAt L i] := by
  unfold eraI
  rw [take_ha hi]
  have hl : (L.take i).length = i := by rw [List.length_take]; omega
  by_cases h : k < i
  · rw [List.eraseIdx_append_of_lt_length (by omega)]
  · rw [List.eraseIdx_append_of_length_le (by omega), List.eraseIdx_of_length_le (l := L.take i) (by omega), List.eraseIdx_of_length_le (by simp; omega)]
theorem eraI_eq {L : List HA} {k i : Nat} (hi : i < L.length) (hk : i = k) : eraI L k (i + 1) = eraI L k i := by
  unfold eraI
  subst hk
  rw [take_ha hi]
  have hl : (L.take i).length = i := by rw [List.length_take]; omega
  rw [List.eraseIdx_append_of_length_le (by omega), List.eraseIdx_of_length_le (l := L.take i) (by omega), hl, Nat.sub_self]
  simp
theorem eraI_all (L : List HA) (k : Nat) : eraI L k L.length = eraH L k := by unfold eraI eraH; rw [List.take_length, List.eraseIdx_eq_take_drop_succ]
theorem eraI_len (L : List HA) (k i : Nat) : (eraI L k i).length ≤ i := by
  have h := (List.eraseIdx_sublist (L.take i) k).length_le
  unfold eraI
  have : (L.take i).length ≤ i := by rw [List.length_take]; omega
  omega
theorem hit_yes {R : List RO} {x : HA} {who : ByteArray} {op : Int} {fi k : Nat} (hw : x.1 = who) (hfe : roF R x.2 = (fi : Int)) (hk : k < (roAt R fi).2.2.length) (h : intAt (roAt R fi).2.2 k = op) (h1 : 1 ≤ op) (h2 : op ≤ 18) : hitM R who op x := by
  refine ⟨hw, ?_, h1, h2⟩
  rw [hfe, Int.toNat_natCast, ← h]
  exact List.mem_of_getElem? (intAt_some hk)
theorem hit_no {R : List RO} {x : HA} {who : ByteArray} {op : Int} {fi : Nat} (hfe : roF R x.2 = (fi : Int)) (h : ∀ j, j < (roAt R fi).2.2.length → ¬ (intAt (roAt R fi).2.2 j = op ∧ 1 ≤ op ∧ op ≤ 18)) : ¬ hitM R who op x := by
  rintro ⟨_, hm, h1, h2⟩
  rw [hfe, Int.toNat_natCast] at hm
  obtain ⟨j, hj⟩ := List.getElem?_of_mem hm
  have hl := (List.getElem?_eq_some_iff.1 hj).1
  rw [intAt_some hl] at hj
  exact h j hl ⟨Option.some.inj hj, h1, h2⟩
theorem sgt_is {x s : ByteArray} (h : (ltS x s || decide (x = s)) = false) : ltS x s = false := by
  cases k : ltS x s with
  | false => rfl
  | true => rw [k] at h; cases h
theorem sgt_no {x s : ByteArray} (h : (ltS x s || decide (x = s)) = true) (hne : ¬ x = s) : ltS x s = true := by
  rw [decide_eq_false hne, Bool.or_false] at h; exact h
def defX (R : List RO) (x : RO) : List RO := if defK R x.1 = 0 then defR R x else R
def graX (R : List RO) (L : List HA) (who role : ByteArray) : List HA := if graK R L who role = 0 then L ++ [(who, role)] else L
def revK (L : List HA) (who role : ByteArray) : Int := if haF L who role < 0 then 8 else 0
def revX (L : List HA) (who role : ByteArray) : List HA := if haF L who role < 0 then L else eraH L (haF L who role).toNat
theorem okRo_def {w : World} {R : List RO} {x : RO} (h : okRo w R) (hx : Sl w x.2.1 1 x.2.2.length (x.2.2.map (Value.int .i64))) : okRo w (defX R x) := by
  unfold defX
  split
  · intro y hy
    rcases defR_mem.1 hy with rfl | ⟨a, _⟩
    · exact hx
    · exact h y a
  · exact h
theorem defX_len (R : List RO) (x : RO) (hR : riseR R) : (defX R x).length ≤ R.length + 1 := by
  unfold defX
  split
  · have h := List.Nodup.length_le_of_subset (rise_names (defR_rise (x := x) hR)) (l₂ := x.1 :: R.map (·.1)) (fun s hs => by
      rcases defR_names.1 hs with rfl | h
      · exact List.mem_cons_self
      · exact List.mem_cons_of_mem _ h)
    simpa using h
  · omega
theorem graX_len (R : List RO) (L : List HA) (w s : ByteArray) : (graX R L w s).length ≤ L.length + 1 := by
  unfold graX; split <;> simp
theorem revX_len (L : List HA) (w s : ByteArray) : (revX L w s).length ≤ L.length := by
  unfold revX
  split
  · exact Nat.le_refl _
  · unfold eraH; rw [← List.eraseIdx_eq_take_drop_succ]; exact (List.eraseIdx_sublist _ _).length_le
end Go.Mo
