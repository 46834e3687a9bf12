/- What records tell: those who did something, rising; how long, the reference's way. -/
import Derived.Test.YtdbkmpnknkldlaaHHisW
set_option linter.unusedVariables false
set_option linter.unusedSimpArgs false
namespace Go.Mo
open Go.RowKit Go.Lib Go.Sort Go.Proofs
def ltS (p q : ByteArray) : Bool := Op.bytesLess p.toList q.toList
theorem bo_sgeq {P : Program} {x y : Operand} {w : World} {T : TypeId} {p q : ByteArray} : Bo P .geq T x y (.string p) (.string q) w (.bool (!ltS p q)) := bo_of guard_str (by simp [binOp, Op.stringOp, Sem.run, ltS])
theorem ltS_eq (p q : ByteArray) : ltS p q = decide (p.data.toList < q.data.toList) := by rw [ltS, bytesLess_eq, ByteArray.toList_eq, ByteArray.toList_eq]
theorem leU_total (x y : List UInt8) : x ≤ y ∨ y ≤ x := List.le_total x y
theorem leU_trans {x y z : List UInt8} (h : x ≤ y) (k : y ≤ z) : x ≤ z := List.le_trans h k
theorem leU_anti {x y : List UInt8} (h : x ≤ y) (k : y ≤ x) : x = y := List.le_antisymm h k
theorem ltU_of {x y : List UInt8} (h : x ≤ y) (hne : ¬ x = y) : x < y := by
  apply Classical.byContradiction
  intro q
  exact hne (leU_anti h q)
theorem sortU_pairwise (z : List (List UInt8)) : (z.mergeSort fun x y => decide (x ≤ y)).Pairwise (· ≤ ·) := by
  have h := List.pairwise_mergeSort (le := fun x y : List UInt8 => decide (x ≤ y)) (fun a b c h k => decide_eq_true (leU_trans (of_decide_eq_true h) (of_decide_eq_true k))) (fun a b => by
    rcases leU_total a b with h | h
    · simp [h]
    · simp [h]) z
  exact h.imp fun h => of_decide_eq_true h
theorem compactU {z : List (List UInt8)} (hz : z.Pairwise (· ≤ ·)) : ∀ m, m ≤ z.length → (∀ x, x ∈ compactUpTo z.toArray m ↔ x ∈ z.take m) ∧ (compactUpTo z.toArray m).Pairwise (· < ·) := by
  intro m
  induction m with
  | zero => intro _; simp [compactUpTo]
  | succ m ih =>
    intro hm
    obtain ⟨h1, h2⟩ := ih (by omega)
    have hg : z.toArray[m]! = z[m]'(by omega) := by simp [show m < z.length by omega]
    have ht : z.take (m + 1) = z.take m ++ [z[m]'(by omega)] := by rw [List.take_add_one, List.getElem?_eq_getElem (by omega)]; rfl
    rw [compactUpTo_succ, ht, hg]
    have hle : ∀ y, y ∈ z.take m → y ≤ z[m]'(by omega) := by
      intro y hy
      have hp : (z.take m ++ [z[m]'(by omega)]).Pairwise (· ≤ ·) := by rw [← ht]; exact hz.sublist (List.take_sublist _ _)
      exact (List.pairwise_append.1 hp).2.2 y hy _ (by simp)
    by_cases hk : keeps z.toArray m = true
    · rw [if_pos hk]
      refine ⟨fun x => by rw [List.mem_append, List.mem_append, h1], ?_⟩
      rw [List.pairwise_append]
      refine ⟨h2, List.pairwise_singleton _ _, ?_⟩
      intro y hy u hu
      rw [List.mem_singleton] at hu
      subst hu
      have hy2 := (h1 y).1 hy
      refine ltU_of (hle y hy2) ?_
      intro e
      have hm0 : 0 < m := by
        rcases Nat.eq_zero_or_pos m with rfl | h
        · simp at hy2
        · exact h
      have hg1 : z.toArray[m - 1]! = z[m - 1]'(by omega) := by simp [show m - 1 < z.length by omega]
      have hne : ¬ z[m]'(by omega) = z[m - 1]'(by omega) := by
        rw [keeps, decide_eq_true_eq, hg, hg1] at hk
        rcases hk with hk | hk
        · omega
        · exact hk
      have hlast : y ≤ z[m - 1]'(by omega) := by
        obtain ⟨j, hj⟩ := List.getElem?_of_mem hy2
        have hjl := (List.getElem?_eq_some_iff.1 hj).1
        rw [List.length_take] at hjl
        rw [List.getElem?_take_of_lt (by omega), List.getElem?_eq_getElem (by omega)] at hj
        have hj := Option.some.inj hj
        by_cases e2 : j = m - 1
        · subst e2; rw [hj]; exact List.le_refl _
        · rw [← hj]; exact (List.pairwise_iff_getElem.1 hz) j (m - 1) (by omega) (by omega) (by omega)
      have hmm : z[m - 1]'(by omega) ≤ z[m]'(by omega) := (List.pairwise_iff_getElem.1 hz) (m - 1) m (by omega) (by omega) (by omega)
      rw [e] at hlast
      exact hne (leU_anti hlast hmm)
    · rw [if_neg hk, List.append_nil]
      have hm0 : 0 < m := by
        rcases Nat.eq_zero_or_pos m with rfl | h
        · exact absurd (by simp [keeps]) hk
        · exact h
      have hg1 : z.toArray[m - 1]! = z[m - 1]'(by omega) := by simp [show m - 1 < z.length by omega]
      have he : z[m]'(by omega) = z[m - 1]'(by omega) := by
        apply Classical.byContradiction
        intro q
        exact hk (by rw [keeps, decide_eq_true_eq, hg, hg1]; exact .inr q)
      refine ⟨fun x => ?_, h2⟩
      rw [h1, List.mem_append, List.mem_singleton]
      constructor
      · exact .inl
      · rintro (h | h)
        · exact h
        · rw [h, he]
          refine List.mem_of_getElem? (i := m - 1) ?_
          rw [List.getElem?_take_of_lt (by omega), List.getElem?_eq_getElem (by omega)]
theorem compactU_all {z : List (List UInt8)} (hz : z.Pairwise (· ≤ ·)) : (∀ x, x ∈ compact z ↔ x ∈ z) ∧ (compact z).Pairwise (· < ·) := by
  have h := compactU hz z.length (Nat.le_refl _)
  rw [List.take_length] at h
  exact h
theorem data_back (b : ByteArray) : (⟨b.data.toList.toArray⟩ : ByteArray) = b := by cases b; simp
theorem mem_backS {z : List (List UInt8)} {b : ByteArray} : b ∈ backS z ↔ b.data.toList ∈ z := by
  unfold backS
  rw [List.mem_map]
  constructor
  · rintro ⟨x, hx, rfl⟩; simpa using hx
  · exact fun h => ⟨_, h, data_back b⟩
theorem mem_strL {l : List ByteArray} {b : ByteArray} : b.data.toList ∈ strL l ↔ b ∈ l := by
  unfold strL
  rw [List.mem_map]
  constructor
  · rintro ⟨x, hx, e⟩; rw [← data_back b, ← e, data_back]; exact hx
  · exact fun h => ⟨b, h, rfl⟩
theorem strL_back (z : List (List UInt8)) : strL (backS z) = z := by simp [strL, backS, Function.comp_def]
theorem actL_mem {l : List Rec} {b : ByteArray} : b ∈ actL l ↔ b ∈ l.map (·.actor) := by
  unfold actL compactS sortS
  rw [mem_backS, strL_back, (compactU_all (sortU_pairwise _)).1, List.mem_mergeSort, mem_strL]
theorem actL_rise (l : List Rec) : (actL l).Pairwise fun a b => ltS a b = true := by
  unfold actL compactS sortS
  rw [strL_back]
  have h := (compactU_all (sortU_pairwise (strL (l.map (·.actor))))).2
  unfold backS
  rw [List.pairwise_map]
  refine h.imp ?_
  intro a b hab
  rw [ltS_eq]; simpa using hab
theorem actL_at {l : List Rec} {i : Nat} (h0 : 0 < i) (hi : i < (actL l).length) : ltS (strAt (actL l) (i - 1)) (strAt (actL l) i) = true := by
  have h := (List.pairwise_iff_getElem.1 (actL_rise l)) (i - 1) i (by omega) hi (by omega)
  have e1 := strAt_some (l := actL l) (i := i - 1) (by omega)
  have e2 := strAt_some hi
  rw [List.getElem?_eq_getElem (by omega)] at e1 e2
  rw [← Option.some.inj e1, ← Option.some.inj e2]; exact h
theorem actL_len (l : List Rec) : (actL l).length ≤ l.length := by
  unfold actL compactS
  rw [backS_len]
  refine Nat.le_trans (compact_le _) ?_
  rw [strL_len, sortS_len, List.length_map]; exact Nat.le_refl _
def tmR (M : List Rec) (t : Int) (i : Nat) : Int := if i < M.length then (recAt M i).time else t
def rspT (a : A32) (M : List Rec) (t : Int) (i : Nat) : Int := if heldH (hF a (M.take (i + 1))) = true then tmR M t (i + 1) - (recAt M i).time else 0
def rspK (a : A32) (M : List Rec) (t : Int) : Nat → Int
  | 0 => 0
  | k + 1 => rspK a M t k + rspT a M t k
theorem nF_take {a : A32} {M : List Rec} {t : Int} (hM : ∀ r ∈ M, r.clip = a) : ∀ k, k < M.length → nF a (M.take (k + 1)) = rspK a M t k ∧ lastF a (M.take (k + 1)) = (recAt M k).time := by
  intro k
  induction k with
  | zero =>
    intro h
    rw [take_recs h, List.take_zero]
    have hc := hM _ (recAt_mem h)
    exact ⟨by rw [sp_free hc rfl]; rfl, by rw [sp_last hc]⟩
  | succ k ih =>
    intro h
    obtain ⟨h1, h2⟩ := ih (by omega)
    rw [take_recs (i := k + 1) h]
    have hc := hM _ (recAt_mem h)
    refine ⟨?_, by rw [sp_last hc]⟩
    rw [rspK]
    unfold rspT tmR
    rw [if_pos h]
    cases hh : heldH (hF a (M.take (k + 1))) with
    | true => rw [sp_held hc hh, h1, h2, if_pos rfl]
    | false => rw [sp_free hc hh, h1, if_neg (by decide)]; omega
theorem spF_mine (a : A32) : ∀ q : List Rec, spF a q = spF a (q.filter fun r => decide (r.clip = a)) := by
  intro q
  induction q using rev_ind with
  | h0 => rfl
  | h1 q x ih =>
    rw [spF_snoc, List.filter_append]
    by_cases h : x.clip = a
    · have e : [x].filter (fun r => decide (r.clip = a)) = [x] := by simp [h]
      rw [e, spF_snoc, ← ih]
    · have e : [x].filter (fun r => decide (r.clip = a)) = [] := by simp [h]
      rw [e, List.append_nil, ← ih, spStep, if_neg h]
theorem mine_eq (l : List Rec) (a : A32) (t : Int) : (l.filter (uT t)).filter (fun r => decide (r.clip = a)) = l.filter (mineB a t) := by rw [List.filter_filter]; rfl
theorem mine_of {l : List Rec} {a : A32} {t : Int} {r : Rec} (h : r ∈ l.filter (mineB a t)) : r ∈ l ∧ r.clip = a ∧ r.time ≤ t := by
  have h := List.mem_filter.1 h
  have h2 := h.2
  simp only [mineB, uT, Bool.and_eq_true, decide_eq_true_eq] at h2
  exact ⟨h.1, h2⟩
theorem hF_mine (l : List Rec) (a : A32) (t : Int) : hOf l a t = hF a (l.filter (mineB a t)) := by
  rw [hOf, ← spF_state, spF_mine, mine_eq, spF_state]
theorem span_ref (l : List Rec) (a : A32) (t : Int) : spanL l a t = rspK a (l.filter (mineB a t)) t (l.filter (mineB a t)).length := by
  have hn : nF a (l.filter (uT t)) = nF a (l.filter (mineB a t)) := by unfold nF; rw [spF_mine, mine_eq]
  have hl : lastF a (l.filter (uT t)) = lastF a (l.filter (mineB a t)) := by unfold lastF; rw [spF_mine, mine_eq]
  rw [spanL, hF_mine, hn, hl]
  generalize hMe : l.filter (mineB a t) = M
  have hM : ∀ r ∈ M, r.clip = a := fun r hr => (mine_of (hMe ▸ hr)).2.1
  rcases Nat.eq_zero_or_pos M.length with h0 | h0
  · rw [List.eq_nil_of_length_eq_zero h0]; rfl
  · obtain ⟨k, hk⟩ : ∃ k, M.length = k + 1 := ⟨M.length - 1, by omega⟩
    have ht : M.take (k + 1) = M := List.take_of_length_le (by omega)
    obtain ⟨h1, h2⟩ := nF_take (t := t) hM k (by omega)
    rw [ht] at h1 h2
    rw [hk, rspK]
    unfold rspT tmR
    rw [ht, if_neg (show ¬ k + 1 < M.length by omega), h1, h2]
    split <;> omega
theorem of_take {M : List Rec} {a : A32} {t : Int} (hM : ∀ r ∈ M, r.time ≤ t) (k : Nat) : hOf (M.take k) a t = hF a (M.take k) := by
  rw [hOf, show (M.take k).filter (uT t) = M.take k from List.filter_eq_self.2 fun r hr => decide_eq_true (hM r (List.mem_of_mem_take hr))]
theorem rsp_le {a : A32} {M : List Rec} {t : Int} (hs : M.Pairwise fun x y => x.time ≤ y.time) (hM : ∀ r ∈ M, r.time ≤ t) : ∀ k, k ≤ M.length → 0 ≤ rspK a M t k ∧ rspK a M t k ≤ tmR M t k - tmR M t 0 := by
  intro k
  induction k with
  | zero => intro _; simp [rspK]
  | succ k ih =>
    intro h
    obtain ⟨h1, h2⟩ := ih (by omega)
    have hk : tmR M t k = (recAt M k).time := by rw [tmR, if_pos (by omega)]
    have hle : tmR M t k ≤ tmR M t (k + 1) := by
      rw [hk]; unfold tmR
      split
      · rename_i h3
        have := (List.pairwise_iff_getElem.1 hs) k (k + 1) (by omega) h3 (by omega)
        have e1 := recAt_some (l := M) (i := k) (by omega)
        have e2 := recAt_some h3
        rw [List.getElem?_eq_getElem (by omega)] at e1 e2
        rw [← Option.some.inj e1, ← Option.some.inj e2]; exact this
      · exact hM _ (recAt_mem (by omega))
    rw [rspK]
    unfold rspT
    split
    · rw [← hk]; omega
    · omega
theorem rise_of {l : List Rec} (h : ∀ j, 0 < j → j < l.length → (recAt l (j - 1)).time ≤ (recAt l j).time) : l.Pairwise fun x y => x.time ≤ y.time := by
  rw [List.pairwise_iff_getElem]
  have key : ∀ d i, i + d < l.length → (recAt l i).time ≤ (recAt l (i + d)).time := by
    intro d
    induction d with
    | zero => intro i _; exact Int.le_refl _
    | succ d ih => intro i hi; have h1 := ih i (by omega); have h2 := h (i + (d + 1)) (by omega) hi; rw [show i + (d + 1) - 1 = i + d by omega] at h2; omega
  intro i j hi hj hij
  have h1 := key (j - i) i (by omega)
  rw [show i + (j - i) = j by omega] at h1
  have e1 := recAt_some hi
  have e2 := recAt_some hj
  rw [List.getElem?_eq_getElem (by omega)] at e1 e2
  rw [Option.some.inj e1, Option.some.inj e2]; exact h1
theorem span_in {l : List Rec} {a : A32} {t : Int} (hs : l.Pairwise fun x y => x.time ≤ y.time) (h0 : ∀ r ∈ l, 0 ≤ r.time) (ht : 0 ≤ t) : 0 ≤ spanL l a t ∧ spanL l a t ≤ t := by
  rw [span_ref]
  generalize hMe : l.filter (mineB a t) = M
  have hM : ∀ r ∈ M, r ∈ l ∧ r.clip = a ∧ r.time ≤ t := fun r hr => mine_of (hMe ▸ hr)
  have hsM : M.Pairwise fun x y => x.time ≤ y.time := by rw [← hMe]; exact hs.filter _
  obtain ⟨h1, h2⟩ := rsp_le (a := a) hsM (fun r hr => (hM r hr).2.2) M.length (Nat.le_refl _)
  refine ⟨h1, ?_⟩
  have e1 : tmR M t M.length = t := by rw [tmR, if_neg (by omega)]
  have e2 : 0 ≤ tmR M t 0 := by
    unfold tmR
    split
    · rename_i h3; exact h0 _ (hM _ (recAt_mem h3)).1
    · exact ht
  omega
theorem rsp_bound {a : A32} {M : List Rec} {t : Int} (h : ∀ r ∈ M, 0 ≤ r.time ∧ r.time ≤ 1099511627776) (ht : 0 ≤ t ∧ t ≤ 1099511627776) : ∀ k, k ≤ M.length → -(1099511627776 * (k : Int)) ≤ rspK a M t k ∧ rspK a M t k ≤ 1099511627776 * (k : Int) := by
  intro k
  induction k with
  | zero => intro _; simp [rspK]
  | succ k ih =>
    intro hk
    obtain ⟨h1, h2⟩ := ih (by omega)
    have h3 := h _ (recAt_mem (l := M) (i := k) (by omega))
    have h4 : 0 ≤ tmR M t (k + 1) ∧ tmR M t (k + 1) ≤ 1099511627776 := by
      unfold tmR
      split
      · rename_i q; exact h _ (recAt_mem q)
      · exact ht
    rw [rspK]
    unfold rspT
    split <;> omega
theorem all_recs {l : List Rec} {p : Rec → Prop} (h : ∀ j, j < l.length → p (recAt l j)) : ∀ r ∈ l, p r := by
  intro r hr
  obtain ⟨j, hj⟩ := List.getElem?_of_mem hr
  have hl := (List.getElem?_eq_some_iff.1 hj).1
  rw [recAt_some hl] at hj
  rw [← Option.some.inj hj]; exact h j hl
theorem act_in {l : List Rec} {i : Nat} (h : i < l.length) : (recAt l i).actor ∈ actL l := actL_mem.2 (List.mem_map_of_mem (recAt_mem h))
theorem byN_take {l : List Rec} {nm : ByteArray} {k : Int} {i : Nat} (hi : i < l.length) : byN (l.take (i + 1)) nm k = if (recAt l i).actor = nm ∧ (recAt l i).kind = k then byN (l.take i) nm k + 1 else byN (l.take i) nm k := by
  rw [take_recs hi]
  split
  · rename_i h; exact byN_yes h.1 h.2
  · rename_i h; exact byN_no h
end Go.Mo
