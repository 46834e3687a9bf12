/- The text that the most clips have: plain laws. -/
import Derived.Test.YtblpmjbddpadcaaZBinM
import Derived.Test.YtblpmjbddpadcaaZBinK
import Derived.Test.YtblpmjbddpadcaaZRng
set_option linter.unusedVariables false
set_option linter.unusedSimpArgs false
namespace Go.Mo
open Go.RowKit Go.Lib
theorem cniE_born : ∀ (l : List (Int × Int)) (k : Nat), ∀ e ∈ cniE k l, k ≤ e.born ∧ e.born < k + l.length
  | [], _ => fun e he => by cases he
  | q :: l, k => fun e he => by
    rcases List.mem_cons.1 he with rfl | h
    · exact ⟨Nat.le_refl _, by rw [List.length_cons]; show k < _; omega⟩
    · have := cniE_born l (k + 1) e h
      rw [List.length_cons]; omega
theorem cniE_nodup : ∀ (l : List (Int × Int)) (k : Nat), ((cniE k l).map (·.born)).Nodup
  | [], _ => List.nodup_nil
  | q :: l, k => by
    refine List.nodup_cons.2 ⟨fun h => ?_, cniE_nodup l (k + 1)⟩
    obtain ⟨e, he, hb⟩ := List.mem_map.1 h
    have := cniE_born l (k + 1) e he
    have hb' : e.born = k := hb
    omega
theorem cniE_mem : ∀ (l : List (Int × Int)) (k : Nat) (e : MapEntry), e ∈ cniE k l → ∃ q, q ∈ l ∧ l[e.born - k]? = some q ∧ e.key = .int .i64 q.1 ∧ e.val = .int .i64 q.2
  | [], _, e => fun he => by cases he
  | q :: l, k, e => fun he => by
    rcases List.mem_cons.1 he with rfl | h
    · exact ⟨q, List.mem_cons_self, by show (q :: l)[k - k]? = _; rw [Nat.sub_self]; rfl, rfl, rfl⟩
    · obtain ⟨q', h1, h2, h3, h4⟩ := cniE_mem l (k + 1) e h
      have := cniE_born l (k + 1) e h
      refine ⟨q', List.mem_cons_of_mem _ h1, ?_, h3, h4⟩
      rw [show e.born - k = (e.born - (k + 1)) + 1 by omega, List.getElem?_cons_succ]; exact h2
theorem cniE_get : ∀ (l : List (Int × Int)) (k i : Nat) (q : Int × Int), l[i]? = some q → { key := .int .i64 q.1, val := .int .i64 q.2, born := k + i } ∈ cniE k l
  | [], _, i, q => fun h => by simp at h
  | p :: l, k, 0, q => fun h => by
    rw [List.getElem?_cons_zero] at h
    cases h
    exact List.mem_cons_self
  | p :: l, k, i + 1, q => fun h => by
    rw [List.getElem?_cons_succ] at h
    have := cniE_get l (k + 1) i q h
    rw [show k + 1 + i = k + (i + 1) by omega] at this
    exact List.mem_cons_of_mem _ this
def bestOk (vis : Int → Int → Prop) (b m : Int) : Prop := (∀ t k, vis t k → k < m ∨ (k = m ∧ b ≤ t)) ∧ (vis b m ∨ (b = -1 ∧ m = 0 ∧ ∀ t k, ¬ vis t k))
theorem bestOk.first {vis : Int → Int → Prop} (h : ∀ t k, ¬ vis t k) : bestOk vis (-1) 0 := ⟨fun t k hv => absurd hv (h t k), .inr ⟨rfl, rfl, h⟩⟩
theorem bestOk.congr {vis vis' : Int → Int → Prop} {b m : Int} (h : bestOk vis b m) (e : ∀ t k, vis' t k ↔ vis t k) : bestOk vis' b m :=
  ⟨fun t k hv => h.1 t k ((e t k).1 hv), h.2.imp (fun q => (e _ _).2 q) (fun q => ⟨q.1, q.2.1, fun t k hv => q.2.2 t k ((e t k).1 hv)⟩)⟩
theorem bestOk.yes {vis vis' : Int → Int → Prop} {b m t k : Int} (h : bestOk vis b m) (e : ∀ u j, vis' u j ↔ vis u j ∨ (u = t ∧ j = k)) (hc : k > m ∨ (k = m ∧ t < b)) : bestOk vis' t k := by
  refine ⟨fun u j hv => ?_, .inl ((e _ _).2 (.inr ⟨rfl, rfl⟩))⟩
  rcases (e u j).1 hv with hv | ⟨rfl, rfl⟩
  · have := h.1 u j hv
    omega
  · omega
theorem bestOk.no {vis vis' : Int → Int → Prop} {b m t k : Int} (h : bestOk vis b m) (e : ∀ u j, vis' u j ↔ vis u j ∨ (u = t ∧ j = k)) (hk : 1 ≤ k) (hc : ¬ (k > m ∨ (k = m ∧ t < b))) : bestOk vis' b m := by
  refine ⟨fun u j hv => ?_, ?_⟩
  · rcases (e u j).1 hv with hv | ⟨rfl, rfl⟩
    · exact h.1 u j hv
    · omega
  · rcases h.2 with q | ⟨rfl, rfl, _⟩
    · exact .inl ((e _ _).2 (.inl q))
    · omega
theorem bestOk.same {vis : Int → Int → Prop} {b m b' m' : Int} (h : bestOk vis b m) (h' : bestOk vis b' m') : b = b' := by
  rcases h.2 with q | ⟨q1, q2, q3⟩
  · rcases h'.2 with r | ⟨_, _, r⟩
    · have := h.1 _ _ r
      have := h'.1 _ _ q
      omega
    · exact absurd q (r _ _)
  · rcases h'.2 with r | ⟨r1, _, _⟩
    · exact absurd r (q3 _ _)
    · omega
/-- What of a list of pairs an iterator has seen. -/
def seenP (l : List (Int × Int)) (seen : Array Nat) (t k : Int) : Prop := ∃ i, seen.contains i = true ∧ l[i]? = some (t, k)
theorem seenP_none (l : List (Int × Int)) (t k : Int) : ¬ seenP l #[] t k := fun ⟨i, h, _⟩ => by simp at h
theorem seenP_push {l : List (Int × Int)} {seen : Array Nat} {i : Nat} {q : Int × Int} (h : l[i]? = some q) (t k : Int) : seenP l (seen.push i) t k ↔ seenP l seen t k ∨ (t = q.1 ∧ k = q.2) := by
  constructor
  · rintro ⟨j, hj, e⟩
    rw [contains_push] at hj
    simp only [Bool.or_eq_true, beq_iff_eq] at hj
    rcases hj with hj | rfl
    · exact .inl ⟨j, hj, e⟩
    · rw [h] at e
      cases e
      exact .inr ⟨rfl, rfl⟩
  · rintro (⟨j, hj, e⟩ | ⟨rfl, rfl⟩)
    · exact ⟨j, by rw [contains_push, hj]; rfl, e⟩
    · exact ⟨i, by rw [contains_push]; simp, h⟩
theorem seenP_all {l : List (Int × Int)} {seen : Array Nat} (h : (leftOf ⟨cniE 0 l⟩ seen).size = 0) (t k : Int) : (t, k) ∈ l ↔ seenP l seen t k := by
  constructor
  · intro hm
    obtain ⟨i, hi⟩ := List.getElem?_of_mem hm
    have := all_seen _ _ h _ (cniE_get l 0 i _ hi)
    rw [Nat.zero_add] at this
    exact ⟨i, this, hi⟩
  · rintro ⟨i, _, e⟩
    exact List.mem_of_getElem? e
def talOk (a : List (Int × Int)) : Prop := (a.map Prod.fst).Nodup ∧ ∀ q ∈ a, 1 ≤ q.2
theorem cniI_keys (s : Int) : ∀ l : List (Int × Int), ∀ k, k ∈ (cniI s l).map Prod.fst ↔ k = s ∨ k ∈ l.map Prod.fst
  | [], k => by simp [cniI]
  | q :: l, k => by
    have ih := cniI_keys s l k
    simp only [cniI]
    split
    · rename_i h
      simp only [List.map_cons, List.mem_cons]
      constructor
      · exact fun h' => .inr h'
      · rintro (rfl | h')
        · exact .inl h.symm
        · exact h'
    · simp only [List.map_cons, List.mem_cons]
      constructor
      · rintro (h' | h')
        · exact .inr (.inl h')
        · exact (ih.1 h').imp id .inr
      · rintro (h' | h' | h')
        · exact .inr (ih.2 (.inl h'))
        · exact .inl h'
        · exact .inr (ih.2 (.inr h'))
theorem cniI_ok (s : Int) : ∀ l : List (Int × Int), talOk l → talOk (cniI s l)
  | [], _ => ⟨by simp [cniI], fun q hq => by rw [cniI, List.mem_singleton] at hq; rw [hq]; exact Int.le_refl 1⟩
  | q :: l, h => by
    have h1 := List.nodup_cons.1 h.1
    have ih := cniI_ok s l ⟨h1.2, fun p hp => h.2 p (List.mem_cons_of_mem _ hp)⟩
    have hq := h.2 q List.mem_cons_self
    simp only [cniI]
    split
    · refine ⟨h.1, fun p hp => ?_⟩
      rcases List.mem_cons.1 hp with rfl | hp
      · show 1 ≤ q.2 + 1; omega
      · exact h.2 p (List.mem_cons_of_mem _ hp)
    · rename_i hs
      refine ⟨List.nodup_cons.2 ⟨fun hm => ?_, ih.1⟩, fun p hp => ?_⟩
      · rcases (cniI_keys s l q.1).1 hm with e | e
        · exact hs e
        · exact h1.1 e
      · rcases List.mem_cons.1 hp with rfl | hp
        · exact hq
        · exact ih.2 p hp
theorem tally_ok : ∀ (l : List Int) (a : List (Int × Int)), talOk a → talOk (tally a l)
  | [], a, h => h
  | t :: l, a, h => tally_ok l (cniI t a) (cniI_ok t a h)
theorem useM_ok (l : List CV) : talOk (useM l) := by
  have : ∀ (l : List CV) (a : List (Int × Int)), talOk a → talOk (l.foldl (fun a x => tally a x.1.texts) a) := by
    intro l
    induction l with
    | nil => exact fun a h => h
    | cons x l ih => exact fun a h => ih _ (tally_ok _ _ h)
  exact this l [] ⟨List.nodup_nil, fun q hq => by cases hq⟩
theorem cniG_mem {t k : Int} : ∀ {l : List (Int × Int)}, talOk l → ((t, k) ∈ l ↔ cniG l t = k ∧ 1 ≤ k)
  | [], _ => by
    constructor
    · intro h; cases h
    · rintro ⟨h1, h2⟩; rw [cniG] at h1; omega
  | q :: l, h => by
    have h1 := List.nodup_cons.1 h.1
    have hl : talOk l := ⟨h1.2, fun p hp => h.2 p (List.mem_cons_of_mem _ hp)⟩
    have ih := cniG_mem (t := t) (k := k) hl
    have hq := h.2 q List.mem_cons_self
    simp only [cniG]
    by_cases e : q.1 = t
    · rw [if_pos e]
      constructor
      · intro hm
        rcases List.mem_cons.1 hm with e2 | hm
        · subst e2; exact ⟨rfl, hq⟩
        · exact absurd (e ▸ List.mem_map.2 ⟨_, hm, rfl⟩ : q.1 ∈ l.map Prod.fst) h1.1
      · rintro ⟨rfl, _⟩
        subst e
        exact List.mem_cons_self
    · rw [if_neg e]
      constructor
      · intro hm
        rcases List.mem_cons.1 hm with e2 | hm
        · subst e2; exact absurd rfl e
        · exact ih.1 hm
      · intro hm
        exact List.mem_cons_of_mem _ (ih.2 hm)
theorem useM_G (t : Int) : ∀ (l : List CV), cniG (useM l) t = (useN l t : Int) := by
  have : ∀ (l : List CV) (a : List (Int × Int)), cniG (l.foldl (fun a x => tally a x.1.texts) a) t = cniG a t + (useN l t : Int) := by
    intro l
    induction l with
    | nil => intro a; simp [useN]
    | cons x l ih =>
      intro a
      rw [List.foldl_cons, ih, tally_G]
      simp only [useN, List.map_cons, List.sum_cons]
      omega
  intro l
  have h := this l []
  rw [show cniG [] t = 0 from rfl] at h
  rw [useM, h]; omega
theorem useM_mem {l : List CV} {t k : Int} : (t, k) ∈ useM l ↔ (useN l t : Int) = k ∧ 1 ≤ k := by rw [cniG_mem (useM_ok l), useM_G]
theorem useN_le {l : List CV} (h : ∀ x ∈ l, x.1.texts.length ≤ 65535) (t : Int) : useN l t ≤ 65535 * l.length := by
  induction l with
  | nil => simp [useN]
  | cons x l ih =>
    have h1 := ih fun y hy => h y (List.mem_cons_of_mem _ hy)
    have h2 := h x List.mem_cons_self
    have h3 : x.1.texts.count t ≤ x.1.texts.length := List.count_le_length
    simp only [useN, List.map_cons, List.sum_cons, List.length_cons] at h1 ⊢
    omega
theorem use_bnd {l : List CV} (h : ∀ x ∈ l, x.1.texts.length ≤ 65535) (t : Int) {i j : Nat} {u : List Int} (hu : u.length ≤ 65535) : 0 ≤ cniG (tally (useM (l.take i)) (u.take j)) t ∧ cniG (tally (useM (l.take i)) (u.take j)) t ≤ 65535 * (l.length : Int) + 65535 := by
  rw [tally_G, useM_G]
  have h1 := useN_le (l := l.take i) (fun x hx => h x (List.mem_of_mem_take hx)) t
  have h2 : (u.take j).count t ≤ (u.take j).length := List.count_le_length
  rw [List.length_take] at h1 h2
  have h3 : min i l.length ≤ l.length := Nat.min_le_right _ _
  omega
theorem cvSl_keep {w0 w : World} {l : List CV} (h : cvSl w0 l) (hm : Mod [] w0 w) : cvSl w l := fun x hx => ⟨(h x hx).1.keep hm, (h x hx).2.keep hm⟩
theorem get6_lt (x : List UInt8) (p : Nat) : getL ((x.drop p).take 6) < 281474976710656 := by
  have h := getL_lt ((x.drop p).take 6)
  have h2 : ((x.drop p).take 6).length ≤ 6 := by rw [List.length_take]; omega
  have h3 : 256 ^ ((x.drop p).take 6).length ≤ 256 ^ 6 := Nat.pow_le_pow_right (by decide) h2
  have g6 : (256 : Nat) ^ 6 = 281474976710656 := by decide
  omega
/-- All texts of clips. -/
def allT (l : List CV) : List Int := l.flatMap fun x => x.1.texts
theorem useN_count (t : Int) : ∀ l : List CV, useN l t = (allT l).count t
  | [] => rfl
  | x :: l => by
    have ih := useN_count t l
    simp only [useN, allT] at ih ⊢
    rw [List.map_cons, List.sum_cons, List.flatMap_cons, List.count_append, ih]
theorem useN_pos {l : List CV} {t : Int} : 1 ≤ useN l t ↔ t ∈ allT l := by rw [useN_count]; exact List.count_pos_iff
theorem allT_succ {l : List CV} {i : Nat} (h : i < l.length) : allT (l.take (i + 1)) = allT (l.take i) ++ (cvAt l i).1.texts := by
  rw [allT, take_one (cvAt_some h), List.flatMap_append]; simp [allT]
/-- The text that the most have: by all pairs of the tally. -/
def mostB (l : List CV) (b : Int) : Prop := ∃ m, bestOk (fun t k => (t, k) ∈ useM l) b m
theorem mostB.same {l : List CV} {b b' : Int} (h : mostB l b) (h' : mostB l b') : b = b' := by
  obtain ⟨m, h⟩ := h
  obtain ⟨m', h'⟩ := h'
  exact h.same h'
/-- What the statement's own loop has seen. -/
def visT (l : List CV) (xs : List Int) (t k : Int) : Prop := t ∈ xs ∧ k = (useN l t : Int)
theorem visT_snoc (l : List CV) (xs : List Int) (x t k : Int) : visT l (xs ++ [x]) t k ↔ visT l xs t k ∨ (t = x ∧ k = (useN l x : Int)) := by
  unfold visT
  rw [List.mem_append, List.mem_singleton]
  constructor
  · rintro ⟨h | h, e⟩
    · exact .inl ⟨h, e⟩
    · subst h; exact .inr ⟨rfl, e⟩
  · rintro (⟨h, e⟩ | ⟨rfl, e⟩)
    · exact ⟨.inl h, e⟩
    · exact ⟨.inr rfl, e⟩
theorem visT_all (l : List CV) (t k : Int) : (t, k) ∈ useM l ↔ visT l (allT l) t k := by
  rw [useM_mem, visT, ← useN_pos]
  constructor
  · rintro ⟨h, h1⟩; exact ⟨by omega, h.symm⟩
  · rintro ⟨h, h1⟩; exact ⟨h1.symm, by omega⟩
theorem visT_most {l : List CV} {b m : Int} (h : bestOk (visT l (allT l)) b m) : mostB l b := ⟨m, h.congr fun t k => visT_all l t k⟩
theorem gOk_not {x : List UInt8} (hx : x.length = 256) {m k : Int} (h : ¬ (¬ gZ x ∧ clpC (fC x) 8 40 = 0 ∧ secC (fC x) = x ∧ clpC (fC x) m k = 0)) : gOk x m k = false := by
  cases e : gOk x m k
  · rfl
  · exact absurd ((get_iff hx m k).1 e) h
def gR (x : List UInt8) (m k : Int) : Bool := decide (gZ x ∨ gOk x m k = true)
theorem gR_yes {x : List UInt8} {m k : Int} (h : gOk x m k = true) : gR x m k = true := decide_eq_true (.inr h)
theorem gR_z {x : List UInt8} {m k : Int} (h : gZ x) : gR x m k = true := decide_eq_true (.inl h)
theorem gR_no {x : List UInt8} {m k : Int} (hz : ¬ gZ x) (h : gOk x m k = false) : gR x m k = false := decide_eq_false (by rw [h]; simp [hz])
theorem gE_ok (x : List UInt8) (m k : Int) : decide (gE x m k = 0) = gR x m k := by unfold gE gR; split <;> simp_all
theorem clip_set0C (x : Int) : splice clpZc 32 [.int .i64 x] = clipC { clpZ with cls := x } (.slice none 0 0) (.slice none 0 0) := by rw [clpZ_c, clip_setC]
/-- The address, as it is filled byte by byte. -/
def adF (x : List UInt8) (i : Nat) : A32 := ⟨(cut32 x 4).take i ++ List.replicate (32 - i) 0, by rw [List.length_append, List.length_take, cut32_length, List.length_replicate]; omega⟩
theorem adF_0 (x : List UInt8) : adF x 0 = a32Z := a32_ext rfl
theorem adF_all (x : List UInt8) : adF x 32 = ⟨cut32 x 4, cut32_length _ _⟩ := a32_ext (by
  show (cut32 x 4).take 32 ++ List.replicate (32 - 32) 0 = cut32 x 4
  rw [List.take_of_length_le (by rw [cut32_length]; exact Nat.le_refl _), Nat.sub_self, List.replicate_zero, List.append_nil])
theorem adF_step {x : List UInt8} (hx : x.length = 256) {i : Nat} (hi : i < 32) (c : Clp) (hv tv : Value) : splice (clipC { c with addr := adF x i } hv tv) (0 + i * 1) [.int .u8 ((x.getD (4 + i) 0).toNat : Int)] = clipC { c with addr := adF x (i + 1) } hv tv := by
  have e : x.getD (4 + i) 0 = (cut32 x 4).getD i 0 := by
    rw [cut32_eq (by omega), List.getD_eq_getElem?_getD, List.getD_eq_getElem?_getD, List.getElem?_take, if_pos hi, List.getElem?_drop]
  have h := copy_at (x := cut32 x 4) (n := 32) hi (by rw [cut32_length]; exact Nat.le_refl _)
  rw [clipC, splice_left _ _ _ _ (by rw [bys_length, (adF x i).2, List.length_singleton]; omega), e]
  exact congrArg (· ++ _) h
theorem fNm_succ (x : List UInt8) (i : Nat) : (fNm x (i + 1)).map Value.string = (fNm x i).map Value.string ++ [.string ⟨(unpadL ((x.drop (83 + 16 * i)).take 16)).toArray⟩] := by
  rw [fNm, fNm, List.range_succ, List.map_append, List.map_append]; rfl
theorem fTx_succ (x : List UInt8) (i : Nat) : (fTx x (i + 1)).map (Value.int .i64) = (fTx x i).map (Value.int .i64) ++ [.int .i64 ((x.getD (fAt x + 1 + i) 0).toNat : Int)] := by
  rw [fTx, fTx, List.range_succ, List.map_append, List.map_append]; rfl
theorem fNm_len (x : List UInt8) (n : Nat) : (fNm x n).length = n := by rw [fNm, List.length_map, List.length_range]
theorem fTx_len (x : List UInt8) (n : Nat) : (fTx x n).length = n := by rw [fTx, List.length_map, List.length_range]
theorem fNm_small {x : List UInt8} {n : Nat} : ∀ y ∈ fNm x n, y.size ≤ 4294967296 := by
  intro y hy
  obtain ⟨i, _, rfl⟩ := List.mem_map.1 hy
  have h1 := unpadL_le (b := (x.drop (83 + 16 * i)).take 16)
  have h2 : ((x.drop (83 + 16 * i)).take 16).length ≤ 16 := by rw [List.length_take]; omega
  show (unpadL ((x.drop (83 + 16 * i)).take 16)).length ≤ _
  omega
theorem fC_small (x : List UInt8) : (fC x).note.size ≤ 4294967296 := by
  have h1 := unpadL_le (b := (x.drop 50).take 32)
  have h2 : ((x.drop 50).take 32).length ≤ 32 := by rw [List.length_take]; omega
  show (unpadL ((x.drop 50).take 32)).length ≤ _
  omega
/-- The clip of the reference, but for its address. -/
def fD (x : List UInt8) (a : A32) (s : ByteArray) : Clp := { fC x with addr := a, note := s }
theorem fD_C (x : List UInt8) (hv tv : Value) : clipC (fD x (adF x 32) (fC x).note) hv tv = clipC (fC x) hv tv := by rw [adF_all]; rfl
theorem sa_get (x : List UInt8) {p k : Nat} (hk : k ≤ 8) (hp : p + k ≤ x.length) : (((x.drop p).take k).take 8) = (x.drop p).take k := List.take_of_length_le (by rw [List.length_take]; omega)
end Go.Mo
