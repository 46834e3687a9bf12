/- Clips: what the statements' example and comparisons come to: plain laws. -/
import Derived.Test.YtblpmjbddpadcaaZBinN
set_option linter.unusedVariables false
set_option linter.unusedSimpArgs false
namespace Go.Mo
open Go.RowKit Go.Lib
theorem GL_litP {P : Program} {n : Nat} {ops : Array Oper} {f : Fm} {w w0 : World} {S : List Nat} {H : List Res} {K : Fm → World → Prop} {o : Oper} {rest : List Oper} {d : Nat} {x y : Operand} {T E sz : Nat} {z v u : Value} {L M Q : List Value} (hw : Wn n ops f o) (hd : o.dst = some d) (ho : o.op = .buildSlice T 2 #[(0, x), (1, y)]) (hx : ev n f x = v) (hy : ev n f y = u) (hv : v.cells = ⟨L⟩) (hu : u.cells = ⟨M⟩) (hT : P.underlying T = some (.slice E))
    (hs : (P.info? E).map (·.size) = some sz) (hz : (P.info? E).bind (·.zero) = some z) (hl : Nat.ble (2 * sz) 16777216 = true) (h1 : L.length = sz) (h2 : M.length = sz) (hQ : L ++ M = Q) (hp : Hp w0 S w H)
    (h : ∀ g w', Hp w0 S w' (.row E sz (.slice (some ⟨g, 0, none⟩) 2 2) 2 Q :: H) → GL P n ops rest (upd f d (.slice (some ⟨g, 0, none⟩) 2 2)) w' K) : GL P n ops (o :: rest) f w K := by
  subst hQ
  refine GL_lit (L := L ++ M) hw hd ho hT hs hz hl ?_ (by rw [List.length_append, h1, h2]; omega) rfl hp h
  have e : (#[(0, x), (1, y)].map fun (i, x) => (i, ev n f x)).toList = [((0 : Nat), v), (1, u)] := by simp [hx, hy]
  rw [e]
  have hlen : ∀ (A : Array Value), A = ⟨A.toList⟩ := fun A => rfl
  generalize hA : (Array.range (2 * sz)).map (fun i => z.cells[i % z.cells.size]!) = A
  have hAl : A.toList.length = 2 * sz := by rw [← hA]; simp
  rw [hlen A]
  refine fill_more (L' := L ++ A.toList.drop sz) 0 sz (by simp) hv h1 (by omega) ?_ (fill_more (L' := L ++ M) sz sz (by simp) hu h2 (by rw [List.length_append, List.length_drop]; omega) ?_ (fill_done rfl))
  · have e1 : A.toList = [] ++ (A.toList.take sz ++ A.toList.drop sz) := by rw [List.nil_append, List.take_append_drop]
    rw [e1, splice_mid [] _ _ _ 0 rfl (by rw [List.length_take]; omega), List.nil_append, List.nil_append, List.take_append_drop]
  · have e2 : L ++ A.toList.drop sz = L ++ (A.toList.drop sz ++ []) := by rw [List.append_nil]
    rw [e2, splice_mid L _ [] M sz h1 (by rw [List.length_drop]; omega), List.append_nil]
def LgtC (c : Clp) : Prop := c.holds.length ≤ 12 ∧ c.texts.length ≤ 30 ∧ c.note.size ≤ 300 ∧ ∀ s ∈ c.holds, s.size ≤ 100
theorem lgt_no {c : Clp} {r : Int} (h : (r = 0 ∧ LgtC c) ∨ r = 1) (hr : ¬ r > 0) : LgtC c := by rcases h with ⟨_, h⟩ | h; exact h; omega
theorem LgtC.hz {c : Clp} (h : LgtC c) : ∀ x ∈ c.holds, x.size ≤ 4294967296 := fun x hx => by have := h.2.2.2 x hx; omega
theorem sec_back_no {c : Clp} {m k : Int} (hc : clpC c 8 40 = 0) (hm : ¬ clpC c m k = 0) : gOk (secC c) m k = false := by
  obtain ⟨q1, q2⟩ := sec_back hc hc
  have hz := (gOk_iff.1 q1).1
  refine gOk_no fun h => hm ?_
  rw [gV_yes q1] at q2
  rw [← q2]; exact h.2.2.2
theorem sec_nz {c : Clp} (hc : clpC c 8 40 = 0) : ¬ gZ (secC c) := (gOk_iff.1 (sec_back hc hc).1).1
theorem gE_bad {x : List UInt8} {m k : Int} (h : gR x m k = false) : gE x m k = 5 := by
  have := of_decide_eq_false h
  rw [gE, if_neg this]
theorem boolEq {a b : Bool} (h : a = b) : (a == b) = true := by rw [h]; simp
theorem dec_same {p q : Prop} [Decidable p] {r : Bool} (h1 : p ↔ q) (h2 : r = true ↔ q) : decide p = r := by
  by_cases hp : p
  · rw [decide_eq_true hp, h2.2 (h1.1 hp)]
  · rw [decide_eq_false hp]
    cases r
    · rfl
    · exact absurd (h1.2 (h2.1 rfl)) hp
def ad7 : A32 := ⟨7 :: List.replicate 31 0, rfl⟩
def wC : Clp := ⟨ad7, 1, 5, true, 9, [⟨#[99, 111, 117, 114, 116]⟩], ⟨#[110]⟩, [3, 0]⟩
theorem wC_fill (h t : Value) (hh : h.cells = ⟨[h]⟩) (ht : t.cells = ⟨[t]⟩) : Instr.fill (([(0, 32), (32, 1), (33, 1), (34, 1), (35, 1), (36, 1), (37, 1), (38, 1)] : List (Nat × Nat)).toArray[·]?) (⟨clpZc⟩ : Array Value) [(0, .agg ⟨bys ad7.1⟩), (1, .int .i64 1), (2, .int .i64 5), (3, .bool true), (4, .int .i64 9), (5, h), (6, .string ⟨#[110]⟩), (7, t)] = some ⟨clipC wC h t⟩ := by
  refine fill_more 0 32 rfl rfl rfl (by decide) (clip_set0 ad7) ?_
  refine fill_more 32 1 rfl rfl rfl (by rw [clipC_len]; decide) (clip_setC _ _ _ _) ?_
  refine fill_more 33 1 rfl rfl rfl (by rw [clipC_len]; decide) (clip_setM _ _ _ _) ?_
  refine fill_more 34 1 rfl rfl rfl (by rw [clipC_len]; decide) (clip_setF _ _ _ _) ?_
  refine fill_more 35 1 rfl rfl rfl (by rw [clipC_len]; decide) (clip_setE _ _ _ _) ?_
  refine fill_more 36 1 rfl hh rfl (by rw [clipC_len]; decide) (clip_setH _ _ _ _) ?_
  refine fill_more 37 1 rfl rfl rfl (by rw [clipC_len]; decide) (clip_setN _ _ _ _) ?_
  refine fill_more 38 1 rfl ht rfl (by rw [clipC_len]; decide) (clip_setT _ _ _ _) ?_
  exact fill_done rfl
theorem wC_8 : clpC wC 8 40 = 0 := by decide +kernel
theorem wC_2 : clpC wC 2 4 = 0 := by decide +kernel
theorem wC_1 : clpC wC 1 4 = 13 := by decide +kernel
theorem wC_3 : clpC wC 2 3 = 2 := by decide +kernel
def wS : List UInt8 := secC wC
theorem wS_len : wS.length = 256 := secC_length _
theorem wS_eq : secC wC = wS := rfl
theorem wG1 : gOk wS 2 4 = true ∧ gV wS 2 4 = wC ∧ gE wS 2 4 = 0 := ⟨(sec_back wC_8 wC_2).1, (sec_back wC_8 wC_2).2, gE_yes (sec_back wC_8 wC_2).1⟩
theorem wG2 : gOk wS 1 4 = false ∧ gV wS 1 4 = clpZ ∧ gE wS 1 4 = 5 := by
  have h : gOk wS 1 4 = false := sec_back_no wC_8 (by rw [wC_1]; decide)
  exact ⟨h, gV_no h, gE_no (sec_nz wC_8) h⟩
theorem wGZ : gOk (List.replicate 256 0) 2 4 = false ∧ gV (List.replicate 256 0) 2 4 = clpZ ∧ gE (List.replicate 256 0) 2 4 = 0 := by
  have h : gOk (List.replicate 256 0) 2 4 = false := gOk_no fun q => q.1 rfl
  exact ⟨h, gV_no h, gE_z rfl⟩
theorem wU3 (h t : Value) : cniG (useM [(wC, h, t), (wC, h, t)]) 3 = 2 := by rw [useM_G]; rfl
theorem wU1 (h t : Value) : cniG (useM [(wC, h, t), (wC, h, t)]) 1 = 0 := by rw [useM_G]; rfl
theorem wM1 (h t : Value) : mostB [(wC, h, t)] 0 := by
  have e : useM [(wC, h, t)] = [(3, 1), (0, 1)] := rfl
  refine ⟨1, ?_, .inl (by rw [e]; simp)⟩
  intro u j hv
  rw [e] at hv
  simp only [List.mem_cons, Prod.mk.injEq, List.not_mem_nil, or_false] at hv
  omega
theorem wM0 : mostB [] (-1) := ⟨0, bestOk.first fun t k h => by cases h⟩
def wA1 : List UInt8 := clAdr ⟨#[97]⟩ 1 ⟨#[]⟩ []
def wA2 : List UInt8 := clAdr ⟨#[97]⟩ 2 ⟨#[]⟩ []
theorem wA_ne : ¬ wA1 = wA2 := by decide +kernel
theorem wA1_len : wA1.length = 32 := clAdr_length _ _ _ _
theorem wA2_len : wA2.length = 32 := clAdr_length _ _ _ _
theorem wA1_eq : clAdr ⟨#[97]⟩ 1 ⟨#[]⟩ [] = wA1 := rfl
theorem wA2_eq : clAdr ⟨#[97]⟩ 2 ⟨#[]⟩ [] = wA2 := rfl
attribute [irreducible] wS wA1 wA2
theorem two_cv (x y : CV) : cvC x ++ cvC y = [x, y].flatMap cvC := by simp
theorem two_wc (h t h' t' : Value) : clipC wC h t ++ clipC wC h' t' = [(wC, h, t), (wC, h', t')].flatMap cvC := two_cv (wC, h, t) (wC, h', t')
theorem wC_65 (h t : Value) : (∀ x ∈ ([(wC, h, t), (wC, h, t)] : List CV), x.1.texts.length ≤ 65535) ∧ (∀ x ∈ ([(wC, h, t)] : List CV), x.1.texts.length ≤ 65535) := by
  refine ⟨fun x hx => ?_, fun x hx => ?_⟩
  · simp only [List.mem_cons, List.not_mem_nil, or_false, or_self] at hx
    subst hx; exact (by decide : wC.texts.length ≤ 65535)
  · simp only [List.mem_cons, List.not_mem_nil, or_false] at hx
    subst hx; exact (by decide : wC.texts.length ≤ 65535)
theorem one_cv (x : CV) : cvC x = [x].flatMap cvC := by simp
theorem cvSl_two {w : World} {h t : Value} (h1 : Sl w h 1 wC.holds.length (wC.holds.map Value.string)) (h2 : Sl w t 1 wC.texts.length (wC.texts.map (Value.int .i64))) : cvSl w [(wC, h, t), (wC, h, t)] ∧ cvSl w [(wC, h, t)] := by
  refine ⟨fun x hx => ?_, fun x hx => ?_⟩
  · simp only [List.mem_cons, List.not_mem_nil, or_false, or_self] at hx
    subst hx; exact ⟨h1, h2⟩
  · simp only [List.mem_cons, List.not_mem_nil, or_false] at hx
    subst hx; exact ⟨h1, h2⟩
theorem allL_succ {l : List CV} {i : Nat} {r : Int} (h : ∀ x ∈ l.take i, LgtC x.1) (hi : i < l.length) (hl : LgtC (cvAt l i).1) : ∀ x ∈ l.take (i + 1), LgtC x.1 := by
  intro x hx
  rw [take_one (cvAt_some hi)] at hx
  rcases List.mem_append.1 hx with q | q
  · exact h x q
  · rw [List.mem_singleton.1 q]; exact hl
theorem allL_65 {l : List CV} (h : ∀ x ∈ l, LgtC x.1) : ∀ x ∈ l, x.1.texts.length ≤ 65535 := fun x hx => by have := (h x hx).2.1; omega
theorem visT_start {l : List CV} (t k : Int) : ¬ visT l (allT (l.take 0)) t k := by rintro ⟨h, _⟩; cases h
theorem visT_row {l : List CV} {i : Nat} (hi : i < l.length) (t k : Int) : visT l (allT (l.take (i + 1))) t k ↔ visT l (allT (l.take i) ++ (cvAt l i).1.texts.take (cvAt l i).1.texts.length) t k := by
  rw [allT_succ hi, List.take_length]
theorem visT_next {l : List CV} {i j : Nat} (hj : j < (cvAt l i).1.texts.length) (t k : Int) : visT l (allT (l.take i) ++ (cvAt l i).1.texts.take (j + 1)) t k ↔ visT l (allT (l.take i) ++ (cvAt l i).1.texts.take j) t k ∨ (t = intAt (cvAt l i).1.texts j ∧ k = (useN l (intAt (cvAt l i).1.texts j) : Int)) := by
  rw [take_one (intAt_some hj), ← List.append_assoc]; exact visT_snoc l _ _ t k
theorem use_in {l : List CV} {i j : Nat} (hi : i < l.length) (hj : j < (cvAt l i).1.texts.length) : (1 : Int) ≤ (useN l (intAt (cvAt l i).1.texts j) : Int) := by
  have : 1 ≤ useN l (intAt (cvAt l i).1.texts j) := useN_pos.2 (List.mem_flatMap.2 ⟨cvAt l i, mem_at (cvAt_some hi), mem_at (intAt_some hj)⟩)
  omega
end Go.Mo
