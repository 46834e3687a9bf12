/- Counts by whole number: a map's entries, read and put. -/
import Derived.Test.YtblpmjbddpadcaaZBinU
set_option linter.unusedVariables false
set_option linter.unusedSimpArgs false
namespace Go.Mo
open Go.RowKit Go.Lib
variable {P : Program} {n : Nat} {ops : Array Oper} {f : Fm} {w w0 : World} {S : List Nat} {H : List Res} {K : Fm → World → Prop} {o : Oper} {rest : List Oper} {d : Nat} {x y z : Operand}
theorem run_keyI {Kt : TypeId} {s : Int} (b : Bool) (m : Nat) (hK : P.underlying Kt = some (.int .i64)) : (Instr.checkKey b (m + 1) Kt (.int .i64 s)).run P w = .ok () w := by simp [Instr.checkKey, run_underlying hK, Sem.run]
theorem int_beq2 (a b : Int) : (a == b) = decide (a = b) := rfl
def cniE : Nat → List (Int × Int) → List MapEntry
  | _, [] => []
  | k, q :: l => { key := .int .i64 q.1, val := .int .i64 q.2, born := k } :: cniE (k + 1) l
def cniG (l : List (Int × Int)) (s : Int) : Int := match l with
  | [] => 0
  | q :: l => if q.1 = s then q.2 else cniG l s
def cniI (s : Int) : List (Int × Int) → List (Int × Int)
  | [] => [(s, 1)]
  | q :: l => if q.1 = s then (q.1, q.2 + 1) :: l else q :: cniI s l
theorem cniG_I (s t : Int) : ∀ l, cniG (cniI s l) t = if t = s then cniG l t + 1 else cniG l t
  | [] => by
    simp only [cniI, cniG]
    by_cases h : t = s
    · rw [if_pos h.symm, if_pos h]; rfl
    · rw [if_neg (fun e => h e.symm), if_neg h]
  | q :: l => by
    have ih := cniG_I s t l
    simp only [cniI]
    by_cases h : q.1 = s
    · rw [if_pos h]
      simp only [cniG]
      by_cases h2 : q.1 = t
      · rw [if_pos h2, if_pos (h2.symm.trans h)]; simp [h2]
      · rw [if_neg h2, if_neg (fun e => h2 (h.trans e.symm))]; simp [h2]
    · rw [if_neg h]
      simp only [cniG]
      by_cases h2 : q.1 = t
      · rw [if_pos h2, if_pos h2, if_neg (fun e => h (h2.trans e))]
      · rw [if_neg h2, if_neg h2, ih]
def CniAt (s : Int) (l : List (Int × Int)) (k : Nat) : Option (Option (Nat × Value)) → Prop
  | some none => cniE k (cniI s l) = cniE k l ++ [{ key := .int .i64 s, val := .int .i64 1, born := k + l.length }] ∧ cniG l s = 0 ∧ (cniI s l).length = l.length + 1
  | some (some (i, v)) => k ≤ i ∧ v = .int .i64 (cniG l s) ∧ (∃ e, (cniE k l)[i - k]? = some e ∧ e.key = .int .i64 s) ∧ (cniE k l).modify (i - k) (fun e => { e with key := .int .i64 s, val := .int .i64 (cniG l s + 1) }) = cniE k (cniI s l) ∧ (cniI s l).length = l.length
  | none => False
theorem cni_at (s : Int) : ∀ (l : List (Int × Int)) (k : Nat), CniAt s l k (Instr.findNow (.int .i64) (.int .i64 s) (cniE k l) k)
  | [], k => ⟨rfl, rfl, rfl⟩
  | q :: l, k => by
    have ih := cni_at s l (k + 1)
    have e : (s == q.1) = decide (q.1 = s) := by
      rw [int_beq2, decide_eq_decide]
      exact eq_comm
    simp only [cniE, Instr.findNow, Instr.sameNow, e]
    by_cases h : q.1 = s
    · rw [decide_eq_true h]
      refine ⟨Nat.le_refl _, by simp only [cniG, if_pos h], ⟨_, by rw [Nat.sub_self]; rfl, by rw [h]⟩, ?_, by simp only [cniI, if_pos h, List.length_cons]⟩
      rw [Nat.sub_self]
      simp [cniI, cniE, cniG, h]
    · rw [decide_eq_false h]
      skip
      generalize Instr.findNow (.int .i64) (.int .i64 s) (cniE (k + 1) l) (k + 1) = r at ih ⊢
      match r, ih with
      | some none, ih =>
        obtain ⟨h1, h2, h3⟩ := ih
        refine ⟨?_, by simp only [cniG, if_neg h, h2], by simp only [cniI, if_neg h, List.length_cons, h3]⟩
        simp only [cniI, if_neg h, cniE, h1, List.cons_append, List.length_cons]
        rw [show k + 1 + l.length = k + (l.length + 1) by omega]
      | some (some (i, v)), ih =>
        obtain ⟨h1, h2, ⟨e2, h3, h3'⟩, h4, h5⟩ := ih
        refine ⟨by omega, by simp only [cniG, if_neg h, h2], ⟨e2, ?_, h3'⟩, ?_, by simp only [cniI, if_neg h, List.length_cons, h5]⟩
        · rw [show i - k = (i - (k + 1)) + 1 by omega]
          simpa [cniE] using h3
        · rw [show i - k = (i - (k + 1)) + 1 by omega]
          simp only [cniI, if_neg h, cniE, cniG, List.modify_succ_cons, h4]
theorem rd_cniG {T Kt E : TypeId} {c g : Nat} {l : List (Int × Int)} {s : Int} (ho : o.op = .lookup T x y false) (hx : ev n f x = .map (some g)) (hy : ev n f y = .int .i64 s) (hT : P.underlying T = some (.map Kt E)) (hK : P.underlying Kt = some (.int .i64)) (hz : (P.info? E).bind (·.zero) = some (.int .i64 0))
    (hg : (Res.blk g (.map ⟨cniE 0 l⟩ c)).at_ w) : Rd P n f o w (.int .i64 (cniG l s)) := by
  have hg' : w.heap[g]? = some (.map ⟨cniE 0 l⟩ c) := hg
  have h1 : ∀ b, (Instr.checkKey b 10000 Kt (.int .i64 s)).run P w = .ok () w := fun b => run_keyI b 9999 hK
  have hc := cni_at s l 0
  generalize hr : Instr.findNow (.int .i64) (.int .i64 s) (cniE 0 l) 0 = r at hc
  match r, hc with
  | some none, hc =>
    have h2 : (Instr.findKey Kt (.int .i64 s) (cniE 0 l)).run P w = .ok none w := by simp [Instr.findKey, run_underlying hK, hr, Sem.run]
    rw [hc.2.1]
    simp [Rd, execOp, ho, hx, hy, Instr.lookup, run_underlying hT, getObj, hg', h1, h2, run_zero hz, Sem.run]
  | some (some (i, v)), hc =>
    have h2 : (Instr.findKey Kt (.int .i64 s) (cniE 0 l)).run P w = .ok (some (i, v)) w := by simp [Instr.findKey, run_underlying hK, hr, Sem.run]
    rw [← hc.2.1]
    simp [Rd, execOp, ho, hx, hy, Instr.lookup, run_underlying hT, getObj, hg', h1, h2, Sem.run]
theorem GL_cniPut {T Kt E : TypeId} {i g : Nat} {l : List (Int × Int)} {s : Int} {v : Value} (hw : Wn n ops f o) (hd : o.dst = none) (ho : o.op = .mapUpdate T x y z) (hx : ev n f x = .map (some g)) (hy : ev n f y = .int .i64 s) (hv : ev n f z = v) (hT : P.underlying T = some (.map Kt E)) (hK : P.underlying Kt = some (.int .i64))
    (hp : Hp w0 S w H) (hi : H[i]? = some (.blk g (.map ⟨cniE 0 l⟩ l.length))) (hq : v = .int .i64 (cniG l s + 1))
    (h : ∀ w', Hp w0 S w' (H.set i (.blk g (.map ⟨cniE 0 (cniI s l)⟩ (cniI s l).length))) → GL P n ops rest f w' K) : GL P n ops (o :: rest) f w K := by
  subst hq
  have hg : w.heap[g]? = some (.map ⟨cniE 0 l⟩ l.length) := hp.get i hi
  have hlt : g < w.heap.size := (Array.getElem?_eq_some_iff.1 hg).1
  have h1 : (Instr.checkKey false 10000 Kt (.int .i64 s)).run P w = .ok () w := run_keyI false 9999 hK
  let ob : Obj := .map ⟨cniE 0 (cniI s l)⟩ (cniI s l).length
  have hk : Hp w [g] { w with heap := w.heap.setIfInBounds g ob } [.blk g ob] := by
    refine ⟨⟨rfl, rfl, rfl, by simp, fun k hk hn => ?_⟩, ?_, by simp [Res.foot], by simp⟩
    · simp only [List.mem_singleton] at hn
      show (w.heap.setIfInBounds g ob)[k]? = _
      rw [Array.getElem?_setIfInBounds_ne (fun e => hn e.symm)]
    · intro r hr
      simp only [List.mem_singleton] at hr
      subst hr
      show (w.heap.setIfInBounds g ob)[g]? = _
      rw [Array.getElem?_setIfInBounds_self_of_lt hlt]
  refine GL_do (w' := { w with heap := w.heap.setIfInBounds g ob }) hw hd ?_ (h _ (hp.turnAt i hi hk))
  have hc := cni_at s l 0
  generalize hr : Instr.findNow (.int .i64) (.int .i64 s) (cniE 0 l) 0 = r at hc
  match r, hc with
  | some none, hc =>
    obtain ⟨c1, c2, c3⟩ := hc
    have h2 : (Instr.findKey Kt (.int .i64 s) (cniE 0 l)).run P w = .ok none w := by simp [Instr.findKey, run_underlying hK, hr, Sem.run]
    rw [Nat.zero_add] at c1
    simp [execOp, ho, hx, hy, hv, Instr.mapUpdate, run_underlying hT, getObj, setObj, hg, h1, h2, Sem.run, ob, c1, c2, c3]
  | some (some (j, u)), hc =>
    obtain ⟨c1, c2, ⟨e, c3, c3'⟩, c4, c5⟩ := hc
    have h2 : (Instr.findKey Kt (.int .i64 s) (cniE 0 l)).run P w = .ok (some (j, u)) w := by simp [Instr.findKey, run_underlying hK, hr, Sem.run]
    rw [Nat.sub_zero] at c3 c4
    have h3 : (Instr.keyThatStays (.int .i64 s) (.int .i64 s)).run P w = .ok (.int .i64 s) w := by
      have : Instr.sameBits 10000 (.int .i64 s) (.int .i64 s) = true := (int_beq2 s s).trans (decide_eq_true rfl)
      unfold Instr.keyThatStays
      rw [if_pos this]
      rfl
    simp [execOp, ho, hx, hy, hv, Instr.mapUpdate, run_underlying hT, getObj, setObj, hg, h1, h2, Sem.run, ob, c3, c3', h3, c5, c4]
def tally (a : List (Int × Int)) (l : List Int) : List (Int × Int) := l.foldl (fun a t => cniI t a) a
theorem tally_succ (a : List (Int × Int)) {l : List Int} {j : Nat} (h : j < l.length) : tally a (l.take (j + 1)) = cniI (intAt l j) (tally a (l.take j)) := by
  rw [tally, take_one (intAt_some h), List.foldl_append]; rfl
def useM (l : List CV) : List (Int × Int) := l.foldl (fun a x => tally a x.1.texts) []
theorem useM_succ {l : List CV} {i : Nat} (h : i < l.length) : useM (l.take (i + 1)) = tally (useM (l.take i)) (cvAt l i).1.texts := by
  rw [useM, take_one (cvAt_some h), List.foldl_append]; rfl
theorem tally_G (t : Int) : ∀ (l : List Int) (a : List (Int × Int)), cniG (tally a l) t = cniG a t + (l.count t : Int)
  | [], a => by simp [tally]
  | x :: l, a => by
    have ih := tally_G t l (cniI x a)
    rw [show tally a (x :: l) = tally (cniI x a) l from rfl, ih, cniG_I, List.count_cons]
    by_cases h : t = x
    · subst h; simp; omega
    · rw [if_neg h, if_neg (by simpa using fun e => h e.symm)]; simp
theorem cvC_one {w : World} {x : CV} (h : Sl w x.2.1 1 x.1.holds.length (x.1.holds.map Value.string) ∧ Sl w x.2.2 1 x.1.texts.length (x.1.texts.map (Value.int .i64))) : ∀ u ∈ cvC x, u.oneCell' = true := by
  obtain ⟨c, hv, tv⟩ := x
  simp only at h
  obtain ⟨h1, h2⟩ := h
  obtain ⟨A, ch, rfl⟩ := sl_shape h1
  obtain ⟨B, ct, rfl⟩ := sl_shape h2
  exact clipC_one _ _ _ _ _ _ _
end Go.Mo
