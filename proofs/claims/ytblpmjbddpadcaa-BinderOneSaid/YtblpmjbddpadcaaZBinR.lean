/- Clips that came in as arguments. -/
import Derived.Test.YtblpmjbddpadcaaZShape
import Derived.Test.YtblpmjbddpadcaaZBinU
set_option linter.unusedVariables false
set_option linter.unusedSimpArgs false
namespace Go.Mo
open Go.RowKit
def clS : Sh := .fc (.a 32) (.fc (.i .i64) (.fc (.i .i64) (.fc .b (.fc (.i .i64) (.fc (.sl .s) (.fc .s (.fc (.sl (.i .i64)) .fn)))))))
theorem cv_of {W : World} {y : Dt} (h : y.ok W clS) : ∃ x : CV, y.cells = cvC x ∧ Sl W x.2.1 1 x.1.holds.length (x.1.holds.map Value.string) ∧ Sl W x.2.2 1 x.1.texts.length (x.1.texts.map (Value.int .i64)) := by
  obtain ⟨z0, y, rfl, h0, h⟩ := ok_fc h
  obtain ⟨z1, y, rfl, h1, h⟩ := ok_fc h
  obtain ⟨z2, y, rfl, h2, h⟩ := ok_fc h
  obtain ⟨z3, y, rfl, h3, h⟩ := ok_fc h
  obtain ⟨z4, y, rfl, h4, h⟩ := ok_fc h
  obtain ⟨z5, y, rfl, h5, h⟩ := ok_fc h
  obtain ⟨z6, y, rfl, h6, h⟩ := ok_fc h
  obtain ⟨z7, y, rfl, h7, h⟩ := ok_fc h
  obtain rfl := ok_fn h
  obtain ⟨a, rfl, ha⟩ := ok_a h0
  obtain ⟨c, rfl, _⟩ := ok_i h1
  obtain ⟨m, rfl, _⟩ := ok_i h2
  obtain ⟨f, rfl⟩ := ok_b h3
  obtain ⟨e, rfl, _⟩ := ok_i h4
  obtain ⟨hv, nh, el, rfl, s1, s2⟩ := ok_sl h5
  obtain ⟨t, rfl⟩ := ok_s h6
  obtain ⟨tv, nt, el2, rfl, s3, s4⟩ := ok_sl h7
  obtain ⟨hl, q1, q2⟩ := sl_strs s1 s2
  obtain ⟨tl, q3, _, q4⟩ := sl_nums s3 s4
  subst q1 q3
  exact ⟨(⟨⟨a, ha⟩, c, m, f, e, hl, t, tl⟩, hv, tv), rfl, q2, q4⟩
theorem cvs_of {W : World} {v : Value} {n : Nat} {el : Nat → Dt} (hs : Sl W v 39 n ((List.range n).flatMap fun i => (el i).cells)) (h : ∀ i, i < n → (el i).ok W (.st clS)) : ∃ l : List CV, l.length = n ∧ cvSl W l ∧ Sl W v 39 n (l.flatMap cvC) := by
  obtain ⟨l, h1, h2, h3⟩ := sl_list (f := cvC) (p := fun x => Sl W x.2.1 1 x.1.holds.length (x.1.holds.map Value.string) ∧ Sl W x.2.2 1 x.1.texts.length (x.1.texts.map (Value.int .i64))) (fun y hy => by
    obtain ⟨z, rfl, hz⟩ := ok_st hy
    exact cv_of (y := z) hz) hs h
  exact ⟨l, h1, fun x hx => h2 x hx, h3⟩
theorem ads_of {W : World} {v : Value} {n : Nat} {el : Nat → Dt} (hs : Sl W v 32 n ((List.range n).flatMap fun i => (el i).cells)) (h : ∀ i, i < n → (el i).ok W (.a 32)) : ∃ l : List A32, l.length = n ∧ Sl W v 32 n (l.flatMap adC) := by
  obtain ⟨l, h1, _, h3⟩ := sl_list (f := adC) (p := fun _ => True) (fun y hy => by
    obtain ⟨l, rfl, hl⟩ := ok_a hy
    exact ⟨⟨l, hl⟩, rfl, trivial⟩) hs h
  exact ⟨l, h1, h3⟩
section
open Go.ChangeShapes Go.WideShapes Go.ChangeAt
variable {H : Type} {enc : TypeId × Value → H} {P : Program} {W : World} {base : Nat} {r : Reach} {T : TypeId} {v : Value} {d : DataW H} {ps : List MemPlace}
theorem clip_arg (hB : shB P (.st clS) T [] 0 = true) (hv : Value.okWide P W r base T v) (h : DataW.Trod enc P W 0 (fun _ => true) true T v d ps) :
    ∃ c hv tv, v = .agg ⟨clipC c hv tv⟩ ∧ Sl W hv 1 c.holds.length (c.holds.map Value.string) ∧ Sl W tv 1 c.texts.length (c.texts.map (Value.int .i64)) := by
  obtain ⟨y, hy, e⟩ := dt_st hB hv h
  obtain ⟨⟨c, a, b⟩, e2, h1, h2⟩ := cv_of hy
  exact ⟨c, a, b, by rw [e, e2]; rfl, h1, h2⟩
theorem clips_arg (hB : shB P (.sl (.st clS)) T [] 0 = true) (hv : Value.okWide P W r base T v) (h : DataW.Trod enc P W 0 (fun _ => true) true T v d ps) :
    ∃ A n c l, v = .slice A n c ∧ cvSl W l ∧ Sl W (.slice A n c) 39 n (l.flatMap cvC) := by
  obtain ⟨n, el, h1, h2, A, c, rfl⟩ := dt_sl hB hv h
  obtain ⟨l, _, h3, h4⟩ := cvs_of h1 h2
  exact ⟨A, n, c, l, rfl, h3, h4⟩
theorem ads_arg (hB : shB P (.sl (.a 32)) T [] 0 = true) (hv : Value.okWide P W r base T v) (h : DataW.Trod enc P W 0 (fun _ => true) true T v d ps) :
    ∃ (A : Option Addr) (n c : Nat) (l : List A32), v = .slice A n c ∧ Sl W (.slice A n c) 32 n (l.flatMap adC) := by
  obtain ⟨n, el, h1, h2, A, c, rfl⟩ := dt_sl hB hv h
  obtain ⟨l, _, h4⟩ := ads_of h1 h2
  exact ⟨A, n, c, l, rfl, h4⟩
end
end Go.Mo
