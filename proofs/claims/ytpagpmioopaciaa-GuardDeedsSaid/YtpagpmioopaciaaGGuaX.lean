/- Acts and requests that came in as arguments. -/
import Derived.Test.YtpagpmioopaciaaGShape
import Derived.Test.YtpagpmioopaciaaGGuaR
import Derived.Test.YtpagpmioopaciaaGReqS
set_option linter.unusedVariables false
set_option linter.unusedSimpArgs false
namespace Go.Mo
open Go.RowKit
def goS : Sh := .fc (.i .i64) (.fc .s (.fc .s (.fc (.sl (.i .i64)) .fn)))
theorem go_of {W : World} {y : Dt} (h : y.ok W goS) : ∃ x : OpR, y.cells = goC x ∧ Sl W x.ov 1 x.ops.length (x.ops.map (Value.int .i64)) := by
  obtain ⟨z0, y, rfl, h0, h⟩ := ok_fc h
  obtain ⟨z1, y, rfl, h1, h⟩ := ok_fc h
  obtain ⟨z2, y, rfl, h2, h⟩ := ok_fc h
  obtain ⟨z3, y, rfl, h3, h⟩ := ok_fc h
  obtain rfl := ok_fn h
  obtain ⟨k, rfl, _⟩ := ok_i h0
  obtain ⟨w, rfl⟩ := ok_s h1
  obtain ⟨r, rfl⟩ := ok_s h2
  obtain ⟨tv, nt, el2, rfl, s3, s4⟩ := ok_sl h3
  obtain ⟨tl, q3, _, q4⟩ := sl_nums s3 s4
  subst q3
  exact ⟨⟨k, w, r, tv, tl⟩, rfl, q4⟩
def rqS : Sh := .fc (.i .i64) (.fc .s (.fc .s (.fc .s (.fc (.i .i64) (.fc .b (.fc .b (.fc (.sl (.i .u8)) (.fc (.a 32) (.fc (.sl (.a 32)) .fn)))))))))
theorem rq_of {W : World} {y : Dt} (h : y.ok W rqS) : ∃ x : Rq, y.cells = rqC x ∧ (∃ A n c, x.text = .slice A n c) ∧ x.list.oneCell' = true := by
  obtain ⟨z0, y, rfl, h0, h⟩ := ok_fc h
  obtain ⟨z1, y, rfl, h1, h⟩ := ok_fc h
  obtain ⟨z2, y, rfl, h2, h⟩ := ok_fc h
  obtain ⟨z3, y, rfl, h3, h⟩ := ok_fc h
  obtain ⟨z4, y, rfl, h4, h⟩ := ok_fc h
  obtain ⟨z5, y, rfl, h5, h⟩ := ok_fc h
  obtain ⟨z6, y, rfl, h6, h⟩ := ok_fc h
  obtain ⟨z7, y, rfl, h7, h⟩ := ok_fc h
  obtain ⟨z8, y, rfl, h8, h⟩ := ok_fc h
  obtain ⟨z9, y, rfl, h9, h⟩ := ok_fc h
  obtain rfl := ok_fn h
  obtain ⟨op, rfl, _⟩ := ok_i h0
  obtain ⟨nm, rfl⟩ := ok_s h1
  obtain ⟨ac, rfl⟩ := ok_s h2
  obtain ⟨nt, rfl⟩ := ok_s h3
  obtain ⟨n, rfl, _⟩ := ok_i h4
  obtain ⟨ev, rfl⟩ := ok_b h5
  obtain ⟨pv, rfl⟩ := ok_b h6
  obtain ⟨tv, k1, el1, rfl, s1, _⟩ := ok_sl h7
  obtain ⟨a, rfl, ha⟩ := ok_a h8
  obtain ⟨lv, k2, el2, rfl, s2, _⟩ := ok_sl h9
  obtain ⟨A, c, rfl⟩ := sl_shape s1
  exact ⟨⟨op, nm, ac, nt, n, ev, pv, _, ⟨a, ha⟩, lv⟩, rfl, ⟨A, _, c, rfl⟩, sl_one s2⟩
section
open Go.ChangeShapes Go.WideShapes Go.ChangeAt
variable {H : Type} {enc : TypeId × Value → H} {P : Program} {W : World} {base : Nat} {r : Reach} {T : TypeId} {v : Value} {d : DataW H} {ps : List MemPlace}
theorem gos_arg (hB : shB P (.sl (.st goS)) T [] 0 = true) (hv : Value.okWide P W r base T v) (h : DataW.Trod enc P W 0 (fun _ => true) true T v d ps) :
    ∃ (A : Option Addr) (n c : Nat) (l : List OpR), v = .slice A n c ∧ okG W l ∧ Sl W (.slice A n c) 4 l.length (l.flatMap goC) := by
  obtain ⟨n, el, h1, h2, A, c, rfl⟩ := dt_sl hB hv h
  obtain ⟨l, h3, h4, h5⟩ := sl_list (f := goC) (p := fun x => Sl W x.ov 1 x.ops.length (x.ops.map (Value.int .i64))) (fun y hy => by
    obtain ⟨z, rfl, hz⟩ := ok_st hy
    exact go_of (y := z) hz) h1 h2
  exact ⟨A, n, c, l, rfl, fun x hx => h4 x hx, h3 ▸ h5⟩
theorem rq_arg (hB : shB P (.st rqS) T [] 0 = true) (hv : Value.okWide P W r base T v) (h : DataW.Trod enc P W 0 (fun _ => true) true T v d ps) :
    ∃ q : Rq, v = .agg ⟨rqC q⟩ ∧ (∃ A n c, q.text = .slice A n c) ∧ q.list.oneCell' = true := by
  obtain ⟨y, hy, e⟩ := dt_st hB hv h
  obtain ⟨q, e2, h1, h2⟩ := rq_of hy
  exact ⟨q, by rw [e, e2], h1, h2⟩
end
end Go.Mo
