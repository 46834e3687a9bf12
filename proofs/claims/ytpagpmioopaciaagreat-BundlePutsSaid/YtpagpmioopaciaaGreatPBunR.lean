/- Bundles that came in as arguments. -/
import Derived.Test.YtpagpmioopaciaaGreatPShape
import Derived.Test.YtpagpmioopaciaaGreatPBunS
set_option linter.unusedVariables false
set_option linter.unusedSimpArgs false
namespace Go.Mo
open Go.RowKit
def recSh : Sh := .fc (.i .i64) (.fc (.i .i64) (.fc .s (.fc (.a 32) (.fc .s (.fc (.a 32) (.fc (.a 32) .fn))))))
def buSh : Sh := .fc .s (.fc (.i .i64) (.fc .s (.fc (.sl (.sl (.i .u8))) (.fc (.sl (.st recSh)) .fn))))
theorem rec_dt {W : World} {y : Dt} (h : y.ok W (.st recSh)) : ∃ r : Rec, y.cells = recC r ∧ True := by
  obtain ⟨y, rfl, h⟩ := ok_st h
  obtain ⟨z0, y, rfl, h0, h⟩ := ok_fc h
  obtain ⟨z1, y, rfl, h1, h⟩ := ok_fc h
  obtain ⟨z2, y, rfl, h2, h⟩ := ok_fc h
  obtain ⟨z3, y, rfl, h3, h⟩ := ok_fc h
  obtain ⟨z4, y, rfl, h4, h⟩ := ok_fc h
  obtain ⟨z5, y, rfl, h5, h⟩ := ok_fc h
  obtain ⟨z6, y, rfl, h6, h⟩ := ok_fc h
  obtain rfl := ok_fn h
  obtain ⟨k, rfl, _⟩ := ok_i h0
  obtain ⟨t, rfl, _⟩ := ok_i h1
  obtain ⟨a, rfl⟩ := ok_s h2
  obtain ⟨c, rfl, hc⟩ := ok_a h3
  obtain ⟨q, rfl⟩ := ok_s h4
  obtain ⟨p, rfl, hp⟩ := ok_a h5
  obtain ⟨s, rfl, hs⟩ := ok_a h6
  exact ⟨⟨k, t, a, ⟨c, hc⟩, q, ⟨p, hp⟩, ⟨s, hs⟩⟩, rfl, trivial⟩
theorem txs_dt {W : World} {v : Value} {n : Nat} {el : Nat → Dt} (hs : Sl W v 1 n ((List.range n).flatMap fun i => (el i).cells)) (h : ∀ i, i < n → (el i).ok W (.sl (.i .u8))) :
    ∃ l : List (Value × List UInt8), l.length = n ∧ (∀ x ∈ l, Sl W x.1 1 x.2.length (bys x.2)) ∧ Sl W v 1 n (l.map Prod.fst) := by
  obtain ⟨l, h1, h2, h3⟩ := sl_list (f := fun x : Value × List UInt8 => [x.1]) (p := fun x => Sl W x.1 1 x.2.length (bys x.2)) (fun y hy => by
    obtain ⟨u, m, el2, rfl, s1, s2⟩ := ok_sl hy
    obtain ⟨b, hb, q⟩ := sl_u8s s1 s2
    exact ⟨(u, b), rfl, by rw [hb]; exact q⟩) hs h
  refine ⟨l, h1, h2, ?_⟩
  rwa [flat_each (fun x : Value × List UInt8 => x.1)] at h3
section
open Go.ChangeShapes Go.WideShapes Go.ChangeAt
variable {H : Type} {enc : TypeId × Value → H} {P : Program} {W : World} {base : Nat} {r : Reach} {T : TypeId} {v : Value} {d : DataW H} {ps : List MemPlace}
theorem bu_arg (hB : shB P (.st buSh) T [] 0 = true) (hv : Value.okWide P W r base T v) (h : DataW.Trod enc P W 0 (fun _ => true) true T v d ps) : ∃ b tv av, v = .agg ⟨buC b tv av⟩ ∧ BuAt b tv av W := by
  obtain ⟨y, hy, e⟩ := dt_st hB hv h
  obtain ⟨z0, y, rfl, h0, hy⟩ := ok_fc hy
  obtain ⟨z1, y, rfl, h1, hy⟩ := ok_fc hy
  obtain ⟨z2, y, rfl, h2, hy⟩ := ok_fc hy
  obtain ⟨z3, y, rfl, h3, hy⟩ := ok_fc hy
  obtain ⟨z4, y, rfl, h4, hy⟩ := ok_fc hy
  obtain rfl := ok_fn hy
  obtain ⟨c, rfl⟩ := ok_s h0
  obtain ⟨m, rfl, _⟩ := ok_i h1
  obtain ⟨t, rfl⟩ := ok_s h2
  obtain ⟨tv, nt, el, rfl, s1, s2⟩ := ok_sl h3
  obtain ⟨av, na, el2, rfl, s3, s4⟩ := ok_sl h4
  obtain ⟨tx, q1, q2, q3⟩ := txs_dt s1 s2
  obtain ⟨au, q4, _, q5⟩ := sl_list (f := recC) (p := fun _ => True) (fun y hy => rec_dt hy) s3 s4
  subst q1 q4
  exact ⟨⟨c, m, t, tx, au⟩, tv, av, e, ⟨q3, q2, q5⟩⟩
end
end Go.Mo
