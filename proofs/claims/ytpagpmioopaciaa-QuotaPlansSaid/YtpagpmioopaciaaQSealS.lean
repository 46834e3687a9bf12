/- Sectors that bear a sum: plain lists. -/
import Derived.Test.YtpagpmioopaciaaQCrcS
set_option linter.unusedVariables false
set_option linter.unusedSimpArgs false
namespace Go.Mo
/-- A load of a whole variable. -/
theorem rd_loadC {P : Program} {n : Nat} {f : Fm} {w : World} {o : Oper} {x : Operand} {T U : TypeId} {g sz : Nat} {d : TypeDesc} {L : List Value} (ho : o.op = .load T x) (hx : ev n f x = .pointer (some ⟨g, 0, none⟩)) (hT : P.underlying T = some d) (hd : plainT d = false)
    (hs : (P.info? T).map (·.size) = some sz) (hg : (cells g U L).at_ w) (hl : L.length = sz) : Rd P n f o w (.agg ⟨L⟩) :=
  rd_loadN ho hx hT hd hs hl fun j u hj => by rw [Nat.zero_add]; exact (cell_of_cells hg j).trans hj
end Go.Mo
