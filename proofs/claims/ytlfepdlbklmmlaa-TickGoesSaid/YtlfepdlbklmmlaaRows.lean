/-
  No cell of these rows narrows 'for every input' (looked for: loops, veiled, ifaces, maps, wideKeys, modest, calm, conditions, laid).
  DERIVED. THE GIVEN ROWS OF THIS SEAT. 12 by the template 'for every input the law returns true; each argument reads behind the call as it read before'; 0 by the template 'total and deterministic' (their statements: YtlfepdlbklmmlaaTotals.lean).
  GIVEN WITH THE SEED: the statements are not yours to turn. If you find one false, say at which input.
  Laid BY PROGRAM, IN A SANDBOX (cutbox-rows.mjs): the forced cells as the released guide's own fill.sh prints them over the translation bdc188e1f69bb91f… (all of the seat's roots in one cut). By AI agents, Wed Nov 11 2026. No macro, syntax, notation, axiom, sorry.
-/
import Derived.Test.YtlfepdlbklmmlaaChecked
import GoSem.Claim
import GoSem.ClaimJoined
import GoSem.ClaimMapViews
import Derived.JoinedTies
import Derived.KernelRfl
namespace Go.Proofs.Ytlfepdlbklmmlaa
/- THE CELL 'sum', in the pinned program and in every row, IS THE sha256 OF THE DUMP (.gsa) THAT YtlfepdlbklmmlaaProg.lean LOADS. Nothing in Lean hashes anything: it is a label: what it is worth is what the hold of that sum in a sandbox is worth. -/
noncomputable def Try.pinned : Pinned := { name := "ytlfepdlbklmmlaa", sum := "bdc188e1f69bb91f99b1dadd75135aaa27a3c1566fe0c30529501ebc8a74c9f4", checked := Try.checked }
namespace Rows
def none {H : Type} : Left H := { results := [], args := [] }

/-- 'mortmainlaw01.WordNumbers': WHATEVER THE INPUT: true; the input reads as it did. -/
def wordNumbersSpec : ChangeSpec := { name := "wordNumbers", fn := fun _ => fun
  | [d1, d2, d3] => { results := [.lit (.bool true)], args := [d1, d2, d3] }
  | _ => none }
def wordNumbersRow : OpenClaim := { program := "ytlfepdlbklmmlaa", sum := "bdc188e1f69bb91f99b1dadd75135aaa27a3c1566fe0c30529501ebc8a74c9f4", func := "mortmain/mortmainlaw01.WordNumbers", spec := "wordNumbers", recurses := true, apart := false }
def WordNumbersSaid : Prop := wordNumbersRow.holds Try.pinned (OpenSpec.ofChange wordNumbersSpec)

/-- ITS FALSE NEIGHBOUR: 'it returns false'. Refute it at one input. -/
def wordNumbersWrong : ChangeSpec := { name := "wordNumbers", fn := fun _ => fun
  | [d1, d2, d3] => { results := [.lit (.bool false)], args := [d1, d2, d3] }
  | _ => none }
def WordNumbersWrongFalsely : Prop := wordNumbersRow.holds Try.pinned (OpenSpec.ofChange wordNumbersWrong)

/-- 'mortmainlaw01.WordTexts': WHATEVER THE INPUT: true; the input reads as it did. -/
def wordTextsSpec : ChangeSpec := { name := "wordTexts", fn := fun _ => fun
  | [d1, d2, d3] => { results := [.lit (.bool true)], args := [d1, d2, d3] }
  | _ => none }
def wordTextsRow : OpenClaim := { program := "ytlfepdlbklmmlaa", sum := "bdc188e1f69bb91f99b1dadd75135aaa27a3c1566fe0c30529501ebc8a74c9f4", func := "mortmain/mortmainlaw01.WordTexts", spec := "wordTexts", apart := false }
def WordTextsSaid : Prop := wordTextsRow.holds Try.pinned (OpenSpec.ofChange wordTextsSpec)

/-- ITS FALSE NEIGHBOUR: 'it returns false'. Refute it at one input. -/
def wordTextsWrong : ChangeSpec := { name := "wordTexts", fn := fun _ => fun
  | [d1, d2, d3] => { results := [.lit (.bool false)], args := [d1, d2, d3] }
  | _ => none }
def WordTextsWrongFalsely : Prop := wordTextsRow.holds Try.pinned (OpenSpec.ofChange wordTextsWrong)

/-- 'mortmainlaw01.WordBack': WHATEVER THE INPUT: true; the input reads as it did. -/
def wordBackSpec : ChangeSpec := { name := "wordBack", fn := fun _ => fun
  | [d] => { results := [.lit (.bool true)], args := [d] }
  | _ => none }
def wordBackRow : OpenClaim := { program := "ytlfepdlbklmmlaa", sum := "bdc188e1f69bb91f99b1dadd75135aaa27a3c1566fe0c30529501ebc8a74c9f4", func := "mortmain/mortmainlaw01.WordBack", spec := "wordBack", recurses := true, apart := false }
def WordBackSaid : Prop := wordBackRow.holds Try.pinned (OpenSpec.ofChange wordBackSpec)

/-- ITS FALSE NEIGHBOUR: 'it returns false'. Refute it at one input. -/
def wordBackWrong : ChangeSpec := { name := "wordBack", fn := fun _ => fun
  | [d] => { results := [.lit (.bool false)], args := [d] }
  | _ => none }
def WordBackWrongFalsely : Prop := wordBackRow.holds Try.pinned (OpenSpec.ofChange wordBackWrong)

/-- 'mortmainlaw01.WordStops': WHATEVER THE INPUT: true; the input reads as it did. -/
def wordStopsSpec : ChangeSpec := { name := "wordStops", fn := fun _ => fun
  | [d1, d2, d3] => { results := [.lit (.bool true)], args := [d1, d2, d3] }
  | _ => none }
def wordStopsRow : OpenClaim := { program := "ytlfepdlbklmmlaa", sum := "bdc188e1f69bb91f99b1dadd75135aaa27a3c1566fe0c30529501ebc8a74c9f4", func := "mortmain/mortmainlaw01.WordStops", spec := "wordStops", apart := false }
def WordStopsSaid : Prop := wordStopsRow.holds Try.pinned (OpenSpec.ofChange wordStopsSpec)

/-- ITS FALSE NEIGHBOUR: 'it returns false'. Refute it at one input. -/
def wordStopsWrong : ChangeSpec := { name := "wordStops", fn := fun _ => fun
  | [d1, d2, d3] => { results := [.lit (.bool false)], args := [d1, d2, d3] }
  | _ => none }
def WordStopsWrongFalsely : Prop := wordStopsRow.holds Try.pinned (OpenSpec.ofChange wordStopsWrong)

/-- 'mortmainlaw28.AgendaDoes': WHATEVER THE INPUT: true; the input reads as it did. -/
def agendaDoesSpec : ChangeSpec := { name := "agendaDoes", fn := fun _ => fun
  | [d] => { results := [.lit (.bool true)], args := [d] }
  | _ => none }
def agendaDoesRow : OpenClaim := { program := "ytlfepdlbklmmlaa", sum := "bdc188e1f69bb91f99b1dadd75135aaa27a3c1566fe0c30529501ebc8a74c9f4", func := "mortmain/mortmainlaw28.AgendaDoes", spec := "agendaDoes", apart := false }
def AgendaDoesSaid : Prop := agendaDoesRow.holds Try.pinned (OpenSpec.ofChange agendaDoesSpec)

/-- ITS FALSE NEIGHBOUR: 'it returns false'. Refute it at one input. -/
def agendaDoesWrong : ChangeSpec := { name := "agendaDoes", fn := fun _ => fun
  | [d] => { results := [.lit (.bool false)], args := [d] }
  | _ => none }
def AgendaDoesWrongFalsely : Prop := agendaDoesRow.holds Try.pinned (OpenSpec.ofChange agendaDoesWrong)

/-- 'mortmainlaw28.AgendaDue': WHATEVER THE INPUT: true; the input reads as it did. -/
def agendaDueSpec : ChangeSpec := { name := "agendaDue", fn := fun _ => fun
  | [d1, d2] => { results := [.lit (.bool true)], args := [d1, d2] }
  | _ => none }
def agendaDueRow : OpenClaim := { program := "ytlfepdlbklmmlaa", sum := "bdc188e1f69bb91f99b1dadd75135aaa27a3c1566fe0c30529501ebc8a74c9f4", func := "mortmain/mortmainlaw28.AgendaDue", spec := "agendaDue", apart := false }
def AgendaDueSaid : Prop := agendaDueRow.holds Try.pinned (OpenSpec.ofChange agendaDueSpec)

/-- ITS FALSE NEIGHBOUR: 'it returns false'. Refute it at one input. -/
def agendaDueWrong : ChangeSpec := { name := "agendaDue", fn := fun _ => fun
  | [d1, d2] => { results := [.lit (.bool false)], args := [d1, d2] }
  | _ => none }
def AgendaDueWrongFalsely : Prop := agendaDueRow.holds Try.pinned (OpenSpec.ofChange agendaDueWrong)

/-- 'mortmainlaw23.MaskHides': WHATEVER THE INPUT: true; the input reads as it did. -/
def maskHidesSpec : ChangeSpec := { name := "maskHides", fn := fun _ => fun
  | [d1, d2, d3] => { results := [.lit (.bool true)], args := [d1, d2, d3] }
  | _ => none }
def maskHidesRow : OpenClaim := { program := "ytlfepdlbklmmlaa", sum := "bdc188e1f69bb91f99b1dadd75135aaa27a3c1566fe0c30529501ebc8a74c9f4", func := "mortmain/mortmainlaw23.MaskHides", spec := "maskHides", unfollowed := true, recurses := true, apart := false }
def MaskHidesSaid : Prop := maskHidesRow.holds Try.pinned (OpenSpec.ofChange maskHidesSpec)

/-- ITS FALSE NEIGHBOUR: 'it returns false'. Refute it at one input. -/
def maskHidesWrong : ChangeSpec := { name := "maskHides", fn := fun _ => fun
  | [d1, d2, d3] => { results := [.lit (.bool false)], args := [d1, d2, d3] }
  | _ => none }
def MaskHidesWrongFalsely : Prop := maskHidesRow.holds Try.pinned (OpenSpec.ofChange maskHidesWrong)

/-- 'mortmainlaw23.MaskFinds': WHATEVER THE INPUT: true; the input reads as it did. -/
def maskFindsSpec : ChangeSpec := { name := "maskFinds", fn := fun _ => fun
  | [d1, d2, d3] => { results := [.lit (.bool true)], args := [d1, d2, d3] }
  | _ => none }
def maskFindsRow : OpenClaim := { program := "ytlfepdlbklmmlaa", sum := "bdc188e1f69bb91f99b1dadd75135aaa27a3c1566fe0c30529501ebc8a74c9f4", func := "mortmain/mortmainlaw23.MaskFinds", spec := "maskFinds", unfollowed := true, recurses := true, apart := false }
def MaskFindsSaid : Prop := maskFindsRow.holds Try.pinned (OpenSpec.ofChange maskFindsSpec)

/-- ITS FALSE NEIGHBOUR: 'it returns false'. Refute it at one input. -/
def maskFindsWrong : ChangeSpec := { name := "maskFinds", fn := fun _ => fun
  | [d1, d2, d3] => { results := [.lit (.bool false)], args := [d1, d2, d3] }
  | _ => none }
def MaskFindsWrongFalsely : Prop := maskFindsRow.holds Try.pinned (OpenSpec.ofChange maskFindsWrong)

/-- 'mortmainlaw19.TickGoes': WHATEVER THE INPUT: true; the input reads as it did. -/
def tickGoesSpec : ChangeSpec := { name := "tickGoes", fn := fun _ => fun
  | [d1, d2, d3, d4] => { results := [.lit (.bool true)], args := [d1, d2, d3, d4] }
  | _ => none }
def tickGoesRow : OpenClaim := { program := "ytlfepdlbklmmlaa", sum := "bdc188e1f69bb91f99b1dadd75135aaa27a3c1566fe0c30529501ebc8a74c9f4", func := "mortmain/mortmainlaw19.TickGoes", spec := "tickGoes", unfollowed := true, recurses := true, apart := false }
def TickGoesSaid : Prop := tickGoesRow.holds Try.pinned (OpenSpec.ofChange tickGoesSpec)

/-- ITS FALSE NEIGHBOUR: 'it returns false'. Refute it at one input. -/
def tickGoesWrong : ChangeSpec := { name := "tickGoes", fn := fun _ => fun
  | [d1, d2, d3, d4] => { results := [.lit (.bool false)], args := [d1, d2, d3, d4] }
  | _ => none }
def TickGoesWrongFalsely : Prop := tickGoesRow.holds Try.pinned (OpenSpec.ofChange tickGoesWrong)

/-- 'mortmainlaw19.TickBack': WHATEVER THE INPUT: true; the input reads as it did. -/
def tickBackSpec : ChangeSpec := { name := "tickBack", fn := fun _ => fun
  | [d1, d2, d3] => { results := [.lit (.bool true)], args := [d1, d2, d3] }
  | _ => none }
def tickBackRow : OpenClaim := { program := "ytlfepdlbklmmlaa", sum := "bdc188e1f69bb91f99b1dadd75135aaa27a3c1566fe0c30529501ebc8a74c9f4", func := "mortmain/mortmainlaw19.TickBack", spec := "tickBack", unfollowed := true, recurses := true, apart := false }
def TickBackSaid : Prop := tickBackRow.holds Try.pinned (OpenSpec.ofChange tickBackSpec)

/-- ITS FALSE NEIGHBOUR: 'it returns false'. Refute it at one input. -/
def tickBackWrong : ChangeSpec := { name := "tickBack", fn := fun _ => fun
  | [d1, d2, d3] => { results := [.lit (.bool false)], args := [d1, d2, d3] }
  | _ => none }
def TickBackWrongFalsely : Prop := tickBackRow.holds Try.pinned (OpenSpec.ofChange tickBackWrong)

/-- 'mortmainlaw19.TickLatest': WHATEVER THE INPUT: true; the input reads as it did. -/
def tickLatestSpec : ChangeSpec := { name := "tickLatest", fn := fun _ => fun
  | [d1, d2] => { results := [.lit (.bool true)], args := [d1, d2] }
  | _ => none }
def tickLatestRow : OpenClaim := { program := "ytlfepdlbklmmlaa", sum := "bdc188e1f69bb91f99b1dadd75135aaa27a3c1566fe0c30529501ebc8a74c9f4", func := "mortmain/mortmainlaw19.TickLatest", spec := "tickLatest", unfollowed := true, recurses := true, apart := false }
def TickLatestSaid : Prop := tickLatestRow.holds Try.pinned (OpenSpec.ofChange tickLatestSpec)

/-- ITS FALSE NEIGHBOUR: 'it returns false'. Refute it at one input. -/
def tickLatestWrong : ChangeSpec := { name := "tickLatest", fn := fun _ => fun
  | [d1, d2] => { results := [.lit (.bool false)], args := [d1, d2] }
  | _ => none }
def TickLatestWrongFalsely : Prop := tickLatestRow.holds Try.pinned (OpenSpec.ofChange tickLatestWrong)

/-- 'mortmainlaw14.LeafPuts': WHATEVER THE INPUT: true; the input reads as it did. -/
def leafPutsSpec : ChangeSpec := { name := "leafPuts", fn := fun _ => fun
  | [d1, d2, d3, d4, d5] => { results := [.lit (.bool true)], args := [d1, d2, d3, d4, d5] }
  | _ => none }
def leafPutsRow : OpenClaim := { program := "ytlfepdlbklmmlaa", sum := "bdc188e1f69bb91f99b1dadd75135aaa27a3c1566fe0c30529501ebc8a74c9f4", func := "mortmain/mortmainlaw14.LeafPuts", spec := "leafPuts", recurses := true, apart := false }
def LeafPutsSaid : Prop := leafPutsRow.holds Try.pinned (OpenSpec.ofChange leafPutsSpec)

/-- ITS FALSE NEIGHBOUR: 'it returns false'. Refute it at one input. -/
def leafPutsWrong : ChangeSpec := { name := "leafPuts", fn := fun _ => fun
  | [d1, d2, d3, d4, d5] => { results := [.lit (.bool false)], args := [d1, d2, d3, d4, d5] }
  | _ => none }
def LeafPutsWrongFalsely : Prop := leafPutsRow.holds Try.pinned (OpenSpec.ofChange leafPutsWrong)

/- THE SECOND FORM. 'bulk': how many values and letters a reading holds, each counted each time it is reached (what is shared counts as often as it is met; a slice's spare places count too). A statement '..UptoSaid' is the law's where the arguments, and the package variables that the reading takes, are together of bulk at most 1048576: NARROWER than '..Said'. Prove '..Said' where nothing that the law and all that it calls make is longer than what came in: it says more and counts as full. Else prove '..UptoSaid'. A law counts once. -/
mutual
def uptoBulk {H : Type} : DataW H → Nat
  | .lit (.string bytes) => bytes.length + 1
  | .lit _ => 1
  | .nil => 1
  | .ptr d => uptoBulk d + 1
  | .slice elems spare => uptoBulkAll elems + uptoBulkAll spare + 1
  | .agg parts => uptoBulkAll parts + 1
  | .iface _ d => uptoBulk d + 1
  | .map entries => uptoBulkEntries entries + 1
  | .held _ => 1
def uptoBulkAll {H : Type} : List (DataW H) → Nat
  | [] => 0
  | d :: r => uptoBulk d + uptoBulkAll r
def uptoBulkEntries {H : Type} : List (Lit × DataW H) → Nat
  | [] => 0
  | x :: r => uptoBulkEntry x + uptoBulkEntries r
def uptoBulkEntry {H : Type} : Lit × DataW H → Nat
  | (.string bytes, d) => bytes.length + uptoBulk d + 1
  | (_, d) => uptoBulk d + 1
 end
def uptoSmall : (H : Type) → List (DataW H) → Bool := fun _ ds => decide (uptoBulkAll ds ≤ 1048576)
def OpenSpec.upto (s : _root_.Go.ChangeSpec) : _root_.Go.OpenSpec := { _root_.Go.OpenSpec.ofChange s with cond := some uptoSmall }

/-- 'mortmainlaw01.WordNumbers', WHERE WHAT IT READS IS OF BULK AT MOST 1048576: true; the input reads as it did. -/
def wordNumbersUptoRow : OpenClaim := { program := "ytlfepdlbklmmlaa", sum := "bdc188e1f69bb91f99b1dadd75135aaa27a3c1566fe0c30529501ebc8a74c9f4", func := "mortmain/mortmainlaw01.WordNumbers", spec := "wordNumbers", recurses := true, apart := false, narrowed := true }
def WordNumbersUptoSaid : Prop := wordNumbersUptoRow.holds Try.pinned (OpenSpec.upto wordNumbersSpec)

/-- 'mortmainlaw01.WordTexts', WHERE WHAT IT READS IS OF BULK AT MOST 1048576: true; the input reads as it did. -/
def wordTextsUptoRow : OpenClaim := { program := "ytlfepdlbklmmlaa", sum := "bdc188e1f69bb91f99b1dadd75135aaa27a3c1566fe0c30529501ebc8a74c9f4", func := "mortmain/mortmainlaw01.WordTexts", spec := "wordTexts", apart := false, narrowed := true }
def WordTextsUptoSaid : Prop := wordTextsUptoRow.holds Try.pinned (OpenSpec.upto wordTextsSpec)

/-- 'mortmainlaw01.WordBack', WHERE WHAT IT READS IS OF BULK AT MOST 1048576: true; the input reads as it did. -/
def wordBackUptoRow : OpenClaim := { program := "ytlfepdlbklmmlaa", sum := "bdc188e1f69bb91f99b1dadd75135aaa27a3c1566fe0c30529501ebc8a74c9f4", func := "mortmain/mortmainlaw01.WordBack", spec := "wordBack", recurses := true, apart := false, narrowed := true }
def WordBackUptoSaid : Prop := wordBackUptoRow.holds Try.pinned (OpenSpec.upto wordBackSpec)

/-- 'mortmainlaw01.WordStops', WHERE WHAT IT READS IS OF BULK AT MOST 1048576: true; the input reads as it did. -/
def wordStopsUptoRow : OpenClaim := { program := "ytlfepdlbklmmlaa", sum := "bdc188e1f69bb91f99b1dadd75135aaa27a3c1566fe0c30529501ebc8a74c9f4", func := "mortmain/mortmainlaw01.WordStops", spec := "wordStops", apart := false, narrowed := true }
def WordStopsUptoSaid : Prop := wordStopsUptoRow.holds Try.pinned (OpenSpec.upto wordStopsSpec)

/-- 'mortmainlaw28.AgendaDoes', WHERE WHAT IT READS IS OF BULK AT MOST 1048576: true; the input reads as it did. -/
def agendaDoesUptoRow : OpenClaim := { program := "ytlfepdlbklmmlaa", sum := "bdc188e1f69bb91f99b1dadd75135aaa27a3c1566fe0c30529501ebc8a74c9f4", func := "mortmain/mortmainlaw28.AgendaDoes", spec := "agendaDoes", apart := false, narrowed := true }
def AgendaDoesUptoSaid : Prop := agendaDoesUptoRow.holds Try.pinned (OpenSpec.upto agendaDoesSpec)

/-- 'mortmainlaw28.AgendaDue', WHERE WHAT IT READS IS OF BULK AT MOST 1048576: true; the input reads as it did. -/
def agendaDueUptoRow : OpenClaim := { program := "ytlfepdlbklmmlaa", sum := "bdc188e1f69bb91f99b1dadd75135aaa27a3c1566fe0c30529501ebc8a74c9f4", func := "mortmain/mortmainlaw28.AgendaDue", spec := "agendaDue", apart := false, narrowed := true }
def AgendaDueUptoSaid : Prop := agendaDueUptoRow.holds Try.pinned (OpenSpec.upto agendaDueSpec)

/-- 'mortmainlaw23.MaskHides', WHERE WHAT IT READS IS OF BULK AT MOST 1048576: true; the input reads as it did. -/
def maskHidesUptoRow : OpenClaim := { program := "ytlfepdlbklmmlaa", sum := "bdc188e1f69bb91f99b1dadd75135aaa27a3c1566fe0c30529501ebc8a74c9f4", func := "mortmain/mortmainlaw23.MaskHides", spec := "maskHides", unfollowed := true, recurses := true, apart := false, narrowed := true }
def MaskHidesUptoSaid : Prop := maskHidesUptoRow.holds Try.pinned (OpenSpec.upto maskHidesSpec)

/-- 'mortmainlaw23.MaskFinds', WHERE WHAT IT READS IS OF BULK AT MOST 1048576: true; the input reads as it did. -/
def maskFindsUptoRow : OpenClaim := { program := "ytlfepdlbklmmlaa", sum := "bdc188e1f69bb91f99b1dadd75135aaa27a3c1566fe0c30529501ebc8a74c9f4", func := "mortmain/mortmainlaw23.MaskFinds", spec := "maskFinds", unfollowed := true, recurses := true, apart := false, narrowed := true }
def MaskFindsUptoSaid : Prop := maskFindsUptoRow.holds Try.pinned (OpenSpec.upto maskFindsSpec)

/-- 'mortmainlaw19.TickGoes', WHERE WHAT IT READS IS OF BULK AT MOST 1048576: true; the input reads as it did. -/
def tickGoesUptoRow : OpenClaim := { program := "ytlfepdlbklmmlaa", sum := "bdc188e1f69bb91f99b1dadd75135aaa27a3c1566fe0c30529501ebc8a74c9f4", func := "mortmain/mortmainlaw19.TickGoes", spec := "tickGoes", unfollowed := true, recurses := true, apart := false, narrowed := true }
def TickGoesUptoSaid : Prop := tickGoesUptoRow.holds Try.pinned (OpenSpec.upto tickGoesSpec)

/-- 'mortmainlaw19.TickBack', WHERE WHAT IT READS IS OF BULK AT MOST 1048576: true; the input reads as it did. -/
def tickBackUptoRow : OpenClaim := { program := "ytlfepdlbklmmlaa", sum := "bdc188e1f69bb91f99b1dadd75135aaa27a3c1566fe0c30529501ebc8a74c9f4", func := "mortmain/mortmainlaw19.TickBack", spec := "tickBack", unfollowed := true, recurses := true, apart := false, narrowed := true }
def TickBackUptoSaid : Prop := tickBackUptoRow.holds Try.pinned (OpenSpec.upto tickBackSpec)

/-- 'mortmainlaw19.TickLatest', WHERE WHAT IT READS IS OF BULK AT MOST 1048576: true; the input reads as it did. -/
def tickLatestUptoRow : OpenClaim := { program := "ytlfepdlbklmmlaa", sum := "bdc188e1f69bb91f99b1dadd75135aaa27a3c1566fe0c30529501ebc8a74c9f4", func := "mortmain/mortmainlaw19.TickLatest", spec := "tickLatest", unfollowed := true, recurses := true, apart := false, narrowed := true }
def TickLatestUptoSaid : Prop := tickLatestUptoRow.holds Try.pinned (OpenSpec.upto tickLatestSpec)

/-- 'mortmainlaw14.LeafPuts', WHERE WHAT IT READS IS OF BULK AT MOST 1048576: true; the input reads as it did. -/
def leafPutsUptoRow : OpenClaim := { program := "ytlfepdlbklmmlaa", sum := "bdc188e1f69bb91f99b1dadd75135aaa27a3c1566fe0c30529501ebc8a74c9f4", func := "mortmain/mortmainlaw14.LeafPuts", spec := "leafPuts", recurses := true, apart := false, narrowed := true }
def LeafPutsUptoSaid : Prop := leafPutsUptoRow.holds Try.pinned (OpenSpec.upto leafPutsSpec)

end Rows
end Go.Proofs.Ytlfepdlbklmmlaa
