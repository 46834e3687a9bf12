/-
  No cell of these rows narrows 'for every input' (looked for: loops, veiled, ifaces, maps, wideKeys, modest, calm, conditions, laid).
  DERIVED. THE GIVEN ROWS OF THIS SEAT. 12 by the template 'for every input the law returns true; each argument reads behind the call as it read before'; 0 by the template 'total and deterministic' (their statements: YtblpmjbddpadcaaTotals.lean).
  GIVEN WITH THE SEED: the statements are not yours to turn. If you find one false, say at which input.
  Laid BY PROGRAM, IN A SANDBOX (cutbox-rows.mjs): the forced cells as the released guide's own fill.sh prints them over the translation 5748ecf1e08b225a… (all of the seat's roots in one cut). By AI agents, Wed Nov 11 2026. No macro, syntax, notation, axiom, sorry.
-/
import Derived.Test.YtblpmjbddpadcaaChecked
import GoSem.Claim
import GoSem.ClaimJoined
import GoSem.ClaimMapViews
import Derived.JoinedTies
import Derived.KernelRfl
namespace Go.Proofs.Ytblpmjbddpadcaa
/- THE CELL 'sum', in the pinned program and in every row, IS THE sha256 OF THE DUMP (.gsa) THAT YtblpmjbddpadcaaProg.lean LOADS. Nothing in Lean hashes anything: it is a label: what it is worth is what the hold of that sum in a sandbox is worth. -/
noncomputable def Try.pinned : Pinned := { name := "ytblpmjbddpadcaa", sum := "5748ecf1e08b225ac73b89c342c6d0c35e2232f1f5e849f4edc60c8296410626", checked := Try.checked }
namespace Rows
def none {H : Type} : Left H := { results := [], args := [] }

/-- 'mortmainlaw23.MaskHides': WHATEVER THE INPUT: true; the input reads as it did. -/
def maskHidesSpec : ChangeSpec := { name := "maskHides", fn := fun _ => fun
  | [d1, d2, d3] => { results := [.lit (.bool true)], args := [d1, d2, d3] }
  | _ => none }
def maskHidesRow : OpenClaim := { program := "ytblpmjbddpadcaa", sum := "5748ecf1e08b225ac73b89c342c6d0c35e2232f1f5e849f4edc60c8296410626", func := "mortmain/mortmainlaw23.MaskHides", spec := "maskHides", unfollowed := true, recurses := true, plainKeys := false, apart := false }
def MaskHidesSaid : Prop := maskHidesRow.holds Try.pinned (OpenSpec.ofChange maskHidesSpec)

/-- ITS FALSE NEIGHBOUR: 'it returns false'. Refute it at one input. -/
def maskHidesWrong : ChangeSpec := { name := "maskHides", fn := fun _ => fun
  | [d1, d2, d3] => { results := [.lit (.bool false)], args := [d1, d2, d3] }
  | _ => none }
def MaskHidesWrongFalsely : Prop := maskHidesRow.holds Try.pinned (OpenSpec.ofChange maskHidesWrong)

/-- 'mortmainlaw23.MaskFinds': WHATEVER THE INPUT: true; the input reads as it did. -/
def maskFindsSpec : ChangeSpec := { name := "maskFinds", fn := fun _ => fun
  | [d1, d2, d3] => { results := [.lit (.bool true)], args := [d1, d2, d3] }
  | _ => none }
def maskFindsRow : OpenClaim := { program := "ytblpmjbddpadcaa", sum := "5748ecf1e08b225ac73b89c342c6d0c35e2232f1f5e849f4edc60c8296410626", func := "mortmain/mortmainlaw23.MaskFinds", spec := "maskFinds", unfollowed := true, recurses := true, plainKeys := false, apart := false }
def MaskFindsSaid : Prop := maskFindsRow.holds Try.pinned (OpenSpec.ofChange maskFindsSpec)

/-- ITS FALSE NEIGHBOUR: 'it returns false'. Refute it at one input. -/
def maskFindsWrong : ChangeSpec := { name := "maskFinds", fn := fun _ => fun
  | [d1, d2, d3] => { results := [.lit (.bool false)], args := [d1, d2, d3] }
  | _ => none }
def MaskFindsWrongFalsely : Prop := maskFindsRow.holds Try.pinned (OpenSpec.ofChange maskFindsWrong)

/-- 'mortmainlaw35.QuotaPlans': WHATEVER THE INPUT: true; the input reads as it did. -/
def quotaPlansSpec : ChangeSpec := { name := "quotaPlans", fn := fun _ => fun
  | [d1, d2, d3, d4] => { results := [.lit (.bool true)], args := [d1, d2, d3, d4] }
  | _ => none }
def quotaPlansRow : OpenClaim := { program := "ytblpmjbddpadcaa", sum := "5748ecf1e08b225ac73b89c342c6d0c35e2232f1f5e849f4edc60c8296410626", func := "mortmain/mortmainlaw35.QuotaPlans", spec := "quotaPlans", unfollowed := true, recurses := true, plainKeys := false, apart := false }
def QuotaPlansSaid : Prop := quotaPlansRow.holds Try.pinned (OpenSpec.ofChange quotaPlansSpec)

/-- ITS FALSE NEIGHBOUR: 'it returns false'. Refute it at one input. -/
def quotaPlansWrong : ChangeSpec := { name := "quotaPlans", fn := fun _ => fun
  | [d1, d2, d3, d4] => { results := [.lit (.bool false)], args := [d1, d2, d3, d4] }
  | _ => none }
def QuotaPlansWrongFalsely : Prop := quotaPlansRow.holds Try.pinned (OpenSpec.ofChange quotaPlansWrong)

/-- 'mortmainlaw18.AuditSums': WHATEVER THE INPUT: true; the input reads as it did. -/
def auditSumsSpec : ChangeSpec := { name := "auditSums", fn := fun _ => fun
  | [d1, d2] => { results := [.lit (.bool true)], args := [d1, d2] }
  | _ => none }
def auditSumsRow : OpenClaim := { program := "ytblpmjbddpadcaa", sum := "5748ecf1e08b225ac73b89c342c6d0c35e2232f1f5e849f4edc60c8296410626", func := "mortmain/mortmainlaw18.AuditSums", spec := "auditSums", unfollowed := true, recurses := true, plainKeys := false, apart := false }
def AuditSumsSaid : Prop := auditSumsRow.holds Try.pinned (OpenSpec.ofChange auditSumsSpec)

/-- ITS FALSE NEIGHBOUR: 'it returns false'. Refute it at one input. -/
def auditSumsWrong : ChangeSpec := { name := "auditSums", fn := fun _ => fun
  | [d1, d2] => { results := [.lit (.bool false)], args := [d1, d2] }
  | _ => none }
def AuditSumsWrongFalsely : Prop := auditSumsRow.holds Try.pinned (OpenSpec.ofChange auditSumsWrong)

/-- 'mortmainlaw18.AuditVerifies': WHATEVER THE INPUT: true; the input reads as it did. -/
def auditVerifiesSpec : ChangeSpec := { name := "auditVerifies", fn := fun _ => fun
  | [d1, d2] => { results := [.lit (.bool true)], args := [d1, d2] }
  | _ => none }
def auditVerifiesRow : OpenClaim := { program := "ytblpmjbddpadcaa", sum := "5748ecf1e08b225ac73b89c342c6d0c35e2232f1f5e849f4edc60c8296410626", func := "mortmain/mortmainlaw18.AuditVerifies", spec := "auditVerifies", unfollowed := true, recurses := true, plainKeys := false, apart := false }
def AuditVerifiesSaid : Prop := auditVerifiesRow.holds Try.pinned (OpenSpec.ofChange auditVerifiesSpec)

/-- ITS FALSE NEIGHBOUR: 'it returns false'. Refute it at one input. -/
def auditVerifiesWrong : ChangeSpec := { name := "auditVerifies", fn := fun _ => fun
  | [d1, d2] => { results := [.lit (.bool false)], args := [d1, d2] }
  | _ => none }
def AuditVerifiesWrongFalsely : Prop := auditVerifiesRow.holds Try.pinned (OpenSpec.ofChange auditVerifiesWrong)

/-- 'mortmainlaw18.AuditTells': WHATEVER THE INPUT: true; the input reads as it did. -/
def auditTellsSpec : ChangeSpec := { name := "auditTells", fn := fun _ => fun
  | [d1, d2] => { results := [.lit (.bool true)], args := [d1, d2] }
  | _ => none }
def auditTellsRow : OpenClaim := { program := "ytblpmjbddpadcaa", sum := "5748ecf1e08b225ac73b89c342c6d0c35e2232f1f5e849f4edc60c8296410626", func := "mortmain/mortmainlaw18.AuditTells", spec := "auditTells", unfollowed := true, recurses := true, plainKeys := false, apart := false }
def AuditTellsSaid : Prop := auditTellsRow.holds Try.pinned (OpenSpec.ofChange auditTellsSpec)

/-- ITS FALSE NEIGHBOUR: 'it returns false'. Refute it at one input. -/
def auditTellsWrong : ChangeSpec := { name := "auditTells", fn := fun _ => fun
  | [d1, d2] => { results := [.lit (.bool false)], args := [d1, d2] }
  | _ => none }
def AuditTellsWrongFalsely : Prop := auditTellsRow.holds Try.pinned (OpenSpec.ofChange auditTellsWrong)

/-- 'mortmainlaw18.AuditBack': WHATEVER THE INPUT: true; the input reads as it did. -/
def auditBackSpec : ChangeSpec := { name := "auditBack", fn := fun _ => fun
  | [d1, d2, d3] => { results := [.lit (.bool true)], args := [d1, d2, d3] }
  | _ => none }
def auditBackRow : OpenClaim := { program := "ytblpmjbddpadcaa", sum := "5748ecf1e08b225ac73b89c342c6d0c35e2232f1f5e849f4edc60c8296410626", func := "mortmain/mortmainlaw18.AuditBack", spec := "auditBack", unfollowed := true, recurses := true, plainKeys := false, apart := false }
def AuditBackSaid : Prop := auditBackRow.holds Try.pinned (OpenSpec.ofChange auditBackSpec)

/-- ITS FALSE NEIGHBOUR: 'it returns false'. Refute it at one input. -/
def auditBackWrong : ChangeSpec := { name := "auditBack", fn := fun _ => fun
  | [d1, d2, d3] => { results := [.lit (.bool false)], args := [d1, d2, d3] }
  | _ => none }
def AuditBackWrongFalsely : Prop := auditBackRow.holds Try.pinned (OpenSpec.ofChange auditBackWrong)

/-- 'mortmainlaw17.BinderPuts': WHATEVER THE INPUT: true; the input reads as it did. -/
def binderPutsSpec : ChangeSpec := { name := "binderPuts", fn := fun _ => fun
  | [d1, d2, d3, d4, d5] => { results := [.lit (.bool true)], args := [d1, d2, d3, d4, d5] }
  | _ => none }
def binderPutsRow : OpenClaim := { program := "ytblpmjbddpadcaa", sum := "5748ecf1e08b225ac73b89c342c6d0c35e2232f1f5e849f4edc60c8296410626", func := "mortmain/mortmainlaw17.BinderPuts", spec := "binderPuts", recurses := true, plainKeys := false, apart := false }
def BinderPutsSaid : Prop := binderPutsRow.holds Try.pinned (OpenSpec.ofChange binderPutsSpec)

/-- ITS FALSE NEIGHBOUR: 'it returns false'. Refute it at one input. -/
def binderPutsWrong : ChangeSpec := { name := "binderPuts", fn := fun _ => fun
  | [d1, d2, d3, d4, d5] => { results := [.lit (.bool false)], args := [d1, d2, d3, d4, d5] }
  | _ => none }
def BinderPutsWrongFalsely : Prop := binderPutsRow.holds Try.pinned (OpenSpec.ofChange binderPutsWrong)

/-- 'mortmainlaw17.BinderBack': WHATEVER THE INPUT: true; the input reads as it did. -/
def binderBackSpec : ChangeSpec := { name := "binderBack", fn := fun _ => fun
  | [d1, d2, d3, d4] => { results := [.lit (.bool true)], args := [d1, d2, d3, d4] }
  | _ => none }
def binderBackRow : OpenClaim := { program := "ytblpmjbddpadcaa", sum := "5748ecf1e08b225ac73b89c342c6d0c35e2232f1f5e849f4edc60c8296410626", func := "mortmain/mortmainlaw17.BinderBack", spec := "binderBack", recurses := true, plainKeys := false, apart := false }
def BinderBackSaid : Prop := binderBackRow.holds Try.pinned (OpenSpec.ofChange binderBackSpec)

/-- ITS FALSE NEIGHBOUR: 'it returns false'. Refute it at one input. -/
def binderBackWrong : ChangeSpec := { name := "binderBack", fn := fun _ => fun
  | [d1, d2, d3, d4] => { results := [.lit (.bool false)], args := [d1, d2, d3, d4] }
  | _ => none }
def BinderBackWrongFalsely : Prop := binderBackRow.holds Try.pinned (OpenSpec.ofChange binderBackWrong)

/-- 'mortmainlaw17.BinderUses': WHATEVER THE INPUT: true; the input reads as it did. -/
def binderUsesSpec : ChangeSpec := { name := "binderUses", fn := fun _ => fun
  | [d1, d2] => { results := [.lit (.bool true)], args := [d1, d2] }
  | _ => none }
def binderUsesRow : OpenClaim := { program := "ytblpmjbddpadcaa", sum := "5748ecf1e08b225ac73b89c342c6d0c35e2232f1f5e849f4edc60c8296410626", func := "mortmain/mortmainlaw17.BinderUses", spec := "binderUses", plainKeys := false, apart := false }
def BinderUsesSaid : Prop := binderUsesRow.holds Try.pinned (OpenSpec.ofChange binderUsesSpec)

/-- ITS FALSE NEIGHBOUR: 'it returns false'. Refute it at one input. -/
def binderUsesWrong : ChangeSpec := { name := "binderUses", fn := fun _ => fun
  | [d1, d2] => { results := [.lit (.bool false)], args := [d1, d2] }
  | _ => none }
def BinderUsesWrongFalsely : Prop := binderUsesRow.holds Try.pinned (OpenSpec.ofChange binderUsesWrong)

/-- 'mortmainlaw17.BinderOne': WHATEVER THE INPUT: true; the input reads as it did. -/
def binderOneSpec : ChangeSpec := { name := "binderOne", fn := fun _ => fun
  | [d1, d2] => { results := [.lit (.bool true)], args := [d1, d2] }
  | _ => none }
def binderOneRow : OpenClaim := { program := "ytblpmjbddpadcaa", sum := "5748ecf1e08b225ac73b89c342c6d0c35e2232f1f5e849f4edc60c8296410626", func := "mortmain/mortmainlaw17.BinderOne", spec := "binderOne", plainKeys := false, apart := false }
def BinderOneSaid : Prop := binderOneRow.holds Try.pinned (OpenSpec.ofChange binderOneSpec)

/-- ITS FALSE NEIGHBOUR: 'it returns false'. Refute it at one input. -/
def binderOneWrong : ChangeSpec := { name := "binderOne", fn := fun _ => fun
  | [d1, d2] => { results := [.lit (.bool false)], args := [d1, d2] }
  | _ => none }
def BinderOneWrongFalsely : Prop := binderOneRow.holds Try.pinned (OpenSpec.ofChange binderOneWrong)

/-- 'mortmainlaw34.HistoryTells': WHATEVER THE INPUT: true; the input reads as it did. -/
def historyTellsSpec : ChangeSpec := { name := "historyTells", fn := fun _ => fun
  | [d1, d2, d3, d4] => { results := [.lit (.bool true)], args := [d1, d2, d3, d4] }
  | _ => none }
def historyTellsRow : OpenClaim := { program := "ytblpmjbddpadcaa", sum := "5748ecf1e08b225ac73b89c342c6d0c35e2232f1f5e849f4edc60c8296410626", func := "mortmain/mortmainlaw34.HistoryTells", spec := "historyTells", unfollowed := true, recurses := true, plainKeys := false, apart := false }
def HistoryTellsSaid : Prop := historyTellsRow.holds Try.pinned (OpenSpec.ofChange historyTellsSpec)

/-- ITS FALSE NEIGHBOUR: 'it returns false'. Refute it at one input. -/
def historyTellsWrong : ChangeSpec := { name := "historyTells", fn := fun _ => fun
  | [d1, d2, d3, d4] => { results := [.lit (.bool false)], args := [d1, d2, d3, d4] }
  | _ => none }
def HistoryTellsWrongFalsely : Prop := historyTellsRow.holds Try.pinned (OpenSpec.ofChange historyTellsWrong)

/- THE SECOND FORM. 'bulk': how many values and letters a reading holds, each counted each time it is reached (what is shared counts as often as it is met; a slice's spare places count too). A statement '..UptoSaid' is the law's where the arguments, and the package variables that the reading takes, are together of bulk at most 1048576: NARROWER than '..Said'. Prove '..Said' where nothing that the law and all that it calls make is longer than what came in: it says more and counts as full. Else prove '..UptoSaid'. A law counts once. -/
mutual
def uptoBulk {H : Type} : DataW H → Nat
  | .lit (.string bytes) => bytes.length + 1
  | .lit _ => 1
  | .nil => 1
  | .ptr d => uptoBulk d + 1
  | .slice elems spare => uptoBulkAll elems + uptoBulkAll spare + 1
  | .agg parts => uptoBulkAll parts + 1
  | .iface _ d => uptoBulk d + 1
  | .map entries => uptoBulkEntries entries + 1
  | .held _ => 1
def uptoBulkAll {H : Type} : List (DataW H) → Nat
  | [] => 0
  | d :: r => uptoBulk d + uptoBulkAll r
def uptoBulkEntries {H : Type} : List (Lit × DataW H) → Nat
  | [] => 0
  | x :: r => uptoBulkEntry x + uptoBulkEntries r
def uptoBulkEntry {H : Type} : Lit × DataW H → Nat
  | (.string bytes, d) => bytes.length + uptoBulk d + 1
  | (_, d) => uptoBulk d + 1
 end
def uptoSmall : (H : Type) → List (DataW H) → Bool := fun _ ds => decide (uptoBulkAll ds ≤ 1048576)
def OpenSpec.upto (s : _root_.Go.ChangeSpec) : _root_.Go.OpenSpec := { _root_.Go.OpenSpec.ofChange s with cond := some uptoSmall }

/-- 'mortmainlaw23.MaskHides', WHERE WHAT IT READS IS OF BULK AT MOST 1048576: true; the input reads as it did. -/
def maskHidesUptoRow : OpenClaim := { program := "ytblpmjbddpadcaa", sum := "5748ecf1e08b225ac73b89c342c6d0c35e2232f1f5e849f4edc60c8296410626", func := "mortmain/mortmainlaw23.MaskHides", spec := "maskHides", unfollowed := true, recurses := true, plainKeys := false, apart := false, narrowed := true }
def MaskHidesUptoSaid : Prop := maskHidesUptoRow.holds Try.pinned (OpenSpec.upto maskHidesSpec)

/-- 'mortmainlaw23.MaskFinds', WHERE WHAT IT READS IS OF BULK AT MOST 1048576: true; the input reads as it did. -/
def maskFindsUptoRow : OpenClaim := { program := "ytblpmjbddpadcaa", sum := "5748ecf1e08b225ac73b89c342c6d0c35e2232f1f5e849f4edc60c8296410626", func := "mortmain/mortmainlaw23.MaskFinds", spec := "maskFinds", unfollowed := true, recurses := true, plainKeys := false, apart := false, narrowed := true }
def MaskFindsUptoSaid : Prop := maskFindsUptoRow.holds Try.pinned (OpenSpec.upto maskFindsSpec)

/-- 'mortmainlaw35.QuotaPlans', WHERE WHAT IT READS IS OF BULK AT MOST 1048576: true; the input reads as it did. -/
def quotaPlansUptoRow : OpenClaim := { program := "ytblpmjbddpadcaa", sum := "5748ecf1e08b225ac73b89c342c6d0c35e2232f1f5e849f4edc60c8296410626", func := "mortmain/mortmainlaw35.QuotaPlans", spec := "quotaPlans", unfollowed := true, recurses := true, plainKeys := false, apart := false, narrowed := true }
def QuotaPlansUptoSaid : Prop := quotaPlansUptoRow.holds Try.pinned (OpenSpec.upto quotaPlansSpec)

/-- 'mortmainlaw18.AuditSums', WHERE WHAT IT READS IS OF BULK AT MOST 1048576: true; the input reads as it did. -/
def auditSumsUptoRow : OpenClaim := { program := "ytblpmjbddpadcaa", sum := "5748ecf1e08b225ac73b89c342c6d0c35e2232f1f5e849f4edc60c8296410626", func := "mortmain/mortmainlaw18.AuditSums", spec := "auditSums", unfollowed := true, recurses := true, plainKeys := false, apart := false, narrowed := true }
def AuditSumsUptoSaid : Prop := auditSumsUptoRow.holds Try.pinned (OpenSpec.upto auditSumsSpec)

/-- 'mortmainlaw18.AuditVerifies', WHERE WHAT IT READS IS OF BULK AT MOST 1048576: true; the input reads as it did. -/
def auditVerifiesUptoRow : OpenClaim := { program := "ytblpmjbddpadcaa", sum := "5748ecf1e08b225ac73b89c342c6d0c35e2232f1f5e849f4edc60c8296410626", func := "mortmain/mortmainlaw18.AuditVerifies", spec := "auditVerifies", unfollowed := true, recurses := true, plainKeys := false, apart := false, narrowed := true }
def AuditVerifiesUptoSaid : Prop := auditVerifiesUptoRow.holds Try.pinned (OpenSpec.upto auditVerifiesSpec)

/-- 'mortmainlaw18.AuditTells', WHERE WHAT IT READS IS OF BULK AT MOST 1048576: true; the input reads as it did. -/
def auditTellsUptoRow : OpenClaim := { program := "ytblpmjbddpadcaa", sum := "5748ecf1e08b225ac73b89c342c6d0c35e2232f1f5e849f4edc60c8296410626", func := "mortmain/mortmainlaw18.AuditTells", spec := "auditTells", unfollowed := true, recurses := true, plainKeys := false, apart := false, narrowed := true }
def AuditTellsUptoSaid : Prop := auditTellsUptoRow.holds Try.pinned (OpenSpec.upto auditTellsSpec)

/-- 'mortmainlaw18.AuditBack', WHERE WHAT IT READS IS OF BULK AT MOST 1048576: true; the input reads as it did. -/
def auditBackUptoRow : OpenClaim := { program := "ytblpmjbddpadcaa", sum := "5748ecf1e08b225ac73b89c342c6d0c35e2232f1f5e849f4edc60c8296410626", func := "mortmain/mortmainlaw18.AuditBack", spec := "auditBack", unfollowed := true, recurses := true, plainKeys := false, apart := false, narrowed := true }
def AuditBackUptoSaid : Prop := auditBackUptoRow.holds Try.pinned (OpenSpec.upto auditBackSpec)

/-- 'mortmainlaw17.BinderPuts', WHERE WHAT IT READS IS OF BULK AT MOST 1048576: true; the input reads as it did. -/
def binderPutsUptoRow : OpenClaim := { program := "ytblpmjbddpadcaa", sum := "5748ecf1e08b225ac73b89c342c6d0c35e2232f1f5e849f4edc60c8296410626", func := "mortmain/mortmainlaw17.BinderPuts", spec := "binderPuts", recurses := true, plainKeys := false, apart := false, narrowed := true }
def BinderPutsUptoSaid : Prop := binderPutsUptoRow.holds Try.pinned (OpenSpec.upto binderPutsSpec)

/-- 'mortmainlaw17.BinderBack', WHERE WHAT IT READS IS OF BULK AT MOST 1048576: true; the input reads as it did. -/
def binderBackUptoRow : OpenClaim := { program := "ytblpmjbddpadcaa", sum := "5748ecf1e08b225ac73b89c342c6d0c35e2232f1f5e849f4edc60c8296410626", func := "mortmain/mortmainlaw17.BinderBack", spec := "binderBack", recurses := true, plainKeys := false, apart := false, narrowed := true }
def BinderBackUptoSaid : Prop := binderBackUptoRow.holds Try.pinned (OpenSpec.upto binderBackSpec)

/-- 'mortmainlaw17.BinderUses', WHERE WHAT IT READS IS OF BULK AT MOST 1048576: true; the input reads as it did. -/
def binderUsesUptoRow : OpenClaim := { program := "ytblpmjbddpadcaa", sum := "5748ecf1e08b225ac73b89c342c6d0c35e2232f1f5e849f4edc60c8296410626", func := "mortmain/mortmainlaw17.BinderUses", spec := "binderUses", plainKeys := false, apart := false, narrowed := true }
def BinderUsesUptoSaid : Prop := binderUsesUptoRow.holds Try.pinned (OpenSpec.upto binderUsesSpec)

/-- 'mortmainlaw17.BinderOne', WHERE WHAT IT READS IS OF BULK AT MOST 1048576: true; the input reads as it did. -/
def binderOneUptoRow : OpenClaim := { program := "ytblpmjbddpadcaa", sum := "5748ecf1e08b225ac73b89c342c6d0c35e2232f1f5e849f4edc60c8296410626", func := "mortmain/mortmainlaw17.BinderOne", spec := "binderOne", plainKeys := false, apart := false, narrowed := true }
def BinderOneUptoSaid : Prop := binderOneUptoRow.holds Try.pinned (OpenSpec.upto binderOneSpec)

/-- 'mortmainlaw34.HistoryTells', WHERE WHAT IT READS IS OF BULK AT MOST 1048576: true; the input reads as it did. -/
def historyTellsUptoRow : OpenClaim := { program := "ytblpmjbddpadcaa", sum := "5748ecf1e08b225ac73b89c342c6d0c35e2232f1f5e849f4edc60c8296410626", func := "mortmain/mortmainlaw34.HistoryTells", spec := "historyTells", unfollowed := true, recurses := true, plainKeys := false, apart := false, narrowed := true }
def HistoryTellsUptoSaid : Prop := historyTellsUptoRow.holds Try.pinned (OpenSpec.upto historyTellsSpec)

end Rows
end Go.Proofs.Ytblpmjbddpadcaa
