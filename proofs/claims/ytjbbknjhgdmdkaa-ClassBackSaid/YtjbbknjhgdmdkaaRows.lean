/-
  No cell of these rows narrows 'for every input' (looked for: loops, veiled, ifaces, maps, wideKeys, modest, calm, conditions, laid).
  DERIVED. THE GIVEN ROWS OF THIS SEAT. 12 by the template 'for every input the law returns true; each argument reads behind the call as it read before'; 0 by the template 'total and deterministic' (their statements: YtjbbknjhgdmdkaaTotals.lean).
  GIVEN WITH THE SEED: the statements are not yours to turn. If you find one false, say at which input.
  Laid BY PROGRAM, IN A SANDBOX (cutbox-rows.mjs): the forced cells as the released guide's own fill.sh prints them over the translation 140d4abe6149d549… (all of the seat's roots in one cut). By AI agents, Wed Nov 11 2026. No macro, syntax, notation, axiom, sorry.
-/
import Derived.Test.YtjbbknjhgdmdkaaChecked
import GoSem.Claim
import GoSem.ClaimJoined
import GoSem.ClaimMapViews
import Derived.JoinedTies
import Derived.KernelRfl
namespace Go.Proofs.Ytjbbknjhgdmdkaa
/- THE CELL 'sum', in the pinned program and in every row, IS THE sha256 OF THE DUMP (.gsa) THAT YtjbbknjhgdmdkaaProg.lean LOADS. Nothing in Lean hashes anything: it is a label: what it is worth is what the hold of that sum in a sandbox is worth. -/
noncomputable def Try.pinned : Pinned := { name := "ytjbbknjhgdmdkaa", sum := "140d4abe6149d54937f1df6cbb8cb5afc8a2243f7bb6141dc89d4831fdded697", checked := Try.checked }
namespace Rows
def none {H : Type} : Left H := { results := [], args := [] }

/-- 'mortmainlaw28.AgendaDoes': WHATEVER THE INPUT: true; the input reads as it did. -/
def agendaDoesSpec : ChangeSpec := { name := "agendaDoes", fn := fun _ => fun
  | [d] => { results := [.lit (.bool true)], args := [d] }
  | _ => none }
def agendaDoesRow : OpenClaim := { program := "ytjbbknjhgdmdkaa", sum := "140d4abe6149d54937f1df6cbb8cb5afc8a2243f7bb6141dc89d4831fdded697", func := "mortmain/mortmainlaw28.AgendaDoes", spec := "agendaDoes", plainKeys := false, apart := false }
def AgendaDoesSaid : Prop := agendaDoesRow.holds Try.pinned (OpenSpec.ofChange agendaDoesSpec)

/-- ITS FALSE NEIGHBOUR: 'it returns false'. Refute it at one input. -/
def agendaDoesWrong : ChangeSpec := { name := "agendaDoes", fn := fun _ => fun
  | [d] => { results := [.lit (.bool false)], args := [d] }
  | _ => none }
def AgendaDoesWrongFalsely : Prop := agendaDoesRow.holds Try.pinned (OpenSpec.ofChange agendaDoesWrong)

/-- 'mortmainlaw28.AgendaDue': WHATEVER THE INPUT: true; the input reads as it did. -/
def agendaDueSpec : ChangeSpec := { name := "agendaDue", fn := fun _ => fun
  | [d1, d2] => { results := [.lit (.bool true)], args := [d1, d2] }
  | _ => none }
def agendaDueRow : OpenClaim := { program := "ytjbbknjhgdmdkaa", sum := "140d4abe6149d54937f1df6cbb8cb5afc8a2243f7bb6141dc89d4831fdded697", func := "mortmain/mortmainlaw28.AgendaDue", spec := "agendaDue", plainKeys := false, apart := false }
def AgendaDueSaid : Prop := agendaDueRow.holds Try.pinned (OpenSpec.ofChange agendaDueSpec)

/-- ITS FALSE NEIGHBOUR: 'it returns false'. Refute it at one input. -/
def agendaDueWrong : ChangeSpec := { name := "agendaDue", fn := fun _ => fun
  | [d1, d2] => { results := [.lit (.bool false)], args := [d1, d2] }
  | _ => none }
def AgendaDueWrongFalsely : Prop := agendaDueRow.holds Try.pinned (OpenSpec.ofChange agendaDueWrong)

/-- 'mortmainlaw23.MaskHides': WHATEVER THE INPUT: true; the input reads as it did. -/
def maskHidesSpec : ChangeSpec := { name := "maskHides", fn := fun _ => fun
  | [d1, d2, d3] => { results := [.lit (.bool true)], args := [d1, d2, d3] }
  | _ => none }
def maskHidesRow : OpenClaim := { program := "ytjbbknjhgdmdkaa", sum := "140d4abe6149d54937f1df6cbb8cb5afc8a2243f7bb6141dc89d4831fdded697", func := "mortmain/mortmainlaw23.MaskHides", spec := "maskHides", unfollowed := true, recurses := true, plainKeys := false, apart := false }
def MaskHidesSaid : Prop := maskHidesRow.holds Try.pinned (OpenSpec.ofChange maskHidesSpec)

/-- ITS FALSE NEIGHBOUR: 'it returns false'. Refute it at one input. -/
def maskHidesWrong : ChangeSpec := { name := "maskHides", fn := fun _ => fun
  | [d1, d2, d3] => { results := [.lit (.bool false)], args := [d1, d2, d3] }
  | _ => none }
def MaskHidesWrongFalsely : Prop := maskHidesRow.holds Try.pinned (OpenSpec.ofChange maskHidesWrong)

/-- 'mortmainlaw23.MaskFinds': WHATEVER THE INPUT: true; the input reads as it did. -/
def maskFindsSpec : ChangeSpec := { name := "maskFinds", fn := fun _ => fun
  | [d1, d2, d3] => { results := [.lit (.bool true)], args := [d1, d2, d3] }
  | _ => none }
def maskFindsRow : OpenClaim := { program := "ytjbbknjhgdmdkaa", sum := "140d4abe6149d54937f1df6cbb8cb5afc8a2243f7bb6141dc89d4831fdded697", func := "mortmain/mortmainlaw23.MaskFinds", spec := "maskFinds", unfollowed := true, recurses := true, plainKeys := false, apart := false }
def MaskFindsSaid : Prop := maskFindsRow.holds Try.pinned (OpenSpec.ofChange maskFindsSpec)

/-- ITS FALSE NEIGHBOUR: 'it returns false'. Refute it at one input. -/
def maskFindsWrong : ChangeSpec := { name := "maskFinds", fn := fun _ => fun
  | [d1, d2, d3] => { results := [.lit (.bool false)], args := [d1, d2, d3] }
  | _ => none }
def MaskFindsWrongFalsely : Prop := maskFindsRow.holds Try.pinned (OpenSpec.ofChange maskFindsWrong)

/-- 'mortmainlaw14.LeafPuts': WHATEVER THE INPUT: true; the input reads as it did. -/
def leafPutsSpec : ChangeSpec := { name := "leafPuts", fn := fun _ => fun
  | [d1, d2, d3, d4, d5] => { results := [.lit (.bool true)], args := [d1, d2, d3, d4, d5] }
  | _ => none }
def leafPutsRow : OpenClaim := { program := "ytjbbknjhgdmdkaa", sum := "140d4abe6149d54937f1df6cbb8cb5afc8a2243f7bb6141dc89d4831fdded697", func := "mortmain/mortmainlaw14.LeafPuts", spec := "leafPuts", recurses := true, plainKeys := false, apart := false }
def LeafPutsSaid : Prop := leafPutsRow.holds Try.pinned (OpenSpec.ofChange leafPutsSpec)

/-- ITS FALSE NEIGHBOUR: 'it returns false'. Refute it at one input. -/
def leafPutsWrong : ChangeSpec := { name := "leafPuts", fn := fun _ => fun
  | [d1, d2, d3, d4, d5] => { results := [.lit (.bool false)], args := [d1, d2, d3, d4, d5] }
  | _ => none }
def LeafPutsWrongFalsely : Prop := leafPutsRow.holds Try.pinned (OpenSpec.ofChange leafPutsWrong)

/-- 'mortmainlaw14.LeafBack': WHATEVER THE INPUT: true; the input reads as it did. -/
def leafBackSpec : ChangeSpec := { name := "leafBack", fn := fun _ => fun
  | [d1, d2, d3] => { results := [.lit (.bool true)], args := [d1, d2, d3] }
  | _ => none }
def leafBackRow : OpenClaim := { program := "ytjbbknjhgdmdkaa", sum := "140d4abe6149d54937f1df6cbb8cb5afc8a2243f7bb6141dc89d4831fdded697", func := "mortmain/mortmainlaw14.LeafBack", spec := "leafBack", recurses := true, plainKeys := false, apart := false }
def LeafBackSaid : Prop := leafBackRow.holds Try.pinned (OpenSpec.ofChange leafBackSpec)

/-- ITS FALSE NEIGHBOUR: 'it returns false'. Refute it at one input. -/
def leafBackWrong : ChangeSpec := { name := "leafBack", fn := fun _ => fun
  | [d1, d2, d3] => { results := [.lit (.bool false)], args := [d1, d2, d3] }
  | _ => none }
def LeafBackWrongFalsely : Prop := leafBackRow.holds Try.pinned (OpenSpec.ofChange leafBackWrong)

/-- 'mortmainlaw14.LeafOne': WHATEVER THE INPUT: true; the input reads as it did. -/
def leafOneSpec : ChangeSpec := { name := "leafOne", fn := fun _ => fun
  | [d1, d2] => { results := [.lit (.bool true)], args := [d1, d2] }
  | _ => none }
def leafOneRow : OpenClaim := { program := "ytjbbknjhgdmdkaa", sum := "140d4abe6149d54937f1df6cbb8cb5afc8a2243f7bb6141dc89d4831fdded697", func := "mortmain/mortmainlaw14.LeafOne", spec := "leafOne", plainKeys := false, apart := false }
def LeafOneSaid : Prop := leafOneRow.holds Try.pinned (OpenSpec.ofChange leafOneSpec)

/-- ITS FALSE NEIGHBOUR: 'it returns false'. Refute it at one input. -/
def leafOneWrong : ChangeSpec := { name := "leafOne", fn := fun _ => fun
  | [d1, d2] => { results := [.lit (.bool false)], args := [d1, d2] }
  | _ => none }
def LeafOneWrongFalsely : Prop := leafOneRow.holds Try.pinned (OpenSpec.ofChange leafOneWrong)

/-- 'mortmainlaw15.ClassDoes': WHATEVER THE INPUT: true; the input reads as it did. -/
def classDoesSpec : ChangeSpec := { name := "classDoes", fn := fun _ => fun
  | [d1, d2, d3] => { results := [.lit (.bool true)], args := [d1, d2, d3] }
  | _ => none }
def classDoesRow : OpenClaim := { program := "ytjbbknjhgdmdkaa", sum := "140d4abe6149d54937f1df6cbb8cb5afc8a2243f7bb6141dc89d4831fdded697", func := "mortmain/mortmainlaw15.ClassDoes", spec := "classDoes", plainKeys := false, apart := false }
def ClassDoesSaid : Prop := classDoesRow.holds Try.pinned (OpenSpec.ofChange classDoesSpec)

/-- ITS FALSE NEIGHBOUR: 'it returns false'. Refute it at one input. -/
def classDoesWrong : ChangeSpec := { name := "classDoes", fn := fun _ => fun
  | [d1, d2, d3] => { results := [.lit (.bool false)], args := [d1, d2, d3] }
  | _ => none }
def ClassDoesWrongFalsely : Prop := classDoesRow.holds Try.pinned (OpenSpec.ofChange classDoesWrong)

/-- 'mortmainlaw15.ClassLonger': WHATEVER THE INPUT: true; the input reads as it did. -/
def classLongerSpec : ChangeSpec := { name := "classLonger", fn := fun _ => fun
  | [d1, d2] => { results := [.lit (.bool true)], args := [d1, d2] }
  | _ => none }
def classLongerRow : OpenClaim := { program := "ytjbbknjhgdmdkaa", sum := "140d4abe6149d54937f1df6cbb8cb5afc8a2243f7bb6141dc89d4831fdded697", func := "mortmain/mortmainlaw15.ClassLonger", spec := "classLonger", plainKeys := false, apart := false }
def ClassLongerSaid : Prop := classLongerRow.holds Try.pinned (OpenSpec.ofChange classLongerSpec)

/-- ITS FALSE NEIGHBOUR: 'it returns false'. Refute it at one input. -/
def classLongerWrong : ChangeSpec := { name := "classLonger", fn := fun _ => fun
  | [d1, d2] => { results := [.lit (.bool false)], args := [d1, d2] }
  | _ => none }
def ClassLongerWrongFalsely : Prop := classLongerRow.holds Try.pinned (OpenSpec.ofChange classLongerWrong)

/-- 'mortmainlaw15.ClassBack': WHATEVER THE INPUT: true; the input reads as it did. -/
def classBackSpec : ChangeSpec := { name := "classBack", fn := fun _ => fun
  | [d1, d2] => { results := [.lit (.bool true)], args := [d1, d2] }
  | _ => none }
def classBackRow : OpenClaim := { program := "ytjbbknjhgdmdkaa", sum := "140d4abe6149d54937f1df6cbb8cb5afc8a2243f7bb6141dc89d4831fdded697", func := "mortmain/mortmainlaw15.ClassBack", spec := "classBack", recurses := true, plainKeys := false, apart := false }
def ClassBackSaid : Prop := classBackRow.holds Try.pinned (OpenSpec.ofChange classBackSpec)

/-- ITS FALSE NEIGHBOUR: 'it returns false'. Refute it at one input. -/
def classBackWrong : ChangeSpec := { name := "classBack", fn := fun _ => fun
  | [d1, d2] => { results := [.lit (.bool false)], args := [d1, d2] }
  | _ => none }
def ClassBackWrongFalsely : Prop := classBackRow.holds Try.pinned (OpenSpec.ofChange classBackWrong)

/-- 'mortmainlaw35.QuotaPlans': WHATEVER THE INPUT: true; the input reads as it did. -/
def quotaPlansSpec : ChangeSpec := { name := "quotaPlans", fn := fun _ => fun
  | [d1, d2, d3, d4] => { results := [.lit (.bool true)], args := [d1, d2, d3, d4] }
  | _ => none }
def quotaPlansRow : OpenClaim := { program := "ytjbbknjhgdmdkaa", sum := "140d4abe6149d54937f1df6cbb8cb5afc8a2243f7bb6141dc89d4831fdded697", func := "mortmain/mortmainlaw35.QuotaPlans", spec := "quotaPlans", unfollowed := true, recurses := true, plainKeys := false, apart := false }
def QuotaPlansSaid : Prop := quotaPlansRow.holds Try.pinned (OpenSpec.ofChange quotaPlansSpec)

/-- ITS FALSE NEIGHBOUR: 'it returns false'. Refute it at one input. -/
def quotaPlansWrong : ChangeSpec := { name := "quotaPlans", fn := fun _ => fun
  | [d1, d2, d3, d4] => { results := [.lit (.bool false)], args := [d1, d2, d3, d4] }
  | _ => none }
def QuotaPlansWrongFalsely : Prop := quotaPlansRow.holds Try.pinned (OpenSpec.ofChange quotaPlansWrong)

/-- 'mortmainlaw18.AuditSums': WHATEVER THE INPUT: true; the input reads as it did. -/
def auditSumsSpec : ChangeSpec := { name := "auditSums", fn := fun _ => fun
  | [d1, d2] => { results := [.lit (.bool true)], args := [d1, d2] }
  | _ => none }
def auditSumsRow : OpenClaim := { program := "ytjbbknjhgdmdkaa", sum := "140d4abe6149d54937f1df6cbb8cb5afc8a2243f7bb6141dc89d4831fdded697", func := "mortmain/mortmainlaw18.AuditSums", spec := "auditSums", unfollowed := true, recurses := true, plainKeys := false, apart := false }
def AuditSumsSaid : Prop := auditSumsRow.holds Try.pinned (OpenSpec.ofChange auditSumsSpec)

/-- ITS FALSE NEIGHBOUR: 'it returns false'. Refute it at one input. -/
def auditSumsWrong : ChangeSpec := { name := "auditSums", fn := fun _ => fun
  | [d1, d2] => { results := [.lit (.bool false)], args := [d1, d2] }
  | _ => none }
def AuditSumsWrongFalsely : Prop := auditSumsRow.holds Try.pinned (OpenSpec.ofChange auditSumsWrong)

/- THE SECOND FORM. 'bulk': how many values and letters a reading holds, each counted each time it is reached (what is shared counts as often as it is met; a slice's spare places count too). A statement '..UptoSaid' is the law's where the arguments, and the package variables that the reading takes, are together of bulk at most 1048576: NARROWER than '..Said'. Prove '..Said' where nothing that the law and all that it calls make is longer than what came in: it says more and counts as full. Else prove '..UptoSaid'. A law counts once. -/
mutual
def uptoBulk {H : Type} : DataW H → Nat
  | .lit (.string bytes) => bytes.length + 1
  | .lit _ => 1
  | .nil => 1
  | .ptr d => uptoBulk d + 1
  | .slice elems spare => uptoBulkAll elems + uptoBulkAll spare + 1
  | .agg parts => uptoBulkAll parts + 1
  | .iface _ d => uptoBulk d + 1
  | .map entries => uptoBulkEntries entries + 1
  | .held _ => 1
def uptoBulkAll {H : Type} : List (DataW H) → Nat
  | [] => 0
  | d :: r => uptoBulk d + uptoBulkAll r
def uptoBulkEntries {H : Type} : List (Lit × DataW H) → Nat
  | [] => 0
  | x :: r => uptoBulkEntry x + uptoBulkEntries r
def uptoBulkEntry {H : Type} : Lit × DataW H → Nat
  | (.string bytes, d) => bytes.length + uptoBulk d + 1
  | (_, d) => uptoBulk d + 1
 end
def uptoSmall : (H : Type) → List (DataW H) → Bool := fun _ ds => decide (uptoBulkAll ds ≤ 1048576)
def OpenSpec.upto (s : _root_.Go.ChangeSpec) : _root_.Go.OpenSpec := { _root_.Go.OpenSpec.ofChange s with cond := some uptoSmall }

/-- 'mortmainlaw28.AgendaDoes', WHERE WHAT IT READS IS OF BULK AT MOST 1048576: true; the input reads as it did. -/
def agendaDoesUptoRow : OpenClaim := { program := "ytjbbknjhgdmdkaa", sum := "140d4abe6149d54937f1df6cbb8cb5afc8a2243f7bb6141dc89d4831fdded697", func := "mortmain/mortmainlaw28.AgendaDoes", spec := "agendaDoes", plainKeys := false, apart := false, narrowed := true }
def AgendaDoesUptoSaid : Prop := agendaDoesUptoRow.holds Try.pinned (OpenSpec.upto agendaDoesSpec)

/-- 'mortmainlaw28.AgendaDue', WHERE WHAT IT READS IS OF BULK AT MOST 1048576: true; the input reads as it did. -/
def agendaDueUptoRow : OpenClaim := { program := "ytjbbknjhgdmdkaa", sum := "140d4abe6149d54937f1df6cbb8cb5afc8a2243f7bb6141dc89d4831fdded697", func := "mortmain/mortmainlaw28.AgendaDue", spec := "agendaDue", plainKeys := false, apart := false, narrowed := true }
def AgendaDueUptoSaid : Prop := agendaDueUptoRow.holds Try.pinned (OpenSpec.upto agendaDueSpec)

/-- 'mortmainlaw23.MaskHides', WHERE WHAT IT READS IS OF BULK AT MOST 1048576: true; the input reads as it did. -/
def maskHidesUptoRow : OpenClaim := { program := "ytjbbknjhgdmdkaa", sum := "140d4abe6149d54937f1df6cbb8cb5afc8a2243f7bb6141dc89d4831fdded697", func := "mortmain/mortmainlaw23.MaskHides", spec := "maskHides", unfollowed := true, recurses := true, plainKeys := false, apart := false, narrowed := true }
def MaskHidesUptoSaid : Prop := maskHidesUptoRow.holds Try.pinned (OpenSpec.upto maskHidesSpec)

/-- 'mortmainlaw23.MaskFinds', WHERE WHAT IT READS IS OF BULK AT MOST 1048576: true; the input reads as it did. -/
def maskFindsUptoRow : OpenClaim := { program := "ytjbbknjhgdmdkaa", sum := "140d4abe6149d54937f1df6cbb8cb5afc8a2243f7bb6141dc89d4831fdded697", func := "mortmain/mortmainlaw23.MaskFinds", spec := "maskFinds", unfollowed := true, recurses := true, plainKeys := false, apart := false, narrowed := true }
def MaskFindsUptoSaid : Prop := maskFindsUptoRow.holds Try.pinned (OpenSpec.upto maskFindsSpec)

/-- 'mortmainlaw14.LeafPuts', WHERE WHAT IT READS IS OF BULK AT MOST 1048576: true; the input reads as it did. -/
def leafPutsUptoRow : OpenClaim := { program := "ytjbbknjhgdmdkaa", sum := "140d4abe6149d54937f1df6cbb8cb5afc8a2243f7bb6141dc89d4831fdded697", func := "mortmain/mortmainlaw14.LeafPuts", spec := "leafPuts", recurses := true, plainKeys := false, apart := false, narrowed := true }
def LeafPutsUptoSaid : Prop := leafPutsUptoRow.holds Try.pinned (OpenSpec.upto leafPutsSpec)

/-- 'mortmainlaw14.LeafBack', WHERE WHAT IT READS IS OF BULK AT MOST 1048576: true; the input reads as it did. -/
def leafBackUptoRow : OpenClaim := { program := "ytjbbknjhgdmdkaa", sum := "140d4abe6149d54937f1df6cbb8cb5afc8a2243f7bb6141dc89d4831fdded697", func := "mortmain/mortmainlaw14.LeafBack", spec := "leafBack", recurses := true, plainKeys := false, apart := false, narrowed := true }
def LeafBackUptoSaid : Prop := leafBackUptoRow.holds Try.pinned (OpenSpec.upto leafBackSpec)

/-- 'mortmainlaw14.LeafOne', WHERE WHAT IT READS IS OF BULK AT MOST 1048576: true; the input reads as it did. -/
def leafOneUptoRow : OpenClaim := { program := "ytjbbknjhgdmdkaa", sum := "140d4abe6149d54937f1df6cbb8cb5afc8a2243f7bb6141dc89d4831fdded697", func := "mortmain/mortmainlaw14.LeafOne", spec := "leafOne", plainKeys := false, apart := false, narrowed := true }
def LeafOneUptoSaid : Prop := leafOneUptoRow.holds Try.pinned (OpenSpec.upto leafOneSpec)

/-- 'mortmainlaw15.ClassDoes', WHERE WHAT IT READS IS OF BULK AT MOST 1048576: true; the input reads as it did. -/
def classDoesUptoRow : OpenClaim := { program := "ytjbbknjhgdmdkaa", sum := "140d4abe6149d54937f1df6cbb8cb5afc8a2243f7bb6141dc89d4831fdded697", func := "mortmain/mortmainlaw15.ClassDoes", spec := "classDoes", plainKeys := false, apart := false, narrowed := true }
def ClassDoesUptoSaid : Prop := classDoesUptoRow.holds Try.pinned (OpenSpec.upto classDoesSpec)

/-- 'mortmainlaw15.ClassLonger', WHERE WHAT IT READS IS OF BULK AT MOST 1048576: true; the input reads as it did. -/
def classLongerUptoRow : OpenClaim := { program := "ytjbbknjhgdmdkaa", sum := "140d4abe6149d54937f1df6cbb8cb5afc8a2243f7bb6141dc89d4831fdded697", func := "mortmain/mortmainlaw15.ClassLonger", spec := "classLonger", plainKeys := false, apart := false, narrowed := true }
def ClassLongerUptoSaid : Prop := classLongerUptoRow.holds Try.pinned (OpenSpec.upto classLongerSpec)

/-- 'mortmainlaw15.ClassBack', WHERE WHAT IT READS IS OF BULK AT MOST 1048576: true; the input reads as it did. -/
def classBackUptoRow : OpenClaim := { program := "ytjbbknjhgdmdkaa", sum := "140d4abe6149d54937f1df6cbb8cb5afc8a2243f7bb6141dc89d4831fdded697", func := "mortmain/mortmainlaw15.ClassBack", spec := "classBack", recurses := true, plainKeys := false, apart := false, narrowed := true }
def ClassBackUptoSaid : Prop := classBackUptoRow.holds Try.pinned (OpenSpec.upto classBackSpec)

/-- 'mortmainlaw35.QuotaPlans', WHERE WHAT IT READS IS OF BULK AT MOST 1048576: true; the input reads as it did. -/
def quotaPlansUptoRow : OpenClaim := { program := "ytjbbknjhgdmdkaa", sum := "140d4abe6149d54937f1df6cbb8cb5afc8a2243f7bb6141dc89d4831fdded697", func := "mortmain/mortmainlaw35.QuotaPlans", spec := "quotaPlans", unfollowed := true, recurses := true, plainKeys := false, apart := false, narrowed := true }
def QuotaPlansUptoSaid : Prop := quotaPlansUptoRow.holds Try.pinned (OpenSpec.upto quotaPlansSpec)

/-- 'mortmainlaw18.AuditSums', WHERE WHAT IT READS IS OF BULK AT MOST 1048576: true; the input reads as it did. -/
def auditSumsUptoRow : OpenClaim := { program := "ytjbbknjhgdmdkaa", sum := "140d4abe6149d54937f1df6cbb8cb5afc8a2243f7bb6141dc89d4831fdded697", func := "mortmain/mortmainlaw18.AuditSums", spec := "auditSums", unfollowed := true, recurses := true, plainKeys := false, apart := false, narrowed := true }
def AuditSumsUptoSaid : Prop := auditSumsUptoRow.holds Try.pinned (OpenSpec.upto auditSumsSpec)

end Rows
end Go.Proofs.Ytjbbknjhgdmdkaa
