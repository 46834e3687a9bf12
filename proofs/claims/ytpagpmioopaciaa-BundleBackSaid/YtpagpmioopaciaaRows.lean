/-
  No cell of these rows narrows 'for every input' (looked for: loops, veiled, ifaces, maps, wideKeys, modest, calm, conditions, laid).
  DERIVED. THE GIVEN ROWS OF THIS SEAT. 6 by the template 'for every input the law returns true; each argument reads behind the call as it read before'; 0 by the template 'total and deterministic' (their statements: YtpagpmioopaciaaTotals.lean).
  GIVEN WITH THE SEED: the statements are not yours to turn. If you find one false, say at which input.
  Laid BY PROGRAM, IN A SANDBOX (cutbox-rows.mjs): the forced cells as the released guide's own fill.sh prints them over the translation 5181d21681f4bf8d… (all of the seat's roots in one cut). By AI agents, Wed Nov 11 2026. No macro, syntax, notation, axiom, sorry.
-/
import Derived.Test.YtpagpmioopaciaaChecked
import GoSem.Claim
import GoSem.ClaimJoined
import GoSem.ClaimMapViews
import Derived.JoinedTies
import Derived.KernelRfl
namespace Go.Proofs.Ytpagpmioopaciaa
/- THE CELL 'sum', in the pinned program and in every row, IS THE sha256 OF THE DUMP (.gsa) THAT YtpagpmioopaciaaProg.lean LOADS. Nothing in Lean hashes anything: it is a label: what it is worth is what the hold of that sum in a sandbox is worth. -/
noncomputable def Try.pinned : Pinned := { name := "ytpagpmioopaciaa", sum := "5181d21681f4bf8d75aa8537f5c3e3b5ad294bd8d82faea619a2bb9b479b51ce", checked := Try.checked }
namespace Rows
def none {H : Type} : Left H := { results := [], args := [] }

/-- 'mortmainlaw35.QuotaPlans': WHATEVER THE INPUT: true; the input reads as it did. -/
def quotaPlansSpec : ChangeSpec := { name := "quotaPlans", fn := fun _ => fun
  | [d1, d2, d3, d4] => { results := [.lit (.bool true)], args := [d1, d2, d3, d4] }
  | _ => none }
def quotaPlansRow : OpenClaim := { program := "ytpagpmioopaciaa", sum := "5181d21681f4bf8d75aa8537f5c3e3b5ad294bd8d82faea619a2bb9b479b51ce", func := "mortmain/mortmainlaw35.QuotaPlans", spec := "quotaPlans", unfollowed := true, recurses := true, plainKeys := false, apart := false }
def QuotaPlansSaid : Prop := quotaPlansRow.holds Try.pinned (OpenSpec.ofChange quotaPlansSpec)

/-- ITS FALSE NEIGHBOUR: 'it returns false'. Refute it at one input. -/
def quotaPlansWrong : ChangeSpec := { name := "quotaPlans", fn := fun _ => fun
  | [d1, d2, d3, d4] => { results := [.lit (.bool false)], args := [d1, d2, d3, d4] }
  | _ => none }
def QuotaPlansWrongFalsely : Prop := quotaPlansRow.holds Try.pinned (OpenSpec.ofChange quotaPlansWrong)

/-- 'mortmainlaw37.GuardRights': WHATEVER THE INPUT: true; the input reads as it did. -/
def guardRightsSpec : ChangeSpec := { name := "guardRights", fn := fun _ => fun
  | [d1, d2, d3] => { results := [.lit (.bool true)], args := [d1, d2, d3] }
  | _ => none }
def guardRightsRow : OpenClaim := { program := "ytpagpmioopaciaa", sum := "5181d21681f4bf8d75aa8537f5c3e3b5ad294bd8d82faea619a2bb9b479b51ce", func := "mortmain/mortmainlaw37.GuardRights", spec := "guardRights", unfollowed := true, recurses := true, plainKeys := false, apart := false }
def GuardRightsSaid : Prop := guardRightsRow.holds Try.pinned (OpenSpec.ofChange guardRightsSpec)

/-- ITS FALSE NEIGHBOUR: 'it returns false'. Refute it at one input. -/
def guardRightsWrong : ChangeSpec := { name := "guardRights", fn := fun _ => fun
  | [d1, d2, d3] => { results := [.lit (.bool false)], args := [d1, d2, d3] }
  | _ => none }
def GuardRightsWrongFalsely : Prop := guardRightsRow.holds Try.pinned (OpenSpec.ofChange guardRightsWrong)

/-- 'mortmainlaw37.GuardDoes': WHATEVER THE INPUT: true; the input reads as it did. -/
def guardDoesSpec : ChangeSpec := { name := "guardDoes", fn := fun _ => fun
  | [d1, d2, d3] => { results := [.lit (.bool true)], args := [d1, d2, d3] }
  | _ => none }
def guardDoesRow : OpenClaim := { program := "ytpagpmioopaciaa", sum := "5181d21681f4bf8d75aa8537f5c3e3b5ad294bd8d82faea619a2bb9b479b51ce", func := "mortmain/mortmainlaw37.GuardDoes", spec := "guardDoes", unfollowed := true, recurses := true, plainKeys := false, apart := false }
def GuardDoesSaid : Prop := guardDoesRow.holds Try.pinned (OpenSpec.ofChange guardDoesSpec)

/-- ITS FALSE NEIGHBOUR: 'it returns false'. Refute it at one input. -/
def guardDoesWrong : ChangeSpec := { name := "guardDoes", fn := fun _ => fun
  | [d1, d2, d3] => { results := [.lit (.bool false)], args := [d1, d2, d3] }
  | _ => none }
def GuardDoesWrongFalsely : Prop := guardDoesRow.holds Try.pinned (OpenSpec.ofChange guardDoesWrong)

/-- 'mortmainlaw37.GuardDeeds': WHATEVER THE INPUT: true; the input reads as it did. -/
def guardDeedsSpec : ChangeSpec := { name := "guardDeeds", fn := fun _ => fun
  | [d1, d2, d3, d4] => { results := [.lit (.bool true)], args := [d1, d2, d3, d4] }
  | _ => none }
def guardDeedsRow : OpenClaim := { program := "ytpagpmioopaciaa", sum := "5181d21681f4bf8d75aa8537f5c3e3b5ad294bd8d82faea619a2bb9b479b51ce", func := "mortmain/mortmainlaw37.GuardDeeds", spec := "guardDeeds", unfollowed := true, recurses := true, plainKeys := false, apart := false }
def GuardDeedsSaid : Prop := guardDeedsRow.holds Try.pinned (OpenSpec.ofChange guardDeedsSpec)

/-- ITS FALSE NEIGHBOUR: 'it returns false'. Refute it at one input. -/
def guardDeedsWrong : ChangeSpec := { name := "guardDeeds", fn := fun _ => fun
  | [d1, d2, d3, d4] => { results := [.lit (.bool false)], args := [d1, d2, d3, d4] }
  | _ => none }
def GuardDeedsWrongFalsely : Prop := guardDeedsRow.holds Try.pinned (OpenSpec.ofChange guardDeedsWrong)

/-- 'mortmainlaw33.BundleBack': WHATEVER THE INPUT: true; the input reads as it did. -/
def bundleBackSpec : ChangeSpec := { name := "bundleBack", fn := fun _ => fun
  | [d1, d2] => { results := [.lit (.bool true)], args := [d1, d2] }
  | _ => none }
def bundleBackRow : OpenClaim := { program := "ytpagpmioopaciaa", sum := "5181d21681f4bf8d75aa8537f5c3e3b5ad294bd8d82faea619a2bb9b479b51ce", func := "mortmain/mortmainlaw33.BundleBack", spec := "bundleBack", unfollowed := true, recurses := true, plainKeys := false, apart := false }
def BundleBackSaid : Prop := bundleBackRow.holds Try.pinned (OpenSpec.ofChange bundleBackSpec)

/-- ITS FALSE NEIGHBOUR: 'it returns false'. Refute it at one input. -/
def bundleBackWrong : ChangeSpec := { name := "bundleBack", fn := fun _ => fun
  | [d1, d2] => { results := [.lit (.bool false)], args := [d1, d2] }
  | _ => none }
def BundleBackWrongFalsely : Prop := bundleBackRow.holds Try.pinned (OpenSpec.ofChange bundleBackWrong)

/-- 'mortmainlaw33.BundleTurns': WHATEVER THE INPUT: true; the input reads as it did. -/
def bundleTurnsSpec : ChangeSpec := { name := "bundleTurns", fn := fun _ => fun
  | [d1, d2, d3] => { results := [.lit (.bool true)], args := [d1, d2, d3] }
  | _ => none }
def bundleTurnsRow : OpenClaim := { program := "ytpagpmioopaciaa", sum := "5181d21681f4bf8d75aa8537f5c3e3b5ad294bd8d82faea619a2bb9b479b51ce", func := "mortmain/mortmainlaw33.BundleTurns", spec := "bundleTurns", unfollowed := true, recurses := true, plainKeys := false, apart := false }
def BundleTurnsSaid : Prop := bundleTurnsRow.holds Try.pinned (OpenSpec.ofChange bundleTurnsSpec)

/-- ITS FALSE NEIGHBOUR: 'it returns false'. Refute it at one input. -/
def bundleTurnsWrong : ChangeSpec := { name := "bundleTurns", fn := fun _ => fun
  | [d1, d2, d3] => { results := [.lit (.bool false)], args := [d1, d2, d3] }
  | _ => none }
def BundleTurnsWrongFalsely : Prop := bundleTurnsRow.holds Try.pinned (OpenSpec.ofChange bundleTurnsWrong)

/- THE SECOND FORM. 'bulk': how many values and letters a reading holds, each counted each time it is reached (what is shared counts as often as it is met; a slice's spare places count too). A statement '..UptoSaid' is the law's where the arguments, and the package variables that the reading takes, are together of bulk at most 1048576: NARROWER than '..Said'. Prove '..Said' where nothing that the law and all that it calls make is longer than what came in: it says more and counts as full. Else prove '..UptoSaid'. A law counts once. -/
mutual
def uptoBulk {H : Type} : DataW H → Nat
  | .lit (.string bytes) => bytes.length + 1
  | .lit _ => 1
  | .nil => 1
  | .ptr d => uptoBulk d + 1
  | .slice elems spare => uptoBulkAll elems + uptoBulkAll spare + 1
  | .agg parts => uptoBulkAll parts + 1
  | .iface _ d => uptoBulk d + 1
  | .map entries => uptoBulkEntries entries + 1
  | .held _ => 1
def uptoBulkAll {H : Type} : List (DataW H) → Nat
  | [] => 0
  | d :: r => uptoBulk d + uptoBulkAll r
def uptoBulkEntries {H : Type} : List (Lit × DataW H) → Nat
  | [] => 0
  | x :: r => uptoBulkEntry x + uptoBulkEntries r
def uptoBulkEntry {H : Type} : Lit × DataW H → Nat
  | (.string bytes, d) => bytes.length + uptoBulk d + 1
  | (_, d) => uptoBulk d + 1
 end
def uptoSmall : (H : Type) → List (DataW H) → Bool := fun _ ds => decide (uptoBulkAll ds ≤ 1048576)
def OpenSpec.upto (s : _root_.Go.ChangeSpec) : _root_.Go.OpenSpec := { _root_.Go.OpenSpec.ofChange s with cond := some uptoSmall }

/-- 'mortmainlaw35.QuotaPlans', WHERE WHAT IT READS IS OF BULK AT MOST 1048576: true; the input reads as it did. -/
def quotaPlansUptoRow : OpenClaim := { program := "ytpagpmioopaciaa", sum := "5181d21681f4bf8d75aa8537f5c3e3b5ad294bd8d82faea619a2bb9b479b51ce", func := "mortmain/mortmainlaw35.QuotaPlans", spec := "quotaPlans", unfollowed := true, recurses := true, plainKeys := false, apart := false, narrowed := true }
def QuotaPlansUptoSaid : Prop := quotaPlansUptoRow.holds Try.pinned (OpenSpec.upto quotaPlansSpec)

/-- 'mortmainlaw37.GuardRights', WHERE WHAT IT READS IS OF BULK AT MOST 1048576: true; the input reads as it did. -/
def guardRightsUptoRow : OpenClaim := { program := "ytpagpmioopaciaa", sum := "5181d21681f4bf8d75aa8537f5c3e3b5ad294bd8d82faea619a2bb9b479b51ce", func := "mortmain/mortmainlaw37.GuardRights", spec := "guardRights", unfollowed := true, recurses := true, plainKeys := false, apart := false, narrowed := true }
def GuardRightsUptoSaid : Prop := guardRightsUptoRow.holds Try.pinned (OpenSpec.upto guardRightsSpec)

/-- 'mortmainlaw37.GuardDoes', WHERE WHAT IT READS IS OF BULK AT MOST 1048576: true; the input reads as it did. -/
def guardDoesUptoRow : OpenClaim := { program := "ytpagpmioopaciaa", sum := "5181d21681f4bf8d75aa8537f5c3e3b5ad294bd8d82faea619a2bb9b479b51ce", func := "mortmain/mortmainlaw37.GuardDoes", spec := "guardDoes", unfollowed := true, recurses := true, plainKeys := false, apart := false, narrowed := true }
def GuardDoesUptoSaid : Prop := guardDoesUptoRow.holds Try.pinned (OpenSpec.upto guardDoesSpec)

/-- 'mortmainlaw37.GuardDeeds', WHERE WHAT IT READS IS OF BULK AT MOST 1048576: true; the input reads as it did. -/
def guardDeedsUptoRow : OpenClaim := { program := "ytpagpmioopaciaa", sum := "5181d21681f4bf8d75aa8537f5c3e3b5ad294bd8d82faea619a2bb9b479b51ce", func := "mortmain/mortmainlaw37.GuardDeeds", spec := "guardDeeds", unfollowed := true, recurses := true, plainKeys := false, apart := false, narrowed := true }
def GuardDeedsUptoSaid : Prop := guardDeedsUptoRow.holds Try.pinned (OpenSpec.upto guardDeedsSpec)

/-- 'mortmainlaw33.BundleBack', WHERE WHAT IT READS IS OF BULK AT MOST 1048576: true; the input reads as it did. -/
def bundleBackUptoRow : OpenClaim := { program := "ytpagpmioopaciaa", sum := "5181d21681f4bf8d75aa8537f5c3e3b5ad294bd8d82faea619a2bb9b479b51ce", func := "mortmain/mortmainlaw33.BundleBack", spec := "bundleBack", unfollowed := true, recurses := true, plainKeys := false, apart := false, narrowed := true }
def BundleBackUptoSaid : Prop := bundleBackUptoRow.holds Try.pinned (OpenSpec.upto bundleBackSpec)

/-- 'mortmainlaw33.BundleTurns', WHERE WHAT IT READS IS OF BULK AT MOST 1048576: true; the input reads as it did. -/
def bundleTurnsUptoRow : OpenClaim := { program := "ytpagpmioopaciaa", sum := "5181d21681f4bf8d75aa8537f5c3e3b5ad294bd8d82faea619a2bb9b479b51ce", func := "mortmain/mortmainlaw33.BundleTurns", spec := "bundleTurns", unfollowed := true, recurses := true, plainKeys := false, apart := false, narrowed := true }
def BundleTurnsUptoSaid : Prop := bundleTurnsUptoRow.holds Try.pinned (OpenSpec.upto bundleTurnsSpec)

end Rows
end Go.Proofs.Ytpagpmioopaciaa
