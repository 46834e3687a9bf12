/- Masks of disks: plans, parts, sectors without what is masked: plain laws. -/
import Derived.Test.YtpagpmioopaciaaQCloS
set_option linter.unusedVariables false
set_option linter.unusedSimpArgs false
namespace Go.Mo
open Go.RowKit Go.Lib
structure Pl where
  s : Int
  t : Int
  c : Int
  a : Int
def plC (p : Pl) : List Value := [.int .i64 p.s, .int .i64 p.t, .int .i64 p.c, .int .i64 p.a]
def planB (p : Pl) : Bool := decide (1 ≤ p.s ∧ p.s ≤ 200) && (decide (1 ≤ p.t ∧ p.t ≤ 40) && (decide (1 ≤ p.c ∧ p.c ≤ 40) && decide (1 ≤ p.a ∧ p.a ≤ 80)))
def planC (p : Pl) : Int := if planB p then 0 else 2
theorem planB_iff {p : Pl} : planB p = true ↔ ((1 ≤ p.s ∧ p.s ≤ 200) ∧ (1 ≤ p.t ∧ p.t ≤ 40) ∧ (1 ≤ p.c ∧ p.c ≤ 40) ∧ 1 ≤ p.a ∧ p.a ≤ 80) := by simp [planB]
theorem planB_no {p : Pl} (h : ¬ ((1 ≤ p.s ∧ p.s ≤ 200) ∧ (1 ≤ p.t ∧ p.t ≤ 40) ∧ (1 ≤ p.c ∧ p.c ≤ 40) ∧ 1 ≤ p.a ∧ p.a ≤ 80)) : planB p = false := by
  cases hb : planB p
  · rfl
  · exact absurd (planB_iff.1 hb) h
theorem planC_no {p : Pl} (h : ¬ ((1 ≤ p.s ∧ p.s ≤ 200) ∧ (1 ≤ p.t ∧ p.t ≤ 40) ∧ (1 ≤ p.c ∧ p.c ≤ 40) ∧ 1 ≤ p.a ∧ p.a ≤ 80)) : planC p = 2 := by rw [planC, planB_no h]; rfl
theorem planC_yes {p : Pl} (h : (1 ≤ p.s ∧ p.s ≤ 200) ∧ (1 ≤ p.t ∧ p.t ≤ 40) ∧ (1 ≤ p.c ∧ p.c ≤ 40) ∧ 1 ≤ p.a ∧ p.a ≤ 80) : planC p = 0 := by rw [planC, planB_iff.2 h]; rfl
theorem planC_iff {p : Pl} : planC p = 0 ↔ planB p = true := by unfold planC; cases planB p <;> simp
def plN (p : Pl) : Int := (2 * p.s + 6 - 1) / 6
def plTx (p : Pl) : Int := 5 + plN p
def plCl (p : Pl) : Int := plTx p + p.t
def plAu (p : Pl) : Int := plCl p + p.c
def plHd (p : Pl) : Int := plAu p + p.a
def plBo (p : Pl) : Int := plHd p + 1
def plRm (p : Pl) : Int := plN p + 9 + p.t
def plSl (p : Pl) : Int := plBo p + plRm p
def plTo (p : Pl) : Int := plSl p + p.s
def plEn (p : Pl) : Int := plN p * 6
def layC (p : Pl) : List Value := [.int .i64 p.s, .int .i64 p.t, .int .i64 p.c, .int .i64 p.a, .int .i64 5, .int .i64 (plTx p), .int .i64 (plCl p), .int .i64 (plAu p), .int .i64 (plHd p), .int .i64 (plBo p), .int .i64 (plSl p), .int .i64 (plTo p), .int .i64 (plEn p), .int .i64 (plRm p)]
def layZ : List Value := List.replicate 14 (.int .i64 0)
def layV (p : Pl) : List Value := if planC p = 0 then layC p else layZ
theorem layV_yes {p : Pl} (h : planC p = 0) : layV p = layC p := by rw [layV, if_pos h]
theorem layV_no {p : Pl} (h : planC p = 2) : layV p = layZ := by rw [layV, if_neg (by rw [h]; decide)]
theorem pl_bounds {p : Pl} (h : planB p = true) : 1 ≤ plN p ∧ plN p ≤ 67 ∧ 2 * p.s ≤ 6 * plN p ∧ 6 * plN p < 2 * p.s + 6 := by
  have := planB_iff.1 h
  unfold plN
  omega
end Go.Mo
