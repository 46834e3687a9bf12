/- Masks of disks: plans, parts, sectors without what is masked: plain laws. -/
import Derived.Test.YtpagpmioopaciaaGreatPCloS
import Derived.Test.YtpagpmioopaciaaGreatPChkS
import Derived.Test.YtpagpmioopaciaaGreatPActs
import Derived.Maps.RangeRun
set_option linter.unusedVariables false
set_option linter.unusedSimpArgs false
namespace Go.Mo
open Go.RowKit Go.Lib
structure Pl where
  s : Int
  t : Int
  c : Int
  a : Int
def plN (p : Pl) : Int := (2 * p.s + 6 - 1) / 6
def plTx (p : Pl) : Int := 5 + plN p
def plCl (p : Pl) : Int := plTx p + p.t
def plAu (p : Pl) : Int := plCl p + p.c
def plHd (p : Pl) : Int := plAu p + p.a
def plBo (p : Pl) : Int := plHd p + 1
def plRm (p : Pl) : Int := plN p + 9 + p.t
def plSl (p : Pl) : Int := plBo p + plRm p
def plTo (p : Pl) : Int := plSl p + p.s
def plEn (p : Pl) : Int := plN p * 6
def layC (p : Pl) : List Value := [.int .i64 p.s, .int .i64 p.t, .int .i64 p.c, .int .i64 p.a, .int .i64 5, .int .i64 (plTx p), .int .i64 (plCl p), .int .i64 (plAu p), .int .i64 (plHd p), .int .i64 (plBo p), .int .i64 (plSl p), .int .i64 (plTo p), .int .i64 (plEn p), .int .i64 (plRm p)]
end Go.Mo
set_option linter.unusedVariables false
set_option linter.unusedSimpArgs false
namespace Go.Mo
open Go.RowKit Go.Lib
end Go.Mo
set_option linter.unusedVariables false
set_option linter.unusedSimpArgs false
namespace Go.Mo
open Go.RowKit Go.Lib
abbrev CS := Bool × List UInt8
def sB (s : CS) (k : Int) : CS := (!curOk s.1 s.2 k, curL s.1 s.2 k)
def sT (s : CS) (k : Int) : CS := (curTextBad s.1 s.2 k, curL s.1 s.2 k)
def sN (s : CS) (k : Int) : Nat := curNum s.1 s.2 k
def sX (s : CS) (k : Int) : ByteArray := ⟨(curText s.1 s.2 k).toArray⟩
theorem curOut_len (b : Bool) (l : List UInt8) (k : Nat) (h : k ≤ 256) : (curOut b l (k : Int)).length = k := by
  unfold curOut; split
  · rename_i h1
    simp only [curOk, Bool.and_eq_true, decide_eq_true_eq] at h1
    rw [List.length_take]; omega
  · rw [List.length_replicate]; omega
def txRun (s : CS) : Nat → List ByteArray × CS
  | 0 => ([], s)
  | n + 1 => ((txRun s n).1 ++ [sX (txRun s n).2 16], sT (txRun s n).2 16)
def nmRun (s : CS) : Nat → List Int × CS
  | 0 => ([], s)
  | n + 1 => ((nmRun s n).1 ++ [(sN (nmRun s n).2 1 : Int)], sB (nmRun s n).2 1)
def k1 (l : List UInt8) : CS := sB (false, l) 4
def k2 (l : List UInt8) : CS := sB (k1 l) 32
def k3 (l : List UInt8) : CS := sB (k2 l) 1
def k4 (l : List UInt8) : CS := sB (k3 l) 6
def k5 (l : List UInt8) : CS := sB (k4 l) 1
def k6 (l : List UInt8) : CS := sB (k5 l) 6
def k7 (l : List UInt8) : CS := sT (k6 l) 32
def k8 (l : List UInt8) : CS := sB (k7 l) 1
def nH (l : List UInt8) : Nat := min (sN (k7 l) 1) 5
def k9 (l : List UInt8) : CS := (txRun (k8 l) (nH l)).2
def k10 (l : List UInt8) : CS := sB (k9 l) 1
def nT (l : List UInt8) : Nat := min (sN (k9 l) 1) 5
def k11 (l : List UInt8) : CS := (nmRun (k10 l) (nT l)).2
def rAd (l : List UInt8) : A32 := ⟨curOut (k1 l).1 (k1 l).2 32, curOut_len _ _ 32 (by decide)⟩
def rC (l : List UInt8) : Clp := ⟨rAd l, sN (k2 l) 1, sN (k3 l) 6, decide ((sN (k4 l) 1 : Int) = 1), sN (k5 l) 6, (txRun (k8 l) (nH l)).1, sX (k6 l) 32, (nmRun (k10 l) (nT l)).1⟩
def clpZ : Clp := ⟨a32Z, 0, 0, false, 0, [], ⟨#[]⟩, []⟩
def rTag (l : List UInt8) : Bool := decide (curOut false l 4 = [67, 76, 73, 80])
def rOk (l : List UInt8) : Bool := rTag l && (!(k11 l).1 && zeroL (k11 l).2) && decide (sN (k4 l) 1 < 2)
def rV (l : List UInt8) : Clp := if rTag l = true then rC l else clpZ
def gZ (x : List UInt8) : Prop := x = List.replicate 256 0
instance (x : List UInt8) : Decidable (gZ x) := by unfold gZ; infer_instance
def gOk (x : List UInt8) (m k : Int) : Bool := decide (¬ gZ x) && holdsL x && rOk (x.take 252) && decide (clpC (rV (x.take 252)) m k = 0)
def gV (x : List UInt8) (m k : Int) : Clp := if gOk x m k = true then rV (x.take 252) else clpZ
end Go.Mo
set_option linter.unusedVariables false
namespace Go.Mo
open Go.RowKit Go.Lib
/-- A clip with the slices of its holds and its texts. -/
abbrev CV := Clp × Value × Value
def cvC (x : CV) : List Value := clipC x.1 x.2.1 x.2.2
/-- What the slices of clips bear. -/
def cvSl (w : World) (l : List CV) : Prop := ∀ x ∈ l, Sl w x.2.1 1 x.1.holds.length (x.1.holds.map Value.string) ∧ Sl w x.2.2 1 x.1.texts.length (x.1.texts.map (Value.int .i64))
end Go.Mo
set_option linter.unusedVariables false
set_option linter.unusedSimpArgs false
namespace Go.Mo
open Go.RowKit Go.Lib
variable {P : Program} {n : Nat} {ops : Array Oper} {f : Fm} {w w0 : World} {S : List Nat} {H : List Res} {K : KP} {o : Oper} {rest : List Oper} {d : Nat} {x y z : Operand}
def cniI (s : Int) : List (Int × Int) → List (Int × Int)
  | [] => [(s, 1)]
  | q :: l => if q.1 = s then (q.1, q.2 + 1) :: l else q :: cniI s l
def tally (a : List (Int × Int)) (l : List Int) : List (Int × Int) := l.foldl (fun a t => cniI t a) a
def useM (l : List CV) : List (Int × Int) := l.foldl (fun a x => tally a x.1.texts) []
end Go.Mo
set_option linter.unusedVariables false
set_option linter.unusedSimpArgs false
namespace Go.Mo
open Go.RowKit Go.Lib
theorem kB_toNat {k : Int} (h0 : 0 ≤ k) (h1 : k < 256) : ((kB k).toNat : Int) = k := by
  rw [← kB_wrap, IntKind.wrap_u8]; omega
end Go.Mo
set_option linter.unusedVariables false
set_option linter.unusedSimpArgs false
namespace Go.Mo
open Go.RowKit
open Go.ChangeMaps (setBlock)
variable {P : Program} {n : Nat} {ops : Array Oper} {f : Fm} {w w0 : World} {S : List Nat} {H : List Res} {K : KP} {o : Oper} {rest : List Oper} {d : Nat} {x y z : Operand}
end Go.Mo
set_option linter.unusedVariables false
set_option linter.unusedSimpArgs false
namespace Go.Mo
open Go.RowKit Go.Lib
def bestOk (vis : Int → Int → Prop) (b m : Int) : Prop := (∀ t k, vis t k → k < m ∨ (k = m ∧ b ≤ t)) ∧ (vis b m ∨ (b = -1 ∧ m = 0 ∧ ∀ t k, ¬ vis t k))
theorem bestOk.first {vis : Int → Int → Prop} (h : ∀ t k, ¬ vis t k) : bestOk vis (-1) 0 := ⟨fun t k hv => absurd hv (h t k), .inr ⟨rfl, rfl, h⟩⟩
theorem bestOk.congr {vis vis' : Int → Int → Prop} {b m : Int} (h : bestOk vis b m) (e : ∀ t k, vis' t k ↔ vis t k) : bestOk vis' b m :=
  ⟨fun t k hv => h.1 t k ((e t k).1 hv), h.2.imp (fun q => (e _ _).2 q) (fun q => ⟨q.1, q.2.1, fun t k hv => q.2.2 t k ((e t k).1 hv)⟩)⟩
theorem bestOk.yes {vis vis' : Int → Int → Prop} {b m t k : Int} (h : bestOk vis b m) (e : ∀ u j, vis' u j ↔ vis u j ∨ (u = t ∧ j = k)) (hc : k > m ∨ (k = m ∧ t < b)) : bestOk vis' t k := by
  refine ⟨fun u j hv => ?_, .inl ((e _ _).2 (.inr ⟨rfl, rfl⟩))⟩
  rcases (e u j).1 hv with hv | ⟨rfl, rfl⟩
  · have := h.1 u j hv
    omega
  · omega
theorem bestOk.no {vis vis' : Int → Int → Prop} {b m t k : Int} (h : bestOk vis b m) (e : ∀ u j, vis' u j ↔ vis u j ∨ (u = t ∧ j = k)) (hk : 1 ≤ k) (hc : ¬ (k > m ∨ (k = m ∧ t < b))) : bestOk vis' b m := by
  refine ⟨fun u j hv => ?_, ?_⟩
  · rcases (e u j).1 hv with hv | ⟨rfl, rfl⟩
    · exact h.1 u j hv
    · omega
  · rcases h.2 with q | ⟨rfl, rfl, _⟩
    · exact .inl ((e _ _).2 (.inl q))
    · omega
theorem bestOk.same {vis : Int → Int → Prop} {b m b' m' : Int} (h : bestOk vis b m) (h' : bestOk vis b' m') : b = b' := by
  rcases h.2 with q | ⟨q1, q2, q3⟩
  · rcases h'.2 with r | ⟨_, _, r⟩
    · have := h.1 _ _ r
      have := h'.1 _ _ q
      omega
    · exact absurd q (r _ _)
  · rcases h'.2 with r | ⟨r1, _, _⟩
    · exact absurd r (q3 _ _)
    · omega
/-- The text that the most have: by all pairs of the tally. -/
def mostB (l : List CV) (b : Int) : Prop := ∃ m, bestOk (fun t k => (t, k) ∈ useM l) b m
theorem mostB.same {l : List CV} {b b' : Int} (h : mostB l b) (h' : mostB l b') : b = b' := by
  obtain ⟨m, h⟩ := h
  obtain ⟨m', h'⟩ := h'
  exact h.same h'
def gR (x : List UInt8) (m k : Int) : Bool := decide (gZ x ∨ gOk x m k = true)
end Go.Mo
set_option linter.unusedVariables false
set_option linter.unusedSimpArgs false
namespace Go.Mo
open Go.RowKit
abbrev AL := List (ByteArray × Value × Nat)
def alE (A : AL) : List MapEntry := A.map fun e => { key := .string e.1, val := e.2.1, born := e.2.2 }
def alF (s : ByteArray) : AL → Option (Nat × Value)
  | [] => none
  | e :: A => if s = e.1 then some (0, e.2.1) else (alF s A).map fun p => (p.1 + 1, p.2)
theorem al_none {s : ByteArray} : ∀ {A : AL}, alF s A = none ↔ ¬ s ∈ A.map (·.1)
  | [] => by simp [alF]
  | e :: A => by
    rw [alF, List.map_cons, List.mem_cons]
    by_cases q : s = e.1
    · simp [q]
    · have := al_none (s := s) (A := A)
      simp only [q, if_false, Option.map_eq_none_iff, false_or]
      exact this
/-- What is put: an entry that is there turns, another one comes last. -/
def alPut (A : AL) (s : ByteArray) (v : Value) (c : Nat) : AL := match alF s A with
  | some p => A.modify p.1 fun e => (s, v, e.2.2)
  | none => A ++ [(s, v, c)]
def alClk (A : AL) (s : ByteArray) (c : Nat) : Nat := match alF s A with
  | some _ => c
  | none => c + 1
section laws
variable {P : Program} {n : Nat} {ops : Array Oper} {f : Fm} {w w0 : World} {S : List Nat} {H : List Res} {K : KP} {o : Oper} {rest : List Oper} {d : Nat} {x y z : Operand}
end laws
structure AlOk (A : AL) (c : Nat) : Prop where
  keys : (A.map (·.1)).Nodup
  born : (A.map (·.2.2)).Nodup
  lt : ∀ e ∈ A, e.2.2 < c
theorem al_keys_modify {s : ByteArray} {v : Value} : ∀ {A : AL} {i : Nat} {u : Value}, alF s A = some (i, u) → (A.modify i fun e => (s, v, e.2.2)).map (·.1) = A.map (·.1) ∧ (A.modify i fun e => (s, v, e.2.2)).map (·.2.2) = A.map (·.2.2)
  | [], _, _, h => by cases h
  | e :: A, i, u, h => by
    rw [alF] at h
    split at h
    · rename_i q
      injection h with h; injection h with h1 h2
      subst h1
      rw [List.modify_zero_cons]
      exact ⟨by rw [List.map_cons, List.map_cons, q], rfl⟩
    · cases hq : alF s A with
      | none => rw [hq] at h; cases h
      | some p =>
        rw [hq] at h
        simp only [Option.map_some, Option.some.injEq, Prod.mk.injEq] at h
        obtain ⟨h1, h2⟩ := h
        subst h1
        obtain ⟨k1, k2⟩ := al_keys_modify (v := v) hq
        rw [List.modify_succ_cons]
        exact ⟨by rw [List.map_cons, List.map_cons, k1], by rw [List.map_cons, List.map_cons, k2]⟩
theorem AlOk.nil : AlOk [] 0 := ⟨.nil, .nil, by simp⟩
theorem AlOk.put {A : AL} {c : Nat} (h : AlOk A c) (s : ByteArray) (v : Value) : AlOk (alPut A s v c) (alClk A s c) := by
  unfold alPut alClk
  cases hq : alF s A with
  | none =>
    have hn := al_none.1 hq
    refine ⟨?_, ?_, ?_⟩
    · show ((A ++ [(s, v, c)]).map (·.1)).Nodup
      rw [List.map_append, List.nodup_append]
      exact ⟨h.keys, by simp, by simp only [List.map_cons, List.map_nil, List.mem_singleton]; rintro a ha b rfl e; exact hn (e ▸ ha)⟩
    · show ((A ++ [(s, v, c)]).map (·.2.2)).Nodup
      rw [List.map_append, List.nodup_append]
      refine ⟨h.born, by simp, ?_⟩
      simp only [List.map_cons, List.map_nil, List.mem_singleton]
      rintro a ha b rfl e
      obtain ⟨x, hx, rfl⟩ := List.mem_map.1 ha
      have := h.lt x hx
      omega
    · intro e he
      rcases List.mem_append.1 he with he | he
      · have := h.lt e he; show e.2.2 < c + 1; omega
      · rw [List.mem_singleton.1 he]; exact Nat.lt_succ_self c
  | some p =>
    obtain ⟨k1, k2⟩ := al_keys_modify (v := v) hq
    refine ⟨by show ((A.modify p.1 _).map _).Nodup; rw [k1]; exact h.keys, by show ((A.modify p.1 _).map _).Nodup; rw [k2]; exact h.born, ?_⟩
    intro e he
    have hm : e.2.2 ∈ (A.modify p.1 fun e => (s, v, e.2.2)).map (·.2.2) := List.mem_map_of_mem he
    rw [k2] at hm
    obtain ⟨x, hx, hxe⟩ := List.mem_map.1 hm
    rw [← hxe]; exact h.lt x hx
end Go.Mo
set_option linter.unusedVariables false
set_option linter.unusedSimpArgs false
namespace Go.Mo
open Go.RowKit
open Go.ChangeMaps (setBlock)
variable {P : Program} {n : Nat} {ops : Array Oper} {f : Fm} {w w0 : World} {S : List Nat} {H : List Res} {K : KP} {o : Oper} {rest : List Oper} {d : Nat} {x y z : Operand}
/-- What a range has come by, and what is left. -/
structure Came (A : AL) (q : AL) (seen : Array Nat) : Prop where
  perm : ∃ s : AL, (q ++ s).Perm A
  seen : seen = (q.map (·.2.2)).toArray
theorem Came.nil (A : AL) : Came A [] #[] := ⟨⟨A, List.Perm.refl _⟩, rfl⟩
theorem seen_iff {q : AL} {b : Nat} : ((q.map (·.2.2)).toArray.contains b) = true ↔ b ∈ q.map (·.2.2) := by
  rw [Array.contains_iff_mem]; simp
theorem Came.step {A q : AL} {seen : Array Nat} {e : MapEntry} (h : Came A q seen) (he : e ∈ (leftOf ⟨alE A⟩ seen).toList) : ∃ a : ByteArray × Value × Nat, a ∈ A ∧ e = { key := .string a.1, val := a.2.1, born := a.2.2 } ∧ Came A (q ++ [a]) (seen.push e.born) ∧ ∃ s : AL, (q ++ a :: s).Perm A := by
  obtain ⟨h1, h2⟩ := mem_left he
  obtain ⟨a, ha, rfl⟩ := List.mem_map.1 (show e ∈ A.map _ from h1)
  obtain ⟨⟨s, hs⟩, hseen⟩ := h
  rw [hseen] at h2
  have hnq : ¬ a ∈ q := fun hq => by
    have := seen_iff.2 (List.mem_map_of_mem (f := (·.2.2)) hq)
    rw [this] at h2; cases h2
  have has : a ∈ s := by
    rcases List.mem_append.1 (hs.mem_iff.2 ha) with q1 | q1
    · exact absurd q1 hnq
    · exact q1
  obtain ⟨u, v, rfl⟩ := List.append_of_mem has
  have hp : (q ++ a :: (u ++ v)).Perm A := (List.Perm.append_left q List.perm_middle.symm).trans hs
  refine ⟨a, ha, rfl, ⟨⟨u ++ v, by rw [List.append_assoc]; exact hp⟩, by rw [hseen]; simp⟩, ⟨u ++ v, hp⟩⟩
theorem Came.all {A q : AL} {seen : Array Nat} {c : Nat} (h : Came A q seen) (hA : AlOk A c) (h0 : (leftOf ⟨alE A⟩ seen).size = 0) : q.Perm A := by
  obtain ⟨⟨s, hs⟩, hseen⟩ := h
  have hnil : s = [] := by
    rcases s with _ | ⟨b, s⟩
    · rfl
    · exfalso
      have hb : b ∈ A := hs.mem_iff.1 (by simp)
      have hborn : (((q ++ b :: s).map (·.2.2))).Nodup := (hs.map _).nodup_iff.2 hA.born
      rw [List.map_append, List.nodup_append] at hborn
      have hnb : ¬ b.2.2 ∈ q.map (·.2.2) := fun hq => hborn.2.2 _ hq _ (by simp) rfl
      have hin : ({ key := .string b.1, val := b.2.1, born := b.2.2 } : MapEntry) ∈ (leftOf ⟨alE A⟩ seen).toList := by
        unfold leftOf
        rw [Array.toList_filter]
        refine List.mem_filter.2 ⟨List.mem_map.2 ⟨b, hb, rfl⟩, ?_⟩
        rw [hseen]
        cases hc : (q.map (·.2.2)).toArray.contains b.2.2 with
        | true => exact absurd (seen_iff.1 hc) hnb
        | false => rfl
      have hl : (leftOf ⟨alE A⟩ seen).toList.length = 0 := by simpa using h0
      rw [List.eq_nil_of_length_eq_zero hl] at hin
      cases hin
  rw [hnil, List.append_nil] at hs; exact hs
end Go.Mo
