/- A guard that turns: roles defined, people granted and revoked. -/
import Derived.Test.YtpagpmioopaciaaGGuaG
set_option linter.unusedVariables false
set_option linter.unusedSimpArgs false
namespace Go.Mo
open Go.RowKit
def upd1 (ct : CT) (who : ByteArray) (l : List ByteArray) : CT := fun s => if s = who then l else ct s
theorem upd1_self (ct : CT) (who : ByteArray) (l : List ByteArray) : upd1 ct who l who = l := if_pos rfl
theorem upd1_ne {ct : CT} {who s : ByteArray} {l : List ByteArray} (h : ¬ s = who) : upd1 ct who l s = ct s := if_neg h
theorem al_other {A : AL} {i k : Nat} {e : ByteArray × Value × Nat} {s : ByteArray} {v : Value} (hn : (A.map (·.1)).Nodup) (hi : alF s A = some (i, v)) (hk : A[k]? = some e) (hne : ¬ k = i) : ¬ e.1 = s := by
  intro he
  obtain ⟨b, hb⟩ := al_lt hi
  have h1 : (A.map (·.1))[i]? = some s := by rw [List.getElem?_map, hb]; rfl
  have h2 : (A.map (·.1))[k]? = some s := by rw [List.getElem?_map, hk]; simp [he]
  obtain ⟨l1, e1⟩ := List.getElem?_eq_some_iff.1 h1
  obtain ⟨l2, e2⟩ := List.getElem?_eq_some_iff.1 h2
  have hp := List.pairwise_iff_getElem.1 hn
  rcases Nat.lt_or_gt_of_ne hne with q | q
  · exact hp k i l2 l1 q (e2.trans e1.symm)
  · exact hp i k l1 l2 q (e1.trans e2.symm)
theorem rowsG_old {T : Nat} {PA : AL} {ct : CT} {who : ByteArray} {v : Value} {l : List ByteArray} {p : Nat × Value} (hn : (PA.map (·.1)).Nodup) (h : alF who PA = some p) : rowsG T (PA.modify p.1 fun e => (who, v, e.2.2)) (upd1 ct who l) = (rowsG T PA ct).set p.1 (.row T 1 v l.length (l.map Value.string)) := by
  unfold rowsG
  apply List.ext_getElem?
  intro k
  rw [List.getElem?_map, List.getElem?_modify, List.getElem?_set, List.getElem?_map, List.length_map]
  obtain ⟨b, hb⟩ := al_lt h
  by_cases hk : p.1 = k
  · subst hk
    rw [hb]
    have hl := (List.getElem?_eq_some_iff.1 hb).1
    simp [hl, upd1_self]
  · simp only [hk, if_false]
    cases he : PA[k]? with
    | none => rfl
    | some e =>
      have := al_other hn h he (fun q => hk q.symm)
      simp [upd1_ne this]
theorem rowsG_new {T : Nat} {PA : AL} {ct : CT} {who : ByteArray} {v : Value} {c : Nat} {l : List ByteArray} (h : alF who PA = none) : rowsG T (PA ++ [(who, v, c)]) (upd1 ct who l) = rowsG T PA ct ++ [.row T 1 v l.length (l.map Value.string)] := by
  unfold rowsG
  rw [List.map_append, List.map_cons, List.map_nil]
  congr 1
  · apply List.map_congr_left
    intro e he
    have : ¬ e.1 = who := fun q => al_none.1 h (q ▸ List.mem_map_of_mem he)
    simp [upd1_ne this]
  · simp [upd1_self]
theorem rowsG_len (T : Nat) (PA : AL) (ct : CT) : (rowsG T PA ct).length = PA.length := by simp [rowsG]
variable {w0 w : World} {S : List Nat} {H : List Res}
theorem Hp.granted {T cp : Nat} {PA : AL} {ct : CT} {who : ByteArray} {v : Value} {l : List ByteArray} (hp : Hp w0 S w (.row T 1 v l.length (l.map Value.string) :: packL (rowsG T PA ct) :: H)) (hok : AlOk PA cp) :
    Hp w0 S w (packL (rowsG T (alPut PA who v cp) (upd1 ct who l)) :: H) := by
  unfold alPut
  cases h : alF who PA with
  | none =>
    show Hp w0 S w (packL (rowsG T (PA ++ [(who, v, cp)]) (upd1 ct who l)) :: H)
    rw [rowsG_new h]
    exact hp.packIn.packPerm List.perm_append_comm
  | some p =>
    show Hp w0 S w (packL (rowsG T (PA.modify p.1 fun e => (who, v, e.2.2)) (upd1 ct who l)) :: H)
    rw [rowsG_old hok.keys h]
    obtain ⟨b, hb⟩ := al_lt h
    exact hp.packSet p.1 (by rw [rowsG_len]; exact (List.getElem?_eq_some_iff.1 hb).1)
theorem Hp.revoked {T cp : Nat} {PA : AL} {ct : CT} {who : ByteArray} (hp : Hp w0 S w (packL (rowsG T PA ct) :: H)) (hok : AlOk PA cp) (hin : ¬ alG PA who = none) : Hp w0 S w (packL (rowsG T (alDel PA who) (upd1 ct who [])) :: H) := by
  unfold alDel
  cases h : alF who PA with
  | none => exact absurd (by unfold alG; rw [h]; rfl) hin
  | some p =>
    show Hp w0 S w (packL (rowsG T (PA.eraseIdx p.1) (upd1 ct who [])) :: H)
    have e : rowsG T (PA.eraseIdx p.1) (upd1 ct who []) = (rowsG T PA ct).eraseIdx p.1 := by
      unfold rowsG
      rw [map_erase]
      apply List.map_congr_left
      intro e he
      have hne : ¬ e.1 = who := fun q => by
        have h1 := alG_erase who hok.keys h
        rw [if_pos rfl, alG_none] at h1
        exact h1 (q ▸ List.mem_map_of_mem he)
      simp [upd1_ne hne]
    rw [e]
    exact hp.packSub (List.eraseIdx_sublist _ _)
def defC (RA : AL) (nm : ByteArray) : Int := if nameC nm = 0 then (if alG RA nm = none ∧ 16 ≤ RA.length then 7 else 0) else nameC nm
def graC (RA PA : AL) (ct : CT) (who role : ByteArray) : Int := if nameC who = 0 then (if alG RA role = none then 8 else if role ∈ ct who then 9 else if alG PA who = none ∧ 64 ≤ PA.length then 7 else 0) else nameC who
theorem GuOk.define {RA : AL} {cr : Nat} {mk : MK} {PA : AL} {cp : Nat} {ct : CT} (h : GuOk RA cr mk PA cp ct) (nm : ByteArray) (b : BitVec 32) : GuOk (alPut RA nm (.agg ⟨rolC nm b⟩) cr) (alClk RA nm cr) (fun s => if s = nm then b else mk s) PA cp ct := by
  refine ⟨h.rok.put _ _, fun s v hs => ?_, fun s hs => ?_, h.pok, h.pno⟩
  · rw [alG_put] at hs
    by_cases k : s = nm
    · rw [if_pos k] at hs
      injection hs with hs
      rw [if_pos k, ← hs, k]
    · rw [if_neg k] at hs
      rw [if_neg k]; exact h.rin s v hs
  · rw [alG_put] at hs
    by_cases k : s = nm
    · rw [if_pos k] at hs; cases hs
    · rw [if_neg k] at hs
      rw [if_neg k]; exact h.rno s hs
theorem GuOk.grant {RA : AL} {cr : Nat} {mk : MK} {PA : AL} {cp : Nat} {ct : CT} (h : GuOk RA cr mk PA cp ct) (who : ByteArray) (v : Value) (l : List ByteArray) : GuOk RA cr mk (alPut PA who v cp) (alClk PA who cp) (upd1 ct who l) := by
  refine ⟨h.rok, h.rin, h.rno, h.pok.put _ _, fun s hs => ?_⟩
  rw [alG_put] at hs
  by_cases k : s = who
  · rw [if_pos k] at hs; cases hs
  · rw [if_neg k] at hs
    rw [upd1_ne k]; exact h.pno s hs
theorem GuOk.revoke {RA : AL} {cr : Nat} {mk : MK} {PA : AL} {cp : Nat} {ct : CT} (h : GuOk RA cr mk PA cp ct) (who : ByteArray) : GuOk RA cr mk (alDel PA who) cp (upd1 ct who []) := by
  refine ⟨h.rok, h.rin, h.rno, h.pok.del _, fun s hs => ?_⟩
  rw [alG_del h.pok.keys] at hs
  by_cases k : s = who
  · rw [k, upd1_self]
  · rw [if_neg k] at hs
    rw [upd1_ne k]; exact h.pno s hs
theorem lookP {T : Nat} {PA : AL} {ct : CT} {who : ByteArray} {v : Value} {w : World} (hl : (packL (rowsG T PA ct)).at_ w) (h : alG PA who = some v) : Sl w v 1 (ct who).length ((ct who).map Value.string) := by
  obtain ⟨b, hb⟩ := al_some h
  exact Sl.row (T := T) (packL_at hl (r := .row T 1 v (ct who).length ((ct who).map Value.string)) (List.mem_map.2 ⟨_, hb, rfl⟩))
theorem nilP {ct : CT} {who : ByteArray} {w : World} (h : ct who = []) : Sl w (.slice none 0 0) 1 (ct who).length ((ct who).map Value.string) := by rw [h]; exact Sl.nil w 1
def cutS (l : List ByteArray) (i : Nat) : List ByteArray := l.take i ++ l.drop (i + 1)
theorem none_del {PA : AL} {cp : Nat} {who : ByteArray} {l : List ByteArray} (hok : AlOk PA cp) (hl : l = []) (s : ByteArray) : alG (alDel PA who) s = none ↔ if s = who then l = [] else alG PA s = none := by
  rw [alG_del hok.keys]
  by_cases k : s = who
  · rw [if_pos k, if_pos k]; simp [hl]
  · rw [if_neg k, if_neg k]
theorem none_put {PA : AL} {c : Nat} {who : ByteArray} {v : Value} {l : List ByteArray} (hl : ¬ l = []) (s : ByteArray) : alG (alPut PA who v c) s = none ↔ if s = who then l = [] else alG PA s = none := by
  rw [alG_put]
  by_cases k : s = who
  · rw [if_pos k, if_pos k]; simp [hl]
  · rw [if_neg k, if_neg k]
end Go.Mo
