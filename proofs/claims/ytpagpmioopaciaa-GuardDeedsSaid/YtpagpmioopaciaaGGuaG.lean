/- A guard: roles, people, as they lie in memory; what they come to. -/
import Derived.Test.YtpagpmioopaciaaGGuaS
import Derived.Test.YtpagpmioopaciaaGKeys
import Derived.Test.YtpagpmioopaciaaGPack
import Derived.Test.YtpagpmioopaciaaGShfS
set_option linter.unusedVariables false
set_option linter.unusedSimpArgs false
namespace Go.Mo
open Go.RowKit
abbrev CT := ByteArray → List ByteArray
abbrev MK := ByteArray → BitVec 32
def rolC (s : ByteArray) (b : BitVec 32) : List Value := [.string s, .int .u32 (b.toNat : Int)]
/-- What a guard's maps hold: roles with their bits; people with the roles that they have. -/
structure GuOk (RA : AL) (cr : Nat) (mk : MK) (PA : AL) (cp : Nat) (ct : CT) : Prop where
  rok : AlOk RA cr
  rin : ∀ s v, alG RA s = some v → v = .agg ⟨rolC s (mk s)⟩
  rno : ∀ s, alG RA s = none → mk s = 0#32
  pok : AlOk PA cp
  pno : ∀ s, alG PA s = none → ct s = []
def rowsG (T : Nat) (PA : AL) (ct : CT) : List Res := PA.map fun e => .row T 1 e.2.1 (ct e.1).length ((ct e.1).map Value.string)
/-- A guard as it lies in memory, where it only is looked at. -/
structure GuAt (T G gq rm pm : Nat) (RA : AL) (cr : Nat) (PA : AL) (cp : Nat) (ct : CT) (w : World) : Prop where
  g : (cells gq G [.map (some rm), .map (some pm)]).at_ w
  r : (Res.blk rm (.map ⟨alE RA⟩ cr)).at_ w
  p : (Res.blk pm (.map ⟨alE PA⟩ cp)).at_ w
  l : (packL (rowsG T PA ct)).at_ w
theorem GuAt.keep {T G gq rm pm : Nat} {RA : AL} {cr : Nat} {PA : AL} {cp : Nat} {ct : CT} {w w' : World} (h : GuAt T G gq rm pm RA cr PA cp ct w) (hm : Mod [] w w') : GuAt T G gq rm pm RA cr PA cp ct w' :=
  ⟨Res.kept h.g hm (by simp), Res.kept h.r hm (by simp), Res.kept h.p hm (by simp), Res.kept h.l hm (by simp)⟩
theorem al_some {A : AL} {s : ByteArray} {v : Value} (h : alG A s = some v) : ∃ b, (s, v, b) ∈ A := by
  unfold alG at h
  obtain ⟨p, hp, rfl⟩ := Option.map_eq_some_iff.1 h
  obtain ⟨b, hb⟩ := al_lt hp
  exact ⟨b, List.mem_of_getElem? hb⟩
/-- The roles of somebody, as they are looked up. -/
theorem GuAt.look {T G gq rm pm : Nat} {RA : AL} {cr : Nat} {PA : AL} {cp : Nat} {ct : CT} {w : World} (h : GuAt T G gq rm pm RA cr PA cp ct w) (h0 : ∀ s, alG PA s = none → ct s = []) (s : ByteArray) : Sl w ((alG PA s).getD (.slice none 0 0)) 1 (ct s).length ((ct s).map Value.string) := by
  cases hs : alG PA s with
  | none => rw [h0 s hs]; exact Sl.nil w 1
  | some v =>
    obtain ⟨b, hb⟩ := al_some hs
    exact Sl.row (T := T) (packL_at h.l (r := .row T 1 v (ct s).length ((ct s).map Value.string)) (List.mem_map.2 ⟨_, hb, rfl⟩))
theorem GuOk.role {RA : AL} {cr : Nat} {mk : MK} {PA : AL} {cp : Nat} {ct : CT} (h : GuOk RA cr mk PA cp ct) (s : ByteArray) : ∃ nm, (alG RA s).getD (.agg ⟨[.string ⟨#[]⟩, .int .u32 0]⟩) = .agg ⟨rolC nm (mk s)⟩ := by
  cases hs : alG RA s with
  | none => exact ⟨⟨#[]⟩, by rw [h.rno s hs]; rfl⟩
  | some v => exact ⟨s, by rw [h.rin s v hs]; rfl⟩
def rigB (mk : MK) (l : List ByteArray) : BitVec 32 := l.foldl (fun b s => b ||| mk s) 0#32
theorem take_str1 {l : List ByteArray} {i : Nat} (hi : i < l.length) : l.take (i + 1) = l.take i ++ [strAt l i] := by
  rw [List.take_add_one, strAt_some hi]; rfl
theorem rigB_take (mk : MK) {l : List ByteArray} {i : Nat} (hi : i < l.length) : rigB mk (l.take (i + 1)) = rigB mk (l.take i) ||| mk (strAt l i) := by
  rw [take_str1 hi, rigB, List.foldl_append]; rfl
def mayB (mk : MK) (ct : CT) (s : ByteArray) (op : Int) : Bool := hasB (rigB mk (ct s)) op
section laws
variable {P : Program} {n : Nat} {f : Fm} {w : World} {o : Oper} {x y : Operand}
theorem rd_eq {v v' : Value} (h : Rd P n f o w v) (e : v = v') : Rd P n f o w v' := e ▸ h
theorem rd_fieldV {T i : Nat} {fs : Array Field} {fd : Field} {L : List Value} {d : TypeDesc} {u : Value} (ho : o.op = .field T x i) (hx : ev n f x = .agg ⟨L⟩) (hT : P.underlying T = some (.struct fs)) (hf : fs[i]? = some fd) (hE : P.underlying fd.type = some d) (hd : plainT d = true) (hu : L[fd.offset]? = some u) : Rd P n f o w u := by
  have h1 : (isAgg fd.type).run P w = .ok false w := by rw [run_isAgg hE]; cases d <;> simp [plainT] at hd <;> rfl
  have h2 : (part fd.type ⟨L⟩ fd.offset).run P w = .ok u w := by simp [part, h1, hu, Sem.run]
  simp [Rd, execOp, ho, hx, Instr.field, run_underlying hT, hf, asAgg, h2, Sem.run]
end laws
theorem apart_no {mk : MK} {ct : CT} {PA : AL} {a b : Int} {e : ByteArray × Value × Nat} (he : e ∈ PA) (h1 : mayB mk ct e.1 a = true) (h2 : mayB mk ct e.1 b = true) : (PA.map (·.1)).all (fun s => !(mayB mk ct s a && mayB mk ct s b)) = false := by
  rw [List.all_eq_false]
  exact ⟨e.1, List.mem_map_of_mem he, by rw [h1, h2]; decide⟩
theorem apart_yes {mk : MK} {ct : CT} {PA q : AL} {a b : Int} (hq : q.Perm PA) (h : ∀ s ∈ q.map (·.1), (mayB mk ct s a && mayB mk ct s b) = false) : (PA.map (·.1)).all (fun s => !(mayB mk ct s a && mayB mk ct s b)) = true := by
  rw [List.all_eq_true]
  intro s hs
  rw [h s ((hq.map _).mem_iff.2 hs)]; rfl
theorem stR_snocG (T : Nat) (v : Value) (L : List ByteArray) (c : ByteArray) : Res.row T 1 v (L.length + 1) (L.map Value.string ++ [.string c]) = Res.row T 1 v (L ++ [c]).length ((L ++ [c]).map Value.string) := by rw [List.map_append, List.length_append]; rfl
theorem filtS_yes {l : List ByteArray} {p : ByteArray → Bool} {i : Nat} (hi : i < l.length) (h : p (strAt l i) = true) : (l.take (i + 1)).filter p = (l.take i).filter p ++ [strAt l i] := by rw [take_str1 hi, List.filter_append]; simp [h]
theorem filtS_no {l : List ByteArray} {p : ByteArray → Bool} {i : Nat} (hi : i < l.length) (h : p (strAt l i) = false) : (l.take (i + 1)).filter p = (l.take i).filter p := by rw [take_str1 hi, List.filter_append]; simp [h]
theorem sortS_lenG (l : List ByteArray) : (sortS l).length = l.length := by rw [sortS, backS_len, List.length_mergeSort, strL_len]
theorem keysOf_len {A : AL} {xs : List ByteArray} (h : keysOf A xs) : xs.length = A.length := by rw [h.length_eq, List.length_map]
theorem sortS_mem {l : List ByteArray} {s : ByteArray} (h : s ∈ sortS l) : s ∈ l := by
  unfold sortS backS at h
  obtain ⟨x, hx, rfl⟩ := List.mem_map.1 h
  rw [List.mem_mergeSort] at hx
  obtain ⟨b, hb, rfl⟩ := List.mem_map.1 hx
  simpa using hb
theorem GuOk.roleAt {RA : AL} {cr : Nat} {mk : MK} {PA : AL} {cp : Nat} {ct : CT} (h : GuOk RA cr mk PA cp ct) {xs : List ByteArray} (hx : keysOf RA xs) {i : Nat} (hi : i < (sortS xs).length) : (alG RA (strAt (sortS xs) i)).getD (.agg ⟨[.string ⟨#[]⟩, .int .u32 0]⟩) = .agg ⟨rolC (strAt (sortS xs) i) (mk (strAt (sortS xs) i))⟩ := by
  have hm : strAt (sortS xs) i ∈ RA.map (·.1) := hx.mem_iff.1 (sortS_mem (List.mem_of_getElem? (strAt_some hi)))
  cases hs : alG RA (strAt (sortS xs) i) with
  | none => exact absurd hm (alG_none.1 hs)
  | some v => rw [h.rin _ v hs]; rfl
theorem rolR_snoc (mk : MK) {T : Nat} {v : Value} {l : List ByteArray} {i : Nat} (hi : i < l.length) : Res.row T 2 v ((l.take i).length + 1) ((l.take i).flatMap (fun s => rolC s (mk s)) ++ rolC (strAt l i) (mk (strAt l i))) = Res.row T 2 v (l.take (i + 1)).length ((l.take (i + 1)).flatMap fun s => rolC s (mk s)) := by
  rw [take_str1 hi, List.flatMap_append, List.length_append]; simp
end Go.Mo
