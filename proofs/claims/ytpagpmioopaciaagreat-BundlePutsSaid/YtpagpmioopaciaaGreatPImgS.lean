/- Maps with whatever keys: entries as a list, looked up, put, taken out, counted, gone through. -/
import Derived.Test.YtpagpmioopaciaaGreatPKeys
import Derived.WideKeyRuns
import Derived.Test.YtpagpmioopaciaaGreatPChkS
import Derived.Test.YtpagpmioopaciaaGreatPPack
set_option linter.unusedVariables false
set_option linter.unusedSimpArgs false
set_option linter.unusedSectionVars false
namespace Go.Mo
open Go.RowKit
abbrev KL (κ : Type) := List (κ × Value × Nat)
variable {κ : Type} [DecidableEq κ]
def kmE (ek : κ → Value) (A : KL κ) : List MapEntry := A.map fun e => { key := ek e.1, val := e.2.1, born := e.2.2 }
def kmF (s : κ) : KL κ → Option (Nat × Value)
  | [] => none
  | e :: A => if s = e.1 then some (0, e.2.1) else (kmF s A).map fun p => (p.1 + 1, p.2)
theorem km_none {s : κ} : ∀ {A : KL κ}, kmF s A = none ↔ ¬ s ∈ A.map (·.1)
  | [] => by simp [kmF]
  | e :: A => by
    rw [kmF, List.map_cons, List.mem_cons]
    by_cases q : s = e.1
    · simp [q]
    · have := km_none (s := s) (A := A)
      simp only [q, if_false, Option.map_eq_none_iff, false_or]
      exact this
/-- What is put: an entry that is there turns, another one comes last. -/
def kmPut (A : KL κ) (s : κ) (v : Value) (c : Nat) : KL κ := match kmF s A with
  | some p => A.modify p.1 fun e => (s, v, e.2.2)
  | none => A ++ [(s, v, c)]
def kmClk (A : KL κ) (s : κ) (c : Nat) : Nat := match kmF s A with
  | some _ => c
  | none => c + 1
structure KeyOk (P : Program) (Kt : TypeId) (ek : κ → Value) : Prop where
  chk : ∀ (b : Bool) (w : World) (k : κ), (Instr.checkKey b 10000 Kt (ek k)).run P w = .ok () w
  find : ∀ (w : World) (k : κ) (A : KL κ), (Instr.findKey Kt (ek k) (kmE ek A)).run P w = .ok (kmF k A) w
  same : ∀ k, Instr.sameBits 10000 (ek k) (ek k) = true
section laws
variable {P : Program} {n : Nat} {ops : Array Oper} {f : Fm} {w w0 : World} {S : List Nat} {H : List Res} {K : KP} {o : Oper} {rest : List Oper} {d : Nat} {x y z : Operand}
end laws
structure KmOk (A : KL κ) (c : Nat) : Prop where
  keys : (A.map (·.1)).Nodup
  born : (A.map (·.2.2)).Nodup
  lt : ∀ e ∈ A, e.2.2 < c
theorem km_keys_modify {s : κ} {v : Value} : ∀ {A : KL κ} {i : Nat} {u : Value}, kmF s A = some (i, u) → (A.modify i fun e => (s, v, e.2.2)).map (·.1) = A.map (·.1) ∧ (A.modify i fun e => (s, v, e.2.2)).map (·.2.2) = A.map (·.2.2)
  | [], _, _, h => by cases h
  | e :: A, i, u, h => by
    rw [kmF] at h
    split at h
    · rename_i q
      injection h with h; injection h with h1 h2
      subst h1
      rw [List.modify_zero_cons]
      exact ⟨by rw [List.map_cons, List.map_cons, q], rfl⟩
    · cases hq : kmF s A with
      | none => rw [hq] at h; cases h
      | some p =>
        rw [hq] at h
        simp only [Option.map_some, Option.some.injEq, Prod.mk.injEq] at h
        obtain ⟨h1, h2⟩ := h
        subst h1
        obtain ⟨k1, k2⟩ := km_keys_modify (v := v) hq
        rw [List.modify_succ_cons]
        exact ⟨by rw [List.map_cons, List.map_cons, k1], by rw [List.map_cons, List.map_cons, k2]⟩
theorem KmOk.nil : KmOk ([] : KL κ) 0 := ⟨.nil, .nil, by simp⟩
theorem KmOk.put {A : KL κ} {c : Nat} (h : KmOk A c) (s : κ) (v : Value) : KmOk (kmPut A s v c) (kmClk A s c) := by
  unfold kmPut kmClk
  cases hq : kmF s A with
  | none =>
    have hn := km_none.1 hq
    refine ⟨?_, ?_, ?_⟩
    · show ((A ++ [(s, v, c)]).map (·.1)).Nodup
      rw [List.map_append, List.nodup_append]
      exact ⟨h.keys, by simp, by simp only [List.map_cons, List.map_nil, List.mem_singleton]; rintro a ha b rfl e; exact hn (e ▸ ha)⟩
    · show ((A ++ [(s, v, c)]).map (·.2.2)).Nodup
      rw [List.map_append, List.nodup_append]
      refine ⟨h.born, by simp, ?_⟩
      simp only [List.map_cons, List.map_nil, List.mem_singleton]
      rintro a ha b rfl e
      obtain ⟨x, hx, rfl⟩ := List.mem_map.1 ha
      have := h.lt x hx
      omega
    · intro e he
      rcases List.mem_append.1 he with he | he
      · have := h.lt e he; show e.2.2 < c + 1; omega
      · rw [List.mem_singleton.1 he]; exact Nat.lt_succ_self c
  | some p =>
    obtain ⟨k1, k2⟩ := km_keys_modify (v := v) hq
    refine ⟨by show ((A.modify p.1 _).map _).Nodup; rw [k1]; exact h.keys, by show ((A.modify p.1 _).map _).Nodup; rw [k2]; exact h.born, ?_⟩
    intro e he
    have hm : e.2.2 ∈ (A.modify p.1 fun e => (s, v, e.2.2)).map (·.2.2) := List.mem_map_of_mem he
    rw [k2] at hm
    obtain ⟨x, hx, hxe⟩ := List.mem_map.1 hm
    rw [← hxe]; exact h.lt x hx
section ranges
/-- What a range has come by, and what is left. -/
structure CameK (A : KL κ) (q : KL κ) (seen : Array Nat) : Prop where
  perm : ∃ s : KL κ, (q ++ s).Perm A
  seen : seen = (q.map (·.2.2)).toArray
theorem CameK.nil (A : KL κ) : CameK A [] #[] := ⟨⟨A, List.Perm.refl _⟩, rfl⟩
theorem seen_iffK {q : KL κ} {b : Nat} : ((q.map (·.2.2)).toArray.contains b) = true ↔ b ∈ q.map (·.2.2) := by
  rw [Array.contains_iff_mem]; simp
theorem CameK.step {ek : κ → Value} {A q : KL κ} {seen : Array Nat} {e : MapEntry} (h : CameK A q seen) (he : e ∈ (leftOf ⟨kmE ek A⟩ seen).toList) : ∃ a : κ × Value × Nat, a ∈ A ∧ e = { key := ek a.1, val := a.2.1, born := a.2.2 } ∧ CameK A (q ++ [a]) (seen.push e.born) ∧ ∃ s : KL κ, (q ++ a :: s).Perm A := by
  obtain ⟨h1, h2⟩ := mem_left he
  obtain ⟨a, ha, rfl⟩ := List.mem_map.1 (show e ∈ A.map _ from h1)
  obtain ⟨⟨s, hs⟩, hseen⟩ := h
  rw [hseen] at h2
  have hnq : ¬ a ∈ q := fun hq => by
    have := seen_iffK.2 (List.mem_map_of_mem (f := (·.2.2)) hq)
    rw [this] at h2; cases h2
  have has : a ∈ s := by
    rcases List.mem_append.1 (hs.mem_iff.2 ha) with q1 | q1
    · exact absurd q1 hnq
    · exact q1
  obtain ⟨u, v, rfl⟩ := List.append_of_mem has
  have hp : (q ++ a :: (u ++ v)).Perm A := (List.Perm.append_left q List.perm_middle.symm).trans hs
  refine ⟨a, ha, rfl, ⟨⟨u ++ v, by rw [List.append_assoc]; exact hp⟩, by rw [hseen]; simp⟩, ⟨u ++ v, hp⟩⟩
theorem CameK.all {ek : κ → Value} {A q : KL κ} {seen : Array Nat} {c : Nat} (h : CameK A q seen) (hA : KmOk A c) (h0 : (leftOf ⟨kmE ek A⟩ seen).size = 0) : q.Perm A := by
  obtain ⟨⟨s, hs⟩, hseen⟩ := h
  have hnil : s = [] := by
    rcases s with _ | ⟨b, s⟩
    · rfl
    · exfalso
      have hb : b ∈ A := hs.mem_iff.1 (by simp)
      have hborn : (((q ++ b :: s).map (·.2.2))).Nodup := (hs.map _).nodup_iff.2 hA.born
      rw [List.map_append, List.nodup_append] at hborn
      have hnb : ¬ b.2.2 ∈ q.map (·.2.2) := fun hq => hborn.2.2 _ hq _ (by simp) rfl
      have hin : ({ key := ek b.1, val := b.2.1, born := b.2.2 } : MapEntry) ∈ (leftOf ⟨kmE ek A⟩ seen).toList := by
        unfold leftOf
        rw [Array.toList_filter]
        refine List.mem_filter.2 ⟨List.mem_map.2 ⟨b, hb, rfl⟩, ?_⟩
        rw [hseen]
        cases hc : (q.map (·.2.2)).toArray.contains b.2.2 with
        | true => exact absurd (seen_iffK.1 hc) hnb
        | false => rfl
      have hl : (leftOf ⟨kmE ek A⟩ seen).toList.length = 0 := by simpa using h0
      rw [List.eq_nil_of_length_eq_zero hl] at hin
      cases hin
  rw [hnil, List.append_nil] at hs; exact hs
end ranges
section keys
variable {P : Program}
end keys
end Go.Mo
set_option linter.unusedVariables false
set_option linter.unusedSimpArgs false
namespace Go.Mo
open Go.RowKit
structure En where
  addr : A32
  slot : Int
  count : Int
deriving DecidableEq
def enZ : En := ⟨a32Z, 0, 0⟩
def enC (x : En) : List Value := bys x.addr.1 ++ [.int .i64 x.slot, .int .i64 x.count]
instance : Inhabited En := ⟨enZ⟩
structure Tx where
  addr : A32
  size : Int
  slots : List Int
  bound : Int
abbrev TV := Tx × Value
def txZ : Tx := ⟨a32Z, 0, [], 0⟩
def tvZ : TV := (txZ, .slice none 0 0)
def tvC (x : TV) : List Value := textC x.1.addr.1 x.1.size x.2 x.1.bound
instance : Inhabited TV := ⟨tvZ⟩
abbrev tvSl (w : World) (l : List TV) : Prop := ∀ x ∈ l, Sl w x.2 1 x.1.slots.length (x.1.slots.map (Value.int .i64))
structure Im where
  p : Pl
  mg : Nat
  tg : Nat
  cg : Nat
  tv : Value
  cv : Value
  av : Value
  now : Int
  ser : Int
  mv : Value
  m : List UInt8
  ev : Value
  n : Int
  e : List En
  T : List TV
  C : List CV
  A : List Rec
def imC (I : Im) : List Value := layC I.p ++ [.pointer (some ⟨I.mg, 0, none⟩), .pointer (some ⟨I.tg, 0, none⟩), .pointer (some ⟨I.cg, 0, none⟩), I.tv, I.cv, I.av, .int .i64 I.now, .int .i64 I.ser]
/-- An image that only is looked at. -/
structure ImAt (IT MT TT g : Nat) (I : Im) (w : World) : Prop where
  i : (cells g IT (imC I)).at_ w
  mm : (cells I.mg MT [I.mv]).at_ w
  mb : Sl w I.mv 1 I.m.length (bys I.m)
  tt : (cells I.tg TT [I.ev, .int .i64 I.n]).at_ w
  te : Sl w I.ev 34 I.e.length (I.e.flatMap enC)
  tx : Sl w I.tv 35 I.T.length (I.T.flatMap tvC)
  txs : tvSl w I.T
  cl : Sl w I.cv 39 I.C.length (I.C.flatMap cvC)
  cls : cvSl w I.C
  au : Sl w I.av 100 I.A.length (I.A.flatMap recC)
theorem ImAt.keep {IT MT TT g : Nat} {I : Im} {w w' : World} (h : ImAt IT MT TT g I w) (hm : Mod [] w w') : ImAt IT MT TT g I w' :=
  ⟨cells.keep h.i hm, cells.keep h.mm hm, h.mb.keep hm, cells.keep h.tt hm, h.te.keep hm, h.tx.keep hm, fun x hx => (h.txs x hx).keep hm, h.cl.keep hm, fun x hx => ⟨(h.cls x hx).1.keep hm, (h.cls x hx).2.keep hm⟩, h.au.keep hm⟩
structure Rm where
  ch : Int
  tx : Int
  cl : Int
  au : Int
  la : Int
deriving DecidableEq
def rowsZ (U8 : Nat) (L : List (Value × List UInt8)) : List Res := L.map fun x => .row U8 1 x.1 x.2.length (bys x.2)
theorem rowsZ_sl {U8 : Nat} {L : List (Value × List UInt8)} {w : World} (h : (packL (rowsZ U8 L)).at_ w) : ∀ x ∈ L, Sl w x.1 1 x.2.length (bys x.2) := fun x hx => Sl.row (T := U8) (packL_at h (List.mem_map.2 ⟨x, hx, rfl⟩))
theorem Hp.rowsZ_in {w0 w : World} {S : List Nat} {H : List Res} {U8 : Nat} {L : List (Value × List UInt8)} {v : Value} {l : List UInt8} (h : Hp w0 S w (.row U8 1 v l.length (bys l) :: packL (rowsZ U8 L) :: H)) : Hp w0 S w (packL (rowsZ U8 (L ++ [(v, l)])) :: H) := by
  have e : rowsZ U8 (L ++ [(v, l)]) = rowsZ U8 L ++ [.row U8 1 v l.length (bys l)] := by simp [rowsZ]
  rw [e]
  exact h.packIn.packPerm List.perm_append_comm
end Go.Mo
