/- Ranges over functions: rounds, yields, the statement; functions that hold one. Nothing of the program stands here. -/
import Derived.Test.YtpagpmioopaciaaQActs
import Derived.RangeFuncLeaves
set_option linter.unusedVariables false
set_option linter.unusedSimpArgs false
namespace Go.Mo
open Go.RowKit
abbrev PostD := Exit → List Deferred → Fm → World → Prop
def liftV (n : Nat) (Q : PostD) : Exit → Act → World → Prop := fun e a w => ∃ ds f, a = frD n ds f ∧ Q e ds f w
def GV (P : Program) (n : Nat) (c : Code) (ds : List Deferred) (f : Fm) (w : World) (Q : PostD) : Prop := c.wpIn Fence.wide 0 P (liftV n Q) (frD n ds f) w
section spine
variable {P : Program} {n : Nat} {ds : List Deferred} {f : Fm} {w : World} {Q : PostD}
theorem gw_at {c : Code} {Q : Post} (h : GW P n c f w Q) (hc : calmC c = true) (ρ : Option Nat) (ds : List Deferred) : c.wpIn (FW ρ) 0 P (liftD n ds Q) (frD n ds f) w := by unfold GW at h; exact h hc ρ ds
theorem gw_mk {c : Code} {Q : Post} (h : calmC c = true → ∀ (ρ : Option Nat) (ds : List Deferred), c.wpIn (FW ρ) 0 P (liftD n ds Q) (frD n ds f) w) : GW P n c f w Q := by unfold GW; exact h
theorem gl_at {ops : Array Oper} {l : List Oper} {K : Fm → World → Prop} (h : GL P n ops l f w K) (Q : Exit → Act → World → Prop) (hQ : ∀ f' w', K f' w' → Q .normal (fr n f') w') : wpList P ops Q l (fr n f) w := by unfold GL at h; exact h Q hQ
theorem GV_of {c : Code} (hc : calmC c = true) (h : GW P n c f w fun e f' w' => Q e ds f' w') : GV P n c ds f w Q :=
  wpIn_mono (gw_at h hc none ds) fun e a w ⟨f', ea, q⟩ => ⟨ds, f', ea, q⟩
def thenV (next : List Deferred → Fm → World → Prop) (Q : PostD) : PostD
  | .normal, ds, f, w => next ds f w
  | e, ds, f, w => Q e ds f w
theorem GV_seq {x y : Code} (h : GV P n x ds f w (thenV (fun ds' f' w' => GV P n y ds' f' w' Q) Q)) : GV P n (x.seq y) ds f w Q := by
  refine wpIn_seq (wpIn_mono h ?_)
  rintro e a w' ⟨ds', f', rfl, q⟩
  cases e <;> first | exact q | exact ⟨ds', f', rfl, q⟩
def blockV (id : Nat) (Q : PostD) : PostD
  | .exit id', ds, f, w => bif Nat.beq id' id then Q .normal ds f w else Q (.exit id') ds f w
  | e, ds, f, w => Q e ds f w
theorem GV_block {id : Nat} {c : Code} (h : GV P n c ds f w (blockV id Q)) : GV P n (.block id c) ds f w Q := by
  refine wpIn_block (wpIn_mono h ?_)
  rintro e a w' ⟨ds', f', rfl, q⟩
  cases e with
  | exit id' =>
    by_cases hid : id' = id
    · subst hid
      simp only [blockV, Nat.beq_refl, cond_true] at q
      simp only [Exit.inBlock, if_true]
      exact ⟨ds', f', rfl, q⟩
    · simp only [blockV, beq_no hid, cond_false] at q
      simp only [Exit.inBlock, hid, if_false]
      exact ⟨ds', f', rfl, q⟩
  | _ => exact ⟨ds', f', rfl, q⟩
end spine
/-- The mark that a range over a function leaves. -/
def markOf (D : Nat) : Deferred := { target := .collected D, args := #[] }
/-- The marks are taken, one by one. -/
def Shut (P : Program) : List Nat → World → (World → Prop) → Prop
  | [], w, K => K w
  | D :: Ds, w, K => ∃ w1, (Instr.takeDeferred D).run P w = .ok [] w1 ∧ Shut P Ds w1 K
theorem Hp.setObj {w : World} {g : Nat} {o : Obj} (o' : Obj) (h : w.heap[g]? = some o) : Hp w [g] { w with heap := w.heap.setIfInBounds g o' } [.blk g o'] := by
  have hlt : g < w.heap.size := (Array.getElem?_eq_some_iff.1 h).1
  refine ⟨⟨rfl, rfl, rfl, by simp, fun k hk hn => ?_⟩, ?_, by simp [Res.foot], by simp⟩
  · simp only [List.mem_singleton] at hn
    show (w.heap.setIfInBounds g _)[k]? = _
    rw [Array.getElem?_setIfInBounds_ne (fun e => hn e.symm)]
  · intro q hq
    simp only [List.mem_singleton] at hq
    subst hq
    show (w.heap.setIfInBounds g _)[g]? = _
    rw [Array.getElem?_setIfInBounds_self_of_lt hlt]
theorem Shut_cons {P : Program} {w0 w : World} {S : List Nat} {H : List Res} {D i : Nat} {Ds : List Nat} {K : World → Prop} (hp : Hp w0 S w H) (hi : H[i]? = some (.blk D (.deferred (some [])))) (h : ∀ w1, Hp w0 S w1 (H.set i (.blk D (.deferred none))) → Shut P Ds w1 K) : Shut P (D :: Ds) w K := by
  have hg : w.heap[D]? = some (.deferred (some [])) := hp.get i hi
  refine ⟨_, ?_, h _ (hp.turnAt i hi (Hp.setObj (.deferred none) hg))⟩
  simp [Instr.takeDeferred, getObj, setObj, hg, Sem.run]
def FM (P : Program) (n : Nat) (fn : Func) (post : Value → World → Prop) : PostD
  | .normal, ds, f, w | .ret, ds, f, w => ∃ Ds : List Nat, ds = Ds.map markOf ∧ Shut P Ds w fun w' => ∃ v, resultsOf P n fn f w' v ∧ post v w'
  | _, _, _, _ => False
theorem leaves_of {P : Program} {fn : Func} {tmps : Array Value} {post : Value → World → Prop} : ∀ (Ds : List Nat) (w : World), Shut P Ds w (fun w' => ∃ v, (results fn tmps).run P w' = .ok v w' ∧ post v w') → LeavesInM Fence.wide 0 P fn tmps (fun e w' => ∃ v, e = .returned v ∧ post v w') (Ds.map markOf) .returning w
  | [], w, h => by
    obtain ⟨v, h1, h2⟩ := h
    exact ⟨v, h1, v, rfl, h2⟩
  | D :: Ds, w, h => by
    obtain ⟨w1, h1, h2⟩ := h
    exact ⟨by simp, .inl ⟨D, w1, rfl, h1, leaves_of Ds w1 h2⟩⟩
theorem does_ofM {P : Program} {k : Nat} {fn : Func} {c : Code} {args : Array Value} {w : World} {post : Value → World → Prop} {n : Nat} {l : List Value}
    (hf : P.funcs[k]? = some fn) (hname : (fn.name == "runtime.NumGoroutine") = false) (hb : fn.body = some c) (hn : fn.ntmps = n) (hl : args.toList = l) (hs : Nat.ble l.length n = true)
    (h : GV P n c [] (frame0 l) w (FM P n fn post)) : Does P k args w post := by
  refine ⟨⟨fn, hf, hname, by rw [hb]; rfl⟩, callsIn_wide.1 (callsIn_of_wp_marks (F := Fence.wide) (n := 0) hf hb trivial ?_)⟩
  subst hl
  rw [hn, frame0_eq n args (by simpa using Nat.le_of_ble_eq_true hs)]
  refine wpIn_mono h ?_
  rintro e a w' ⟨ds, f', rfl, q⟩
  cases e <;> simp only [FM] at q <;> first | exact q.elim | skip
  · obtain ⟨Ds, rfl, q⟩ := q; exact leaves_of Ds w' q
  · obtain ⟨Ds, rfl, q⟩ := q; exact leaves_of Ds w' q
abbrev yv (l : Nat) : Value := .func (.yield l) #[] #[]
/-- Calling yield runs a round, and this holds of what it hands back. -/
def Yd (P : Program) (l : Nat) (args : Array Value) (w : World) (post : Bool → World → Prop) : Prop :=
  ∃ fn tmps assign body, (Instr.yield l args).run P w = .ok (.round l fn tmps assign body) w ∧ RoundIn Fence.wide 0 P l fn tmps assign body w fun e w' => ∃ b, e = .returned (.bool b) ∧ post b w'
/-- What an iterator does with whatever yield: 'encs' of 'xs', one by one, up to the first that is not to go on. -/
def Iter (P : Program) (k : Nat) (caps : List Value) {α : Type} (encs : α → Array Value) (xs : List α) (Own : World → Prop) : Prop :=
  ∀ (l : Nat) (J : List α → World → Prop) (X : World → Prop) (w : World), (∀ p w w', J p w → Mod [] w w' → J p w') → (∀ w w', X w → Mod [] w w' → X w') → (∀ p w, J p w → Own w) → J [] w →
    (∀ p x s w, xs = p ++ x :: s → J p w → Yd P l (encs x) w fun b w' => bif b then J (p ++ [x]) w' else X w') → Does P k ⟨yv l :: caps⟩ w fun _ w' => J xs w' ∨ X w'
/-- The same, where it is open which of several lists it is. -/
def IterA (P : Program) (k : Nat) (caps : List Value) {α : Type} (encs : α → Array Value) (A : List α → Prop) (Own : World → Prop) : Prop :=
  ∀ (l : Nat) (J : List α → World → Prop) (X : World → Prop) (w : World), (∀ p w w', J p w → Mod [] w w' → J p w') → (∀ w w', X w → Mod [] w w' → X w') → (∀ p w, J p w → Own w) → J [] w →
    (∀ p x s w, A (p ++ x :: s) → J p w → Yd P l (encs x) w fun b w' => bif b then J (p ++ [x]) w' else X w') → Does P k ⟨yv l :: caps⟩ w fun _ w' => (∃ xs, A xs ∧ J xs w') ∨ X w'
theorem Iter.toA {P : Program} {k : Nat} {caps : List Value} {α : Type} {encs : α → Array Value} {xs : List α} {Own : World → Prop} (h : Iter P k caps encs xs Own) : IterA P k caps encs (fun l => xs = l) Own := by
  intro l J X w h1 h2 h3 h4 h5
  refine (h l J X w h1 h2 h3 h4 h5).mono ?_
  rintro v w' (q | q)
  · exact .inl ⟨xs, rfl, q⟩
  · exact .inr q
/-- Blocks that stay as they are, as a thing that is owned. -/
def frz (B : List Nat) (w : World) : Res := .pack B (fun v => ∀ g ∈ B, v.heap[g]? = w.heap[g]? ∧ g < v.heap.size) (fun v v' hs h g hg => ⟨(hs g hg).trans (h g hg).1, by
    have h1 := (h g hg).2
    have h2 := hs g hg
    rw [Array.getElem?_eq_getElem h1] at h2
    exact (Array.getElem?_eq_some_iff.1 h2).1⟩) (fun v h g hg => (h g hg).2)
/-- Operations of which some are yields. -/
def GLY (P : Program) (n : Nat) (ops : Array Oper) (l : List Oper) (f : Fm) (w : World) (K : Fm → World → Prop) : Prop :=
  ∀ (ρ : Option Nat) (ds : List Deferred) (Q : Exit → Act → World → Prop), (∀ f' w', K f' w' → Q .normal (frD n ds f') w') → wpListIn (FW ρ) 0 P ops Q l (frD n ds f) w
section yields
variable {P : Program} {n : Nat} {ops : Array Oper} {f : Fm} {w : World} {K : Fm → World → Prop} {o : Oper} {rest : List Oper} {d : Nat} {x y z : Operand}
theorem GLY_nil (h : K f w) : GLY P n ops [] f w K := fun ρ ds Q hQ => hQ _ _ h
theorem GLY_of (hd : calmO o = true) (h : GL P n ops [o] f w fun f' w' => GLY P n ops rest f' w' K) : GLY P n ops (o :: rest) f w K := by
  intro ρ ds Q hQ
  have h1 := gl_at h (fun e a w => e = .normal ∧ ∃ f', a = fr n f' ∧ GLY P n ops rest f' w K) (fun f' w' q => ⟨rfl, f', rfl, q⟩)
  unfold wpList at h1
  unfold wpListIn
  split
  · rename_i hw
    rw [if_pos (show Region.wanted o (yielded ops (fr n f).tmps) = true from hw)] at h1
    rcases h1 with h1 | ⟨_, a0, w0, q⟩
    · refine operIn_of (ds := ds) (a := fr n f) (Q := fun e a w => e = .normal ∧ ∃ f', a = fr n f' ∧ GLY P n ops rest f' w K) hd (fun a w q => ?_) (fun c a w q => ?_) (fun a w q => by cases q.1) h1
      · obtain ⟨_, f', rfl, q⟩ := q
        exact q ρ ds Q hQ
      · cases q.1
    · cases q.1
  · rename_i hw
    rw [if_neg (show ¬ Region.wanted o (yielded ops (fr n f).tmps) = true from hw)] at h1
    refine ⟨fun _ _ => trivial, ?_⟩
    obtain ⟨_, f', e, q⟩ := h1
    have e2 : (frD n ds f).put o.dst undef = frD n ds f' := by
      have : (frD n ds f).put o.dst undef = dsA ds ((fr n f).put o.dst undef) := by rw [dsA_put]; rfl
      rw [this, e]; rfl
    rw [e2]
    exact q ρ ds Q hQ
theorem GW_regionY {id : Nat} {l : List Oper} {Q : Post} (h : GLY P n l.toArray l f w fun f' w' => Q .normal f' w') : GW P n (.region id l.toArray false) f w Q :=
  gw_mk fun hc ρ ds => wpIn_region_lit (h ρ ds _ fun f' w' q => ⟨f', rfl, q⟩)
theorem GLY_split {t : Nat} {b : Bool} {l : List Oper} (ht : f t = .bool b) (h1 : b = true → GLY P n ops l (upd f t (.bool true)) w K) (h2 : b = false → GLY P n ops l (upd f t (.bool false)) w K) : GLY P n ops l f w K := by
  cases b
  · have h := h2 rfl; rwa [upd_self f t _ ht] at h
  · have h := h1 rfl; rwa [upd_self f t _ ht] at h
theorem GLY_enter {l : Nat} {args : Array Value} {post : Bool → World → Prop} (hw : Wn n ops f o) (hd : o.dst = some d) (hcl : calmO o = true) (hr : (execOp (ev n f) o).run P w = (Instr.yield l args).run P w) (hY : Yd P l args w post) (h : ∀ b w', post b w' → GLY P n ops rest (upd f d (.bool b)) w' K) : GLY P n ops (o :: rest) f w K := by
  intro ρ ds Q hQ
  obtain ⟨fn, tmps, assign, body, h1, h2⟩ := hY
  unfold wpListIn
  rw [if_pos (show Region.wanted o (yielded ops (frD n ds f).tmps) = true from hw)]
  refine ⟨fun _ _ => trivial, ?_⟩
  rw [Oper.semAt_eq _ _ _ (fun c hc => by rw [calmO, hc] at hcl; cases hcl), frD_eval, hr, h1]
  refine ⟨fun q => (by cases q), ?_⟩
  have h3 : RoundIn (FW ρ) 0 P l fn tmps assign body w fun e w' => ∃ b, e = .returned (.bool b) ∧ post b w' := h2
  refine h3.mono ?_
  rintro e w' ⟨b, rfl, q⟩
  have e2 : (frD n ds f).put o.dst (.bool b) = frD n ds (upd f d (.bool b)) := by
    have : (frD n ds f).put o.dst (.bool b) = dsA ds ((fr n f).put o.dst (.bool b)) := by rw [dsA_put]; rfl
    rw [this, hd, fr_put]; rfl
  show wpListIn (FW ρ) 0 P ops Q rest ((frD n ds f).put o.dst (.bool b)) w'
  rw [e2]
  exact h b w' q ρ ds Q hQ
theorem GLY_yield {l : Nat} {v : Value} {ts : Array TypeId} {post : Bool → World → Prop} (hw : Wn n ops f o) (hd : o.dst = some d) (ho : o.op = .call { callee := .value x, args := #[y], argTypes := ts }) (hx : ev n f x = yv l) (hy : ev n f y = v) (hY : Yd P l #[v] w post)
    (h : ∀ b w', post b w' → GLY P n ops rest (upd f d (.bool b)) w' K) : GLY P n ops (o :: rest) f w K :=
  GLY_enter hw hd (by rw [calmO, ho]) (by simp [execOp, ho, resolve, hx, hy, Deferred.ofValue, invoke, Sem.run]) hY h
theorem GLY_yield2 {l : Nat} {v u : Value} {ts : Array TypeId} {post : Bool → World → Prop} (hw : Wn n ops f o) (hd : o.dst = some d) (ho : o.op = .call { callee := .value x, args := #[y, z], argTypes := ts }) (hx : ev n f x = yv l) (hy : ev n f y = v) (hz : ev n f z = u) (hY : Yd P l #[v, u] w post)
    (h : ∀ b w', post b w' → GLY P n ops rest (upd f d (.bool b)) w' K) : GLY P n ops (o :: rest) f w K :=
  GLY_enter hw hd (by rw [calmO, ho]) (by simp [execOp, ho, resolve, hx, hy, hz, Deferred.ofValue, invoke, Sem.run]) hY h
end yields
def rndQ (A B : World → Prop) : Post
  | .normal, _, w => A w
  | .ret, _, w => B w
  | _, _, _ => False
section range
variable {P : Program} {n : Nat} {ds : List Deferred} {f : Fm} {w w0 : World} {S : List Nat} {Q : PostD}
theorem GV_rangeA {α β γ : Type} {gop : Operand} {ps : Array Tmp} {assign body : Code} {gf : Nat} {lb : List Value} (encs : α → Array Value) (A : List α → Prop) (fx : α → Fm) (R : List α → β → List Res) (C : List α → β → Prop) (RX : γ → List Res) (CX : γ → Prop) (Own : World → Prop) (z0 : β)
    (hg : ev n f gop = .func (.func gf) #[] ⟨lb⟩) (hsz : ∀ x, (encs x).size = ps.size) (hfx : ∀ x, (ps.zip (encs x)).foldl (fun t (p, v) => t.setIfInBounds p v) (fr n f).tmps = (fr n (fx x)).tmps)
    (hca : calmC assign = true) (hcb : calmC body = true) (hit : IterA P gf lb encs A Own) (hp : Hp w0 S w (R [] z0)) (h0 : C [] z0) (hown : ∀ p z w', Hp w0 S w' (R p z) → C p z → Own w')
    (hround : ∀ p x s z w' L D r r', A (p ++ x :: s) → C p z → Hp w0 S w' (.blk L (.loop r) :: .blk D (.deferred (some [])) :: R p z) → GW P n assign (fx x) w' fun e f1 w1 => e = .normal ∧ ∃ H1, Hp w0 S w1 (.blk L (.loop r) :: H1) ∧ ∀ w2, Hp w0 S w2 (.blk L (.loop r') :: H1) →
      GW P n body f1 w2 (rndQ (fun w3 => ∃ z', C (p ++ [x]) z' ∧ Hp w0 S w3 (.blk L (.loop r') :: .blk D (.deferred (some [])) :: R (p ++ [x]) z')) (fun w3 => ∃ c, CX c ∧ Hp w0 S w3 (.blk L (.loop r') :: .blk D (.deferred (some [])) :: RX c))))
    (hdone : ∀ xs z D w', A xs → C xs z → Hp w0 S w' (.blk D (.deferred (some [])) :: R xs z) → Q .normal (markOf D :: ds) f w')
    (hret : ∀ c D w', CX c → Hp w0 S w' (.blk D (.deferred (some [])) :: RX c) → Q .ret (markOf D :: ds) f w') : GV P n (.rangeFunc gop ps assign body) ds f w Q := by
  refine wpIn_rangeFunc fun fn _ => ?_
  obtain ⟨D, hD⟩ : ∃ D, D = w.heap.size := ⟨_, rfl⟩
  obtain ⟨W1, hW1⟩ : ∃ W1, W1 = w.alloc (.deferred (some [])) := ⟨_, rfl⟩
  obtain ⟨L, hL⟩ : ∃ L, L = W1.heap.size := ⟨_, rfl⟩
  let rec0 : Loop := { state := .ready, pending := none, fn, tmps := (frD n ds f).tmps, params := ps, assign, body, defers := D }
  obtain ⟨W2, hW2⟩ : ∃ W2, W2 = W1.alloc (.loop rec0) := ⟨_, rfl⟩
  have he : (Instr.enterLoop fn (frD n ds f).tmps ps assign body none).run P w = .ok (L, [markOf D]) W2 := by
    subst hD hW1 hL hW2
    simp [Instr.enterLoop, newObj, Sem.run, markOf, rec0]
  have hp2 : Hp w0 S W2 (.blk L (.loop rec0) :: .blk D (.deferred (some [])) :: R [] z0) := by
    subst hD hW1 hL hW2
    exact (hp.comp (Hp.newBlk w _)).comp (Hp.newBlk _ _)
  let J : List α → World → Prop := fun p w' => ∃ z, C p z ∧ Hp w0 S w' (.blk L (.loop rec0) :: .blk D (.deferred (some [])) :: R p z)
  let X : World → Prop := fun w' => ∃ c, CX c ∧ Hp w0 S w' (.blk L (.loop { rec0 with state := .done, pending := some .ret }) :: .blk D (.deferred (some [])) :: RX c)
  have hcall := hit L J X W2
    (fun p w w' ⟨z, hz, hq⟩ hm => ⟨z, hz, hq.comp (H' := []) ⟨hm, by simp, by simp, .nil⟩⟩)
    (fun w w' ⟨c, hc, hq⟩ hm => ⟨c, hc, hq.comp (H' := []) ⟨hm, by simp, by simp, .nil⟩⟩)
    (fun p w ⟨z, hz, hq⟩ => hown p z w (hq.drop 2) hz) ⟨z0, h0, hp2⟩
    (fun p x s w' hxs ⟨z, hz, hq⟩ => by
      have hl : w'.heap[L]? = some (.loop rec0) := hq.get 0 rfl
      refine ⟨fn, (ps.zip (encs x)).foldl (fun t (p, v) => t.setIfInBounds p v) (fr n f).tmps, assign, body, ?_, ?_⟩
      · have h1 : (encs x).size = ps.size := hsz x
        simp [Instr.yield, Instr.getLoop, getObj, hl, Sem.run, rec0, h1]
        rfl
      · refine roundIn_of_wpIn (F := Fence.wide) trivial ?_
        have ha := gw_at (hround p x s z w' L D rec0 { rec0 with state := .busy } hxs hz hq) hca (some L) []
        have e1 : ({ tmps := (ps.zip (encs x)).foldl (fun t (p, v) => t.setIfInBounds p v) (fr n f).tmps, defers := [] } : Act) = frD n [] (fx x) := by rw [hfx x]; rfl
        rw [e1]
        refine wpIn_mono ha ?_
        rintro e a w1 ⟨f1, rfl, rfl, H1, hq1, hb⟩
        have hl1 : w1.heap[L]? = some (.loop rec0) := hq1.get 0 rfl
        refine ⟨{ w1 with heap := w1.heap.setIfInBounds L (.loop { rec0 with state := .busy }) }, ?_, ?_⟩
        · simp [Instr.beginRound, Instr.getLoop, getObj, setObj, hl1, Sem.run, rec0]
        · have hq2 := hq1.turnAt 0 rfl (Hp.setObj (.loop { rec0 with state := .busy }) hl1)
          refine wpIn_mono (gw_at (hb _ hq2) hcb (some L) []) ?_
          rintro e a w3 ⟨f2, rfl, q⟩
          cases e with
          | normal =>
            obtain ⟨z', hz', hq3⟩ := q
            have hl3 : w3.heap[L]? = some (.loop { rec0 with state := .busy }) := hq3.get 0 rfl
            refine ⟨.bool true, { w3 with heap := w3.heap.setIfInBounds L (.loop rec0) }, ?_, true, rfl, z', hz', hq3.turnAt 0 rfl (Hp.setObj (.loop rec0) hl3)⟩
            simp [Instr.endRound, Instr.getLoop, getObj, setObj, hl3, Sem.run, rec0]
          | ret =>
            obtain ⟨c, hc, hq3⟩ := q
            have hl3 : w3.heap[L]? = some (.loop { rec0 with state := .busy }) := hq3.get 0 rfl
            refine ⟨.bool false, { w3 with heap := w3.heap.setIfInBounds L (.loop { rec0 with state := .done, pending := some .ret }) }, ?_, false, rfl, c, hc, hq3.turnAt 0 rfl (Hp.setObj _ hl3)⟩
            simp [Instr.endRound, Instr.getLoop, getObj, setObj, hl3, Sem.run, rec0]
          | _ => exact q.elim)
  obtain ⟨fnn, hf1, hf2, hf3⟩ := hcall.isFn
  have hf2' : ¬ fnn.name = "runtime.NumGoroutine" := by simpa using hf2
  have hf3' : ¬ fnn.body = none := by intro e; rw [e] at hf3; cases hf3
  refine ⟨L, [markOf D], W2, { target := .fn (.func gf) ⟨lb⟩, args := #[yv L] }, W2, gf, ⟨yv L :: lb⟩, W2, he, ?_, fun _ _ => trivial, ?_, fun q => (by cases q), callsIn_wide.2 (hcall.calls.mono ?_)⟩
  · have hev : (frD n ds f).eval gop = .func (.func gf) #[] ⟨lb⟩ := by rw [frD_eval]; exact hg
    have hcv : (frD n ds f).eval (.const (yv L)) = yv L := rfl
    simp [resolve, rangeCall, hev, hcv, Deferred.ofValue, Sem.run]
  · simp [invoke, callFunc, program, Sem.run, hf1, hf2', hf3']
  · rintro e w' ⟨v, rfl, q⟩
    rcases q with ⟨xs, hxs, z, hz, hq⟩ | ⟨c, hc, hq⟩
    · have hl : w'.heap[L]? = some (.loop rec0) := hq.get 0 rfl
      refine ⟨none, { w' with heap := w'.heap.setIfInBounds L (.loop { rec0 with state := .exhausted }) }, ?_, ?_⟩
      · simp [Instr.endLoop, Instr.getLoop, getObj, setObj, hl, Sem.run, rec0]
      · exact ⟨markOf D :: ds, f, rfl, hdone xs z D _ hxs hz ((hq.turnAt 0 rfl (Hp.setObj (.loop { rec0 with state := .exhausted }) hl)).drop 1)⟩
    · have hl : w'.heap[L]? = some (.loop { rec0 with state := .done, pending := some .ret }) := hq.get 0 rfl
      refine ⟨some .ret, { w' with heap := w'.heap.setIfInBounds L (.loop { rec0 with state := .exhausted, pending := some .ret }) }, ?_, ?_⟩
      · simp [Instr.endLoop, Instr.getLoop, getObj, setObj, hl, Sem.run, rec0]
      · exact wpIn_ret ⟨markOf D :: ds, f, rfl, hret c D _ hc ((hq.turnAt 0 rfl (Hp.setObj (.loop { rec0 with state := .exhausted, pending := some .ret }) hl)).drop 1)⟩
theorem GV_range {α β γ : Type} {gop : Operand} {ps : Array Tmp} {assign body : Code} {gf : Nat} {lb : List Value} (encs : α → Array Value) (xs : List α) (fx : α → Fm) (R : List α → β → List Res) (C : List α → β → Prop) (RX : γ → List Res) (CX : γ → Prop) (Own : World → Prop) (z0 : β)
    (hg : ev n f gop = .func (.func gf) #[] ⟨lb⟩) (hsz : ∀ x, (encs x).size = ps.size) (hfx : ∀ x, (ps.zip (encs x)).foldl (fun t (p, v) => t.setIfInBounds p v) (fr n f).tmps = (fr n (fx x)).tmps)
    (hca : calmC assign = true) (hcb : calmC body = true) (hit : Iter P gf lb encs xs Own) (hp : Hp w0 S w (R [] z0)) (h0 : C [] z0) (hown : ∀ p z w', Hp w0 S w' (R p z) → C p z → Own w')
    (hround : ∀ p x s z w' L D r r', xs = p ++ x :: s → C p z → Hp w0 S w' (.blk L (.loop r) :: .blk D (.deferred (some [])) :: R p z) → GW P n assign (fx x) w' fun e f1 w1 => e = .normal ∧ ∃ H1, Hp w0 S w1 (.blk L (.loop r) :: H1) ∧ ∀ w2, Hp w0 S w2 (.blk L (.loop r') :: H1) →
      GW P n body f1 w2 (rndQ (fun w3 => ∃ z', C (p ++ [x]) z' ∧ Hp w0 S w3 (.blk L (.loop r') :: .blk D (.deferred (some [])) :: R (p ++ [x]) z')) (fun w3 => ∃ c, CX c ∧ Hp w0 S w3 (.blk L (.loop r') :: .blk D (.deferred (some [])) :: RX c))))
    (hdone : ∀ z D w', C xs z → Hp w0 S w' (.blk D (.deferred (some [])) :: R xs z) → Q .normal (markOf D :: ds) f w')
    (hret : ∀ c D w', CX c → Hp w0 S w' (.blk D (.deferred (some [])) :: RX c) → Q .ret (markOf D :: ds) f w') : GV P n (.rangeFunc gop ps assign body) ds f w Q :=
  GV_rangeA encs (fun l => xs = l) fx R C RX CX Own z0 hg hsz hfx hca hcb hit.toA hp h0 hown hround (fun ys z D w' e hz hq => by subst e; exact hdone z D w' hz hq) hret
theorem GV_range1 {α β γ : Type} {gop : Operand} {p : Tmp} {assign body : Code} {gf : Nat} {lb : List Value} (enc : α → Value) (xs : List α) (R : List α → β → List Res) (C : List α → β → Prop) (RX : γ → List Res) (CX : γ → Prop) (Own : World → Prop) (z0 : β)
    (hg : ev n f gop = .func (.func gf) #[] ⟨lb⟩) (hca : calmC assign = true) (hcb : calmC body = true) (hit : Iter P gf lb (fun x => #[enc x]) xs Own) (hp : Hp w0 S w (R [] z0)) (h0 : C [] z0) (hown : ∀ p z w', Hp w0 S w' (R p z) → C p z → Own w')
    (hround : ∀ q x s z w' L D r r', xs = q ++ x :: s → C q z → Hp w0 S w' (.blk L (.loop r) :: .blk D (.deferred (some [])) :: R q z) → GW P n assign (upd f p (enc x)) w' fun e f1 w1 => e = .normal ∧ ∃ H1, Hp w0 S w1 (.blk L (.loop r) :: H1) ∧ ∀ w2, Hp w0 S w2 (.blk L (.loop r') :: H1) →
      GW P n body f1 w2 (rndQ (fun w3 => ∃ z', C (q ++ [x]) z' ∧ Hp w0 S w3 (.blk L (.loop r') :: .blk D (.deferred (some [])) :: R (q ++ [x]) z')) (fun w3 => ∃ c, CX c ∧ Hp w0 S w3 (.blk L (.loop r') :: .blk D (.deferred (some [])) :: RX c))))
    (hdone : ∀ z D w', C xs z → Hp w0 S w' (.blk D (.deferred (some [])) :: R xs z) → Q .normal (markOf D :: ds) f w')
    (hret : ∀ c D w', CX c → Hp w0 S w' (.blk D (.deferred (some [])) :: RX c) → Q .ret (markOf D :: ds) f w') : GV P n (.rangeFunc gop #[p] assign body) ds f w Q :=
  GV_range (fun x => #[enc x]) xs (fun x => upd f p (enc x)) R C RX CX Own z0 hg (fun _ => rfl) (fun x => by
    have := congrArg Act.tmps (fr_put n f p (enc x))
    simpa [Act.put] using this) hca hcb hit hp h0 hown hround hdone hret
theorem FM_of {fn : Func} {post : Value → World → Prop} (Ds : List Nat) {f : Fm} {w : World} (h : Shut P Ds w fun w' => ∃ v, resultsOf P n fn f w' v ∧ post v w') : FM P n fn post .ret (Ds.map markOf) f w ∧ FM P n fn post .normal (Ds.map markOf) f w := ⟨⟨Ds, rfl, h⟩, ⟨Ds, rfl, h⟩⟩
theorem Shut_nil {K : World → Prop} (h : K w) : Shut P [] w K := h
end range
attribute [irreducible] GLY GV
end Go.Mo
