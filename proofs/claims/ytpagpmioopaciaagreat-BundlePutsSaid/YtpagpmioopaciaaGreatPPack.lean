/- Ranges over functions: rounds, yields, the statement; functions that hold one. Nothing of the program stands here. -/
import Derived.Test.YtpagpmioopaciaaGreatPActs
import Derived.RangeFuncLeaves
set_option linter.unusedVariables false
set_option linter.unusedSimpArgs false
namespace Go.Mo
open Go.RowKit
abbrev PostD := Exit → List Deferred → Fm → World → Prop
def liftV (n : Nat) (Q : PostD) : Exit → Act → World → Prop := fun e a w => ∃ ds f, a = frD n ds f ∧ Q e ds f w
def GV (P : Program) (n : Nat) (c : Code) (ds : List Deferred) (f : Fm) (w : World) (Q : PostD) : Prop := c.wpIn Fence.wide 0 P (liftV n Q) (frD n ds f) w
section spine
variable {P : Program} {n : Nat} {ds : List Deferred} {f : Fm} {w : World} {Q : PostD}
theorem gw_at {c : Code} {Q : Post} (h : GW P n c f w Q) (hc : calmC c = true) (ρ : Option Nat) (ds : List Deferred) : c.wpIn (FW ρ) 0 P (liftD n ds Q) (frD n ds f) w := by unfold GW at h; exact h hc ρ ds
theorem gw_mk {c : Code} {Q : Post} (h : calmC c = true → ∀ (ρ : Option Nat) (ds : List Deferred), c.wpIn (FW ρ) 0 P (liftD n ds Q) (frD n ds f) w) : GW P n c f w Q := by unfold GW; exact h
theorem gl_at {ops : Array Oper} {l : List Oper} {K : Fm → World → Prop} (h : GL P n ops l f w ⟨K, fun _ _ _ => False⟩) (Q : Exit → Act → World → Prop) (hQ : ∀ f' w', K f' w' → Q .normal (fr n f') w') : wpList P ops Q l (fr n f) w := by unfold GL at h; exact h Q hQ (fun _ _ _ q => q.elim)
theorem GV_of {c : Code} (hc : calmC c = true) (h : GW P n c f w fun e f' w' => Q e ds f' w') : GV P n c ds f w Q :=
  wpIn_mono (gw_at h hc none ds) fun e a w ⟨f', ea, q⟩ => ⟨ds, f', ea, q⟩
def thenV (next : List Deferred → Fm → World → Prop) (Q : PostD) : PostD
  | .normal, ds, f, w => next ds f w
  | e, ds, f, w => Q e ds f w
theorem GV_seq {x y : Code} (h : GV P n x ds f w (thenV (fun ds' f' w' => GV P n y ds' f' w' Q) Q)) : GV P n (x.seq y) ds f w Q := by
  refine wpIn_seq (wpIn_mono h ?_)
  rintro e a w' ⟨ds', f', rfl, q⟩
  cases e <;> first | exact q | exact ⟨ds', f', rfl, q⟩
def blockV (id : Nat) (Q : PostD) : PostD
  | .exit id', ds, f, w => bif Nat.beq id' id then Q .normal ds f w else Q (.exit id') ds f w
  | e, ds, f, w => Q e ds f w
theorem GV_block {id : Nat} {c : Code} (h : GV P n c ds f w (blockV id Q)) : GV P n (.block id c) ds f w Q := by
  refine wpIn_block (wpIn_mono h ?_)
  rintro e a w' ⟨ds', f', rfl, q⟩
  cases e with
  | exit id' =>
    by_cases hid : id' = id
    · subst hid
      simp only [blockV, Nat.beq_refl, cond_true] at q
      simp only [Exit.inBlock, if_true]
      exact ⟨ds', f', rfl, q⟩
    · simp only [blockV, beq_no hid, cond_false] at q
      simp only [Exit.inBlock, hid, if_false]
      exact ⟨ds', f', rfl, q⟩
  | _ => exact ⟨ds', f', rfl, q⟩
end spine
/-- The mark that a range over a function leaves. -/
def markOf (D : Nat) : Deferred := { target := .collected D, args := #[] }
/-- The marks are taken, one by one. -/
def Shut (P : Program) : List Nat → World → (World → Prop) → Prop
  | [], w, K => K w
  | D :: Ds, w, K => ∃ w1, (Instr.takeDeferred D).run P w = .ok [] w1 ∧ Shut P Ds w1 K
theorem Hp.setObj {w : World} {g : Nat} {o : Obj} (o' : Obj) (h : w.heap[g]? = some o) : Hp w [g] { w with heap := w.heap.setIfInBounds g o' } [.blk g o'] := by
  have hlt : g < w.heap.size := (Array.getElem?_eq_some_iff.1 h).1
  refine ⟨⟨rfl, rfl, rfl, by simp, fun k hk hn => ?_⟩, ?_, by simp [Res.foot], by simp⟩
  · simp only [List.mem_singleton] at hn
    show (w.heap.setIfInBounds g _)[k]? = _
    rw [Array.getElem?_setIfInBounds_ne (fun e => hn e.symm)]
  · intro q hq
    simp only [List.mem_singleton] at hq
    subst hq
    show (w.heap.setIfInBounds g _)[g]? = _
    rw [Array.getElem?_setIfInBounds_self_of_lt hlt]
theorem Shut_cons {P : Program} {w0 w : World} {S : List Nat} {H : List Res} {D i : Nat} {Ds : List Nat} {K : World → Prop} (hp : Hp w0 S w H) (hi : H[i]? = some (.blk D (.deferred (some [])))) (h : ∀ w1, Hp w0 S w1 (H.set i (.blk D (.deferred none))) → Shut P Ds w1 K) : Shut P (D :: Ds) w K := by
  have hg : w.heap[D]? = some (.deferred (some [])) := hp.get i hi
  refine ⟨_, ?_, h _ (hp.turnAt i hi (Hp.setObj (.deferred none) hg))⟩
  simp [Instr.takeDeferred, getObj, setObj, hg, Sem.run]
def FM (P : Program) (n : Nat) (fn : Func) (post : Value → World → Prop) : PostD
  | .normal, ds, f, w | .ret, ds, f, w => ∃ Ds : List Nat, ds = Ds.map markOf ∧ Shut P Ds w fun w' => ∃ v, resultsOf P n fn f w' v ∧ post v w'
  | _, _, _, _ => False
theorem leaves_of {P : Program} {fn : Func} {tmps : Array Value} {post : Value → World → Prop} : ∀ (Ds : List Nat) (w : World), Shut P Ds w (fun w' => ∃ v, (results fn tmps).run P w' = .ok v w' ∧ post v w') → LeavesInM Fence.wide 0 P fn tmps (fun e w' => ∃ v, e = .returned v ∧ post v w') (Ds.map markOf) .returning w
  | [], w, h => by
    obtain ⟨v, h1, h2⟩ := h
    exact ⟨v, h1, v, rfl, h2⟩
  | D :: Ds, w, h => by
    obtain ⟨w1, h1, h2⟩ := h
    exact ⟨by simp, .inl ⟨D, w1, rfl, h1, leaves_of Ds w1 h2⟩⟩
theorem does_ofM {P : Program} {k : Nat} {fn : Func} {c : Code} {args : Array Value} {w : World} {post : Value → World → Prop} {n : Nat} {l : List Value}
    (hf : P.funcs[k]? = some fn) (hname : (fn.name == "runtime.NumGoroutine") = false) (hb : fn.body = some c) (hn : fn.ntmps = n) (hl : args.toList = l) (hs : Nat.ble l.length n = true)
    (h : GV P n c [] (frame0 l) w (FM P n fn post)) : Does P k args w post := by
  refine ⟨⟨fn, hf, hname, by rw [hb]; rfl⟩, callsIn_wide.1 (callsIn_of_wp_marks (F := Fence.wide) (n := 0) hf hb trivial ?_)⟩
  subst hl
  rw [hn, frame0_eq n args (by simpa using Nat.le_of_ble_eq_true hs)]
  refine wpIn_mono h ?_
  rintro e a w' ⟨ds, f', rfl, q⟩
  cases e <;> simp only [FM] at q <;> first | exact q.elim | skip
  · obtain ⟨Ds, rfl, q⟩ := q; exact leaves_of Ds w' q
  · obtain ⟨Ds, rfl, q⟩ := q; exact leaves_of Ds w' q
abbrev yv (l : Nat) : Value := .func (.yield l) #[] #[]
/-- Calling yield runs a round, and this holds of what it hands back. -/
def Yd (P : Program) (l : Nat) (args : Array Value) (w : World) (post : Bool → World → Prop) : Prop :=
  ∃ fn tmps assign body, (Instr.yield l args).run P w = .ok (.round l fn tmps assign body) w ∧ RoundIn Fence.wide 0 P l fn tmps assign body w fun e w' => ∃ b, e = .returned (.bool b) ∧ post b w'
/-- Blocks that stay as they are, as a thing that is owned. -/
def frz (B : List Nat) (w : World) : Res := .pack B (fun v => ∀ g ∈ B, v.heap[g]? = w.heap[g]? ∧ g < v.heap.size) (fun v v' hs h g hg => ⟨(hs g hg).trans (h g hg).1, by
    have h1 := (h g hg).2
    have h2 := hs g hg
    rw [Array.getElem?_eq_getElem h1] at h2
    exact (Array.getElem?_eq_some_iff.1 h2).1⟩) (fun v h g hg => (h g hg).2)
/-- Operations of which some are yields. -/
def GLY (P : Program) (n : Nat) (ops : Array Oper) (l : List Oper) (f : Fm) (w : World) (K : Fm → World → Prop) : Prop :=
  ∀ (ρ : Option Nat) (ds : List Deferred) (Q : Exit → Act → World → Prop), (∀ f' w', K f' w' → Q .normal (frD n ds f') w') → wpListIn (FW ρ) 0 P ops Q l (frD n ds f) w
section yields
variable {P : Program} {n : Nat} {ops : Array Oper} {f : Fm} {w : World} {K : Fm → World → Prop} {o : Oper} {rest : List Oper} {d : Nat} {x y z : Operand}
theorem GLY_nil (h : K f w) : GLY P n ops [] f w K := fun ρ ds Q hQ => hQ _ _ h
theorem GLY_of (hd : calmO o = true) (h : GL P n ops [o] f w ⟨fun f' w' => GLY P n ops rest f' w' K, fun _ _ _ => False⟩) : GLY P n ops (o :: rest) f w K := by
  intro ρ ds Q hQ
  have h1 := gl_at h (fun e a w => e = .normal ∧ ∃ f', a = fr n f' ∧ GLY P n ops rest f' w K) (fun f' w' q => ⟨rfl, f', rfl, q⟩)
  unfold wpList at h1
  unfold wpListIn
  split
  · rename_i hw
    rw [if_pos (show Region.wanted o (yielded ops (fr n f).tmps) = true from hw)] at h1
    rcases h1 with h1 | ⟨_, a0, w0, q⟩
    · refine operIn_of (ds := ds) (a := fr n f) (Q := fun e a w => e = .normal ∧ ∃ f', a = fr n f' ∧ GLY P n ops rest f' w K) hd (fun a w q => ?_) (fun c a w q => ?_) (fun a w q => by cases q.1) h1
      · obtain ⟨_, f', rfl, q⟩ := q
        exact q ρ ds Q hQ
      · cases q.1
    · cases q.1
  · rename_i hw
    rw [if_neg (show ¬ Region.wanted o (yielded ops (fr n f).tmps) = true from hw)] at h1
    refine ⟨fun _ _ => trivial, ?_⟩
    obtain ⟨_, f', e, q⟩ := h1
    have e2 : (frD n ds f).put o.dst undef = frD n ds f' := by
      have : (frD n ds f).put o.dst undef = dsA ds ((fr n f).put o.dst undef) := by rw [dsA_put]; rfl
      rw [this, e]; rfl
    rw [e2]
    exact q ρ ds Q hQ
theorem GW_regionY {id : Nat} {l : List Oper} {Q : Post} (h : GLY P n l.toArray l f w fun f' w' => Q .normal f' w') : GW P n (.region id l.toArray false) f w Q :=
  gw_mk fun hc ρ ds => wpIn_region_lit (h ρ ds _ fun f' w' q => ⟨f', rfl, q⟩)
theorem GLY_enter {l : Nat} {args : Array Value} {post : Bool → World → Prop} (hw : Wn n ops f o) (hd : o.dst = some d) (hcl : calmO o = true) (hr : (execOp (ev n f) o).run P w = (Instr.yield l args).run P w) (hY : Yd P l args w post) (h : ∀ b w', post b w' → GLY P n ops rest (upd f d (.bool b)) w' K) : GLY P n ops (o :: rest) f w K := by
  intro ρ ds Q hQ
  obtain ⟨fn, tmps, assign, body, h1, h2⟩ := hY
  unfold wpListIn
  rw [if_pos (show Region.wanted o (yielded ops (frD n ds f).tmps) = true from hw)]
  refine ⟨fun _ _ => trivial, ?_⟩
  rw [Oper.semAt_eq _ _ _ (fun c hc => by rw [calmO, hc] at hcl; cases hcl), frD_eval, hr, h1]
  refine ⟨fun q => (by cases q), ?_⟩
  have h3 : RoundIn (FW ρ) 0 P l fn tmps assign body w fun e w' => ∃ b, e = .returned (.bool b) ∧ post b w' := h2
  refine h3.mono ?_
  rintro e w' ⟨b, rfl, q⟩
  have e2 : (frD n ds f).put o.dst (.bool b) = frD n ds (upd f d (.bool b)) := by
    have : (frD n ds f).put o.dst (.bool b) = dsA ds ((fr n f).put o.dst (.bool b)) := by rw [dsA_put]; rfl
    rw [this, hd, fr_put]; rfl
  show wpListIn (FW ρ) 0 P ops Q rest ((frD n ds f).put o.dst (.bool b)) w'
  rw [e2]
  exact h b w' q ρ ds Q hQ
theorem GLY_yield2 {l : Nat} {v u : Value} {ts : Array TypeId} {post : Bool → World → Prop} (hw : Wn n ops f o) (hd : o.dst = some d) (ho : o.op = .call { callee := .value x, args := #[y, z], argTypes := ts }) (hx : ev n f x = yv l) (hy : ev n f y = v) (hz : ev n f z = u) (hY : Yd P l #[v, u] w post)
    (h : ∀ b w', post b w' → GLY P n ops rest (upd f d (.bool b)) w' K) : GLY P n ops (o :: rest) f w K :=
  GLY_enter hw hd (by rw [calmO, ho]) (by simp [execOp, ho, resolve, hx, hy, hz, Deferred.ofValue, invoke, Sem.run]) hY h
end yields
def rndQ (A B : World → Prop) : Post
  | .normal, _, w => A w
  | .ret, _, w => B w
  | _, _, _ => False
section range
variable {P : Program} {n : Nat} {ds : List Deferred} {f : Fm} {w w0 : World} {S : List Nat} {Q : PostD}
theorem FM_of {fn : Func} {post : Value → World → Prop} (Ds : List Nat) {f : Fm} {w : World} (h : Shut P Ds w fun w' => ∃ v, resultsOf P n fn f w' v ∧ post v w') : FM P n fn post .ret (Ds.map markOf) f w ∧ FM P n fn post .normal (Ds.map markOf) f w := ⟨⟨Ds, rfl, h⟩, ⟨Ds, rfl, h⟩⟩
theorem Shut_nil {K : World → Prop} (h : K w) : Shut P [] w K := h
end range
/-- A result that lies in memory and is one cell. -/
theorem rv_cell1 {P : Program} {n : Nat} {f : Fm} {w : World} {a T g : Nat} {d : TypeDesc} {v : Value} (h : Nat.blt a n = true) (hf : f a = .pointer (some ⟨g, 0, none⟩)) (hT : P.underlying T = some d) (hd : plainT d = true) {U : Nat} (hg : (Go.Mo.cells g U [v]).at_ w) :
    Rv P n f w (.cell a T) v := by
  refine ⟨h, g, 0, hf, ?_⟩
  have hc : w.cell? ⟨g, 0, none⟩ = some v := (cell_of_cells hg 0).trans rfl
  unfold loadVar
  cases d <;> simp [plainT] at hd <;> simp [isAgg, run_underlying hT, hc, Sem.run]
attribute [irreducible] GLY GV
end Go.Mo
set_option linter.unusedVariables false
set_option linter.unusedSimpArgs false
namespace Go.Mo
theorem feet_mem {l : List Res} {g : Nat} : g ∈ feet l ↔ ∃ r ∈ l, g ∈ r.foot := by simp [feet]
theorem res_same {w w' : World} {r : Res} (h : r.at_ w) (hs : ∀ g ∈ r.foot, w'.heap[g]? = w.heap[g]?) : r.at_ w' := by
  cases r with
  | blk g o => exact (hs g (by simp [Res.foot])).trans h
  | row T sz v n xs =>
    obtain ⟨h1, h2⟩ := h
    refine ⟨h1, ?_⟩
    rcases h2 with h2 | ⟨g, cap, cur, rfl, hb, hh, r⟩
    · exact .inl h2
    · exact .inr ⟨g, cap, cur, rfl, hb, (hs g (by simp [Res.foot, Value.ownBlock])).trans hh, r⟩
  | pack f p hk hl => exact hk w w' hs h
/-- A list of owned things as one of them. -/
def packL (l : List Res) : Res := .pack (feet l) (fun w => (∀ r ∈ l, r.at_ w) ∧ l.Pairwise apartR)
  (fun w w' hs h => ⟨fun r hr => res_same (h.1 r hr) fun g hg => hs g (feet_mem.2 ⟨r, hr, hg⟩), h.2⟩)
  (fun w h g hg => by obtain ⟨r, hr, hf⟩ := feet_mem.1 hg; exact Res.lt (h.1 r hr) g hf)
theorem packL_at {l : List Res} {w : World} (h : (packL l).at_ w) {r : Res} (hr : r ∈ l) : r.at_ w := h.1 r hr
variable {w0 w : World} {S : List Nat} {H l l' : List Res} {r : Res}
theorem Hp.pack (h : Hp w0 S w (l ++ H)) : Hp w0 S w (packL l :: H) := by
  have hnd := List.pairwise_append.1 h.nd
  refine ⟨h.mod, fun r hr => ?_, fun r hr g hg => ?_, List.pairwise_cons.2 ⟨fun b hb g hg hg' => ?_, hnd.2.1⟩⟩
  · rcases List.mem_cons.1 hr with rfl | hr
    · exact ⟨fun r hr => h.own r (List.mem_append_left _ hr), hnd.1⟩
    · exact h.own r (List.mem_append_right _ hr)
  · rcases List.mem_cons.1 hr with rfl | hr
    · obtain ⟨q, hq, hf⟩ := feet_mem.1 hg
      exact h.new q (List.mem_append_left _ hq) g hf
    · exact h.new r (List.mem_append_right _ hr) g hg
  · obtain ⟨q, hq, hf⟩ := feet_mem.1 hg
    exact hnd.2.2 q hq b hb g hf hg'
theorem Hp.unpack (h : Hp w0 S w (packL l :: H)) : Hp w0 S w (l ++ H) := by
  have hnd := List.pairwise_cons.1 h.nd
  have h0 : (packL l).at_ w := h.own _ (by simp)
  refine ⟨h.mod, fun r hr => ?_, fun r hr g hg => ?_, List.pairwise_append.2 ⟨h0.2, hnd.2, fun a ha b hb g hg hg' => ?_⟩⟩
  · rcases List.mem_append.1 hr with hr | hr
    · exact h0.1 r hr
    · exact h.own r (List.mem_cons_of_mem _ hr)
  · rcases List.mem_append.1 hr with hr | hr
    · exact h.new (packL l) (by simp) g (feet_mem.2 ⟨r, hr, hg⟩)
    · exact h.new r (List.mem_cons_of_mem _ hr) g hg
  · exact hnd.1 b hb g (feet_mem.2 ⟨a, ha, hg⟩) hg'
theorem Hp.packNil (h : Hp w0 S w H) : Hp w0 S w (packL [] :: H) := Hp.pack (l := []) h
theorem Hp.packIn (h : Hp w0 S w (r :: packL l :: H)) : Hp w0 S w (packL (r :: l) :: H) := by
  have h1 : Hp w0 S w (packL l :: r :: H) := h.perm (List.Perm.swap r (packL l) H)
  have h2 : Hp w0 S w (l ++ r :: H) := h1.unpack
  exact Hp.pack (l := r :: l) (h2.perm (List.perm_middle.symm))
theorem Hp.packPerm (h : Hp w0 S w (packL l :: H)) (e : l'.Perm l) : Hp w0 S w (packL l' :: H) := Hp.pack (h.unpack.perm (e.append_right H))
end Go.Mo
