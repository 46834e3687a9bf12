/- Ranges over iterators that turn memory of their own and hand over new things. -/
import Derived.Test.YtpagpmioopaciaaGreatPPack
set_option linter.unusedVariables false
set_option linter.unusedSimpArgs false
namespace Go.Mo
open Go.RowKit
def IterC (P : Program) (k : Nat) (caps : List Value) {α : Type} (encs : α → Array Value) (Rx : α → List Res) (A : List α → Prop) (B0 : List Nat) (Own0 Own : World → Prop) : Prop :=
  ∀ (l : Nat) (J : List Nat → List α → World → Prop) (X : World → Prop) (w : World), (∀ B p w w' g, J B p w → Mod [] w w' → w.heap.size ≤ g → g < w'.heap.size → J (g :: B) p w') → (∀ B p w w', J B p w → Mod B w w' → J B p w') → (∀ w w', X w → Mod [] w w' → X w') → (∀ B p w, J B p w → Own w) → Own0 w → J B0 [] w →
    (∀ B p x s w w1, A (p ++ x :: s) → J B p w → Hp w [] w1 (Rx x) → Yd P l (encs x) w1 fun b w' => (∀ g ∈ B, w'.heap[g]? = w1.heap[g]?) ∧ bif b then J B (p ++ [x]) w' else X w') → Does P k ⟨yv l :: caps⟩ w fun _ w' => (∃ xs B, A xs ∧ J B xs w') ∨ X w'
theorem feet_in {l : List Res} {g : Nat} (h : g ∈ feet l) : ∃ r ∈ l, g ∈ r.foot := feet_mem.1 h
section
variable {P : Program} {n : Nat} {ds : List Deferred} {f : Fm} {w w0 : World} {S : List Nat} {Q : PostD}
theorem GV_rangeC {α β γ : Type} {gop : Operand} {ps : Array Tmp} {assign body : Code} {gf : Nat} {lb : List Value} (encs : α → Array Value) (A : List α → Prop) (fx : α → Fm) (R : List α → β → List Res) (C : List α → β → Prop) (RX : γ → List Res) (CX : γ → Prop) (Rx : α → List Res) (Ho : List Res) (Own0 Own : World → Prop) (z0 : β)
    (hg : ev n f gop = .func (.func gf) #[] ⟨lb⟩) (hsz : ∀ x, (encs x).size = ps.size) (hfx : ∀ x, (ps.zip (encs x)).foldl (fun t (p, v) => t.setIfInBounds p v) (fr n f).tmps = (fr n (fx x)).tmps)
    (hca : calmC assign = true) (hcb : calmC body = true) (hit : IterC P gf lb encs Rx A (feet Ho) Own0 Own) (hp : Hp w0 S w (Ho ++ R [] z0)) (h0 : C [] z0) (hown0 : ∀ w', (∀ r ∈ Ho, r.at_ w') → Own0 w') (hown : ∀ p z w', Hp w0 S w' (R p z) → C p z → Own w')
    (hround : ∀ fr p x s z w' L D r r', A (p ++ x :: s) → C p z → Hp w0 S w' (.blk L (.loop r) :: .blk D (.deferred (some [])) :: fr :: (Rx x ++ R p z)) → GW P n assign (fx x) w' fun e f1 w1 => e = .normal ∧ ∃ H1, Hp w0 S w1 (.blk L (.loop r) :: H1) ∧ ∀ w2, Hp w0 S w2 (.blk L (.loop r') :: H1) →
      GW P n body f1 w2 (rndQ (fun w3 => ∃ z', C (p ++ [x]) z' ∧ Hp w0 S w3 (.blk L (.loop r') :: .blk D (.deferred (some [])) :: fr :: R (p ++ [x]) z')) (fun w3 => ∃ c, CX c ∧ Hp w0 S w3 (.blk L (.loop r') :: .blk D (.deferred (some [])) :: fr :: RX c))))
    (hdone : ∀ xs z D w', A xs → C xs z → Hp w0 S w' (.blk D (.deferred (some [])) :: R xs z) → Q .normal (markOf D :: ds) f w')
    (hret : ∀ c D w', CX c → Hp w0 S w' (.blk D (.deferred (some [])) :: RX c) → Q .ret (markOf D :: ds) f w') : GV P n (.rangeFunc gop ps assign body) ds f w Q := by
  unfold GV
  refine wpIn_rangeFunc fun fn _ => ?_
  obtain ⟨D, hD⟩ : ∃ D, D = w.heap.size := ⟨_, rfl⟩
  obtain ⟨W1, hW1⟩ : ∃ W1, W1 = w.alloc (.deferred (some [])) := ⟨_, rfl⟩
  obtain ⟨L, hL⟩ : ∃ L, L = W1.heap.size := ⟨_, rfl⟩
  let rec0 : Loop := { state := .ready, pending := none, fn, tmps := (frD n ds f).tmps, params := ps, assign, body, defers := D }
  obtain ⟨W2, hW2⟩ : ∃ W2, W2 = W1.alloc (.loop rec0) := ⟨_, rfl⟩
  have he : (Instr.enterLoop fn (frD n ds f).tmps ps assign body none).run P w = .ok (L, [markOf D]) W2 := by
    subst hD hW1 hL hW2
    simp [Instr.enterLoop, newObj, Sem.run, markOf, rec0]
  have hp2 : Hp w0 S W2 (.blk L (.loop rec0) :: .blk D (.deferred (some [])) :: (Ho ++ R [] z0)) := by
    subst hD hW1 hL hW2
    exact (hp.comp (Hp.newBlk w _)).comp (Hp.newBlk _ _)
  have hp3 : Hp w0 S W2 (Ho ++ (.blk L (.loop rec0) :: .blk D (.deferred (some [])) :: R [] z0)) := hp2.perm (List.perm_append_comm_assoc Ho [_, _] (R [] z0))
  have hJ0 : ∀ g ∈ feet Ho, (w0.heap.size ≤ g ∨ g ∈ S) ∧ g < W2.heap.size ∧ ∀ r ∈ (.blk L (.loop rec0) :: .blk D (.deferred (some [])) :: R [] z0 : List Res), g ∉ r.foot := by
    intro g hg
    obtain ⟨r, hr, hgr⟩ := feet_in hg
    refine ⟨hp3.new r (List.mem_append_left _ hr) g hgr, hp3.foot_lt (List.mem_append_left _ hr) hgr, fun r2 hr2 hf => ?_⟩
    exact (List.pairwise_append.1 hp3.nd).2.2 r hr r2 hr2 g hgr hf
  let J : List Nat → List α → World → Prop := fun B p w' => ∃ z, C p z ∧ Hp w0 S w' (.blk L (.loop rec0) :: .blk D (.deferred (some [])) :: R p z) ∧ ∀ g ∈ B, (w0.heap.size ≤ g ∨ g ∈ S) ∧ g < w'.heap.size ∧ ∀ r ∈ (.blk L (.loop rec0) :: .blk D (.deferred (some [])) :: R p z : List Res), g ∉ r.foot
  let X : World → Prop := fun w' => ∃ c, CX c ∧ Hp w0 S w' (.blk L (.loop { rec0 with state := .done, pending := some .ret }) :: .blk D (.deferred (some [])) :: RX c)
  have hcall := hit L J X W2
    (fun B p w w' g ⟨z, hz, hq, hb⟩ hm h1 h2 => ⟨z, hz, hq.comp (H' := []) ⟨hm, by simp, by simp, .nil⟩, fun g' hg' => by
      rcases List.mem_cons.1 hg' with rfl | hg'
      · exact ⟨.inl (Nat.le_trans hq.mod.size h1), h2, fun r hr hf => by have := hq.foot_lt hr hf; omega⟩
      · obtain ⟨a1, a2, a3⟩ := hb g' hg'
        have := hm.size
        exact ⟨a1, by omega, a3⟩⟩)
    (fun B p w w' ⟨z, hz, hq, hb⟩ hm => ⟨z, hz, ⟨hq.mod.trans hm (fun g hg => (hb g hg).1.symm), fun r hr => Res.kept (hq.own r hr) hm fun g hg hB => (hb g hB).2.2 r hr hg, hq.new, hq.nd⟩, fun g hg => ⟨(hb g hg).1, Nat.lt_of_lt_of_le (hb g hg).2.1 hm.size, (hb g hg).2.2⟩⟩)
    (fun w w' ⟨c, hc, hq⟩ hm => ⟨c, hc, hq.comp (H' := []) ⟨hm, by simp, by simp, .nil⟩⟩)
    (fun B p w ⟨z, hz, hq, _⟩ => hown p z w (hq.drop 2) hz) (hown0 _ fun r hr => hp3.own r (List.mem_append_left _ hr)) ⟨z0, h0, hp3.sub (List.sublist_append_right _ _), hJ0⟩
    (fun B p x s wJ w' hxs ⟨z, hz, hqJ, hBJ⟩ hx => by
      have hq0 : Hp w0 S w' (Rx x ++ (.blk L (.loop rec0) :: .blk D (.deferred (some [])) :: R p z)) := hqJ.comp hx
      have hB : ∀ g ∈ B, (w0.heap.size ≤ g ∨ g ∈ S) ∧ g < w'.heap.size ∧ ∀ r ∈ (Rx x ++ (.blk L (.loop rec0) :: .blk D (.deferred (some [])) :: R p z) : List Res), g ∉ r.foot := fun g hg => by
        obtain ⟨a1, a2, a3⟩ := hBJ g hg
        refine ⟨a1, Nat.lt_of_lt_of_le a2 hx.mod.size, fun r hr hf => ?_⟩
        rcases List.mem_append.1 hr with hr | hr
        · rcases hx.new r hr g hf with h | h
          · omega
          · cases h
        · exact a3 r hr hf
      have hq : Hp w0 S w' (.blk L (.loop rec0) :: .blk D (.deferred (some [])) :: frz B w' :: (Rx x ++ R p z)) := by
        have h1 : Hp w0 S w' (frz B w' :: (Rx x ++ (.blk L (.loop rec0) :: .blk D (.deferred (some [])) :: R p z))) :=
          ⟨hq0.mod, fun r hr => by
            rcases List.mem_cons.1 hr with rfl | hr
            · exact fun g hg => ⟨rfl, (hB g hg).2.1⟩
            · exact hq0.own r hr, fun r hr g hg => by
            rcases List.mem_cons.1 hr with rfl | hr
            · exact (hB g hg).1
            · exact hq0.new r hr g hg, List.pairwise_cons.2 ⟨fun r hr g hg hf => (hB g hg).2.2 r hr hf, hq0.nd⟩⟩
        exact h1.perm ((((List.perm_append_comm_assoc (Rx x) [_, _] (R p z)).symm.cons _).symm.trans (((List.Perm.swap _ _ _).trans ((List.Perm.swap _ _ _).cons _)))).symm)
      have hl : w'.heap[L]? = some (.loop rec0) := hq.get 0 rfl
      refine ⟨fn, (ps.zip (encs x)).foldl (fun t (p, v) => t.setIfInBounds p v) (fr n f).tmps, assign, body, ?_, ?_⟩
      · have h1 : (encs x).size = ps.size := hsz x
        simp [Instr.yield, Instr.getLoop, getObj, hl, Sem.run, rec0, h1]
        rfl
      · refine roundIn_of_wpIn (F := Fence.wide) trivial ?_
        have ha := gw_at (hround (frz B w') p x s z w' L D rec0 { rec0 with state := .busy } hxs hz hq) hca (some L) []
        have e1 : ({ tmps := (ps.zip (encs x)).foldl (fun t (p, v) => t.setIfInBounds p v) (fr n f).tmps, defers := [] } : Act) = frD n [] (fx x) := by rw [hfx x]; rfl
        rw [e1]
        refine wpIn_mono ha ?_
        rintro e a w1 ⟨f1, rfl, rfl, H1, hq1, hb⟩
        have hl1 : w1.heap[L]? = some (.loop rec0) := hq1.get 0 rfl
        refine ⟨{ w1 with heap := w1.heap.setIfInBounds L (.loop { rec0 with state := .busy }) }, ?_, ?_⟩
        · simp [Instr.beginRound, Instr.getLoop, getObj, setObj, hl1, Sem.run, rec0]
        · have hq2 := hq1.turnAt 0 rfl (Hp.setObj (.loop { rec0 with state := .busy }) hl1)
          refine wpIn_mono (gw_at (hb _ hq2) hcb (some L) []) ?_
          rintro e a w3 ⟨f2, rfl, q⟩
          cases e with
          | normal =>
            obtain ⟨z', hz', hq3⟩ := q
            have hl3 : w3.heap[L]? = some (.loop { rec0 with state := .busy }) := hq3.get 0 rfl
            have hq4 := hq3.turnAt 0 rfl (Hp.setObj (.loop rec0) hl3)
            have hf4 : ∀ g ∈ B, _ ∧ _ := hq4.get 2 rfl
            refine ⟨.bool true, { w3 with heap := w3.heap.setIfInBounds L (.loop rec0) }, ?_, true, rfl, fun g hg => (hf4 g hg).1, z', hz', hq4.sub (.cons_cons _ (.cons_cons _ (.cons _ (List.Sublist.refl _)))), fun g hg => ⟨(hB g hg).1, (hf4 g hg).2, fun r hr hf => ?_⟩⟩
            rotate_left
            · have hnd := (hq4.perm (perm_front _ 2 (frz B w') rfl)).nd
              exact (List.pairwise_cons.1 hnd).1 r hr g hg hf
            simp [Instr.endRound, Instr.getLoop, getObj, setObj, hl3, Sem.run, rec0]
          | ret =>
            obtain ⟨c, hc, hq3⟩ := q
            have hl3 : w3.heap[L]? = some (.loop { rec0 with state := .busy }) := hq3.get 0 rfl
            have hq4 := hq3.turnAt 0 rfl (Hp.setObj (.loop { rec0 with state := .done, pending := some .ret }) hl3)
            have hf4 : ∀ g ∈ B, _ ∧ _ := hq4.get 2 rfl
            refine ⟨.bool false, { w3 with heap := w3.heap.setIfInBounds L (.loop { rec0 with state := .done, pending := some .ret }) }, ?_, false, rfl, fun g hg => (hf4 g hg).1, c, hc, hq4.sub (.cons_cons _ (.cons_cons _ (.cons _ (List.Sublist.refl _))))⟩
            simp [Instr.endRound, Instr.getLoop, getObj, setObj, hl3, Sem.run, rec0]
          | _ => exact q.elim)
  obtain ⟨fnn, hf1, hf2, hf3⟩ := hcall.isFn
  have hf2' : ¬ fnn.name = "runtime.NumGoroutine" := by simpa using hf2
  have hf3' : ¬ fnn.body = none := by intro e; rw [e] at hf3; cases hf3
  refine ⟨L, [markOf D], W2, { target := .fn (.func gf) ⟨lb⟩, args := #[yv L] }, W2, gf, ⟨yv L :: lb⟩, W2, he, ?_, fun _ _ => trivial, ?_, fun q => (by cases q), callsIn_wide.2 (hcall.calls.mono ?_)⟩
  · have hev : (frD n ds f).eval gop = .func (.func gf) #[] ⟨lb⟩ := by rw [frD_eval]; exact hg
    have hcv : (frD n ds f).eval (.const (yv L)) = yv L := rfl
    simp [resolve, rangeCall, hev, hcv, Deferred.ofValue, Sem.run]
  · simp [invoke, callFunc, program, Sem.run, hf1, hf2', hf3']
  · rintro e w' ⟨v, rfl, q⟩
    rcases q with ⟨xs, B, hxs, z, hz, hq, _⟩ | ⟨c, hc, hq⟩
    · have hl : w'.heap[L]? = some (.loop rec0) := hq.get 0 rfl
      refine ⟨none, { w' with heap := w'.heap.setIfInBounds L (.loop { rec0 with state := .exhausted }) }, ?_, ?_⟩
      · simp [Instr.endLoop, Instr.getLoop, getObj, setObj, hl, Sem.run, rec0]
      · exact ⟨markOf D :: ds, f, rfl, hdone xs z D _ hxs hz ((hq.turnAt 0 rfl (Hp.setObj (.loop { rec0 with state := .exhausted }) hl)).drop 1)⟩
    · have hl : w'.heap[L]? = some (.loop { rec0 with state := .done, pending := some .ret }) := hq.get 0 rfl
      refine ⟨some .ret, { w' with heap := w'.heap.setIfInBounds L (.loop { rec0 with state := .exhausted, pending := some .ret }) }, ?_, ?_⟩
      · simp [Instr.endLoop, Instr.getLoop, getObj, setObj, hl, Sem.run, rec0]
      · exact wpIn_ret ⟨markOf D :: ds, f, rfl, hret c D _ hc ((hq.turnAt 0 rfl (Hp.setObj (.loop { rec0 with state := .exhausted, pending := some .ret }) hl)).drop 1)⟩
theorem GV_range2C {α β γ : Type} {gop : Operand} {p p2 : Tmp} {assign body : Code} {gf : Nat} {lb : List Value} (enc enc2 : α → Value) (A : List α → Prop) (R : List α → β → List Res) (C : List α → β → Prop) (RX : γ → List Res) (CX : γ → Prop) (Rx : α → List Res) (Ho : List Res) (Own0 Own : World → Prop) (z0 : β)
    (hg : ev n f gop = .func (.func gf) #[] ⟨lb⟩) (hca : calmC assign = true) (hcb : calmC body = true) (hit : IterC P gf lb (fun x => #[enc x, enc2 x]) Rx A (feet Ho) Own0 Own) (hp : Hp w0 S w (Ho ++ R [] z0)) (h0 : C [] z0) (hown0 : ∀ w', (∀ r ∈ Ho, r.at_ w') → Own0 w') (hown : ∀ p z w', Hp w0 S w' (R p z) → C p z → Own w')
    (hround : ∀ fr q x s z w' L D r r', A (q ++ x :: s) → C q z → Hp w0 S w' (.blk L (.loop r) :: .blk D (.deferred (some [])) :: fr :: (Rx x ++ R q z)) → GW P n assign (upd (upd f p (enc x)) p2 (enc2 x)) w' fun e f1 w1 => e = .normal ∧ ∃ H1, Hp w0 S w1 (.blk L (.loop r) :: H1) ∧ ∀ w2, Hp w0 S w2 (.blk L (.loop r') :: H1) →
      GW P n body f1 w2 (rndQ (fun w3 => ∃ z', C (q ++ [x]) z' ∧ Hp w0 S w3 (.blk L (.loop r') :: .blk D (.deferred (some [])) :: fr :: R (q ++ [x]) z')) (fun w3 => ∃ c, CX c ∧ Hp w0 S w3 (.blk L (.loop r') :: .blk D (.deferred (some [])) :: fr :: RX c))))
    (hdone : ∀ xs z D w', A xs → C xs z → Hp w0 S w' (.blk D (.deferred (some [])) :: R xs z) → Q .normal (markOf D :: ds) f w')
    (hret : ∀ c D w', CX c → Hp w0 S w' (.blk D (.deferred (some [])) :: RX c) → Q .ret (markOf D :: ds) f w') : GV P n (.rangeFunc gop #[p, p2] assign body) ds f w Q :=
  GV_rangeC (fun x => #[enc x, enc2 x]) A (fun x => upd (upd f p (enc x)) p2 (enc2 x)) R C RX CX Rx Ho Own0 Own z0 hg (fun _ => rfl) (fun x => by
    have := congrArg Act.tmps (fr_put n f p (enc x))
    have h2 := congrArg Act.tmps (fr_put n (upd f p (enc x)) p2 (enc2 x))
    simp only [Act.put] at this h2
    simp [this, h2]) hca hcb hit hp h0 hown0 hown hround hdone hret
end
theorem Hp.now {w0 w : World} {S : List Nat} {H : List Res} (h : Hp w0 S w H) : Hp w [] w [] := Hp.refl w []
end Go.Mo
