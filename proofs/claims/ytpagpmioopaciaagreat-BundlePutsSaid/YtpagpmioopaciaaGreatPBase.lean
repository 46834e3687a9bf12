/- The words of the walks: a frame of temporaries as a function, judgements over it, rules for the control of a function's code and for its calls. Nothing of the program stands here. -/
import Derived.WalkKit
import Derived.OrdersHeld
import Derived.KernelRfl
import Derived.RangeFuncIn
import Derived.OrdersIn
import Derived.TacticsIn
set_option linter.unusedVariables false
set_option linter.unusedSimpArgs false
namespace Go.Mo
open Go.RowKit
theorem beq_no {t d : Nat} (h : t ≠ d) : Nat.beq t d = false := by
  cases hb : Nat.beq t d
  · rfl
  · exact absurd (Nat.eq_of_beq_eq_true hb) h
theorem blt_yes {t n : Nat} (h : t < n) : Nat.blt t n = true := Nat.ble_eq_true_of_le h
theorem blt_no {t n : Nat} (h : ¬ t < n) : Nat.blt t n = false := by
  cases hb : Nat.blt t n
  · rfl
  · exact absurd (Nat.le_of_ble_eq_true hb) h
abbrev Fm := Nat → Value
def upd (f : Fm) (d : Nat) (v : Value) : Fm := fun t => bif Nat.beq t d then v else f t
theorem upd_same (f : Fm) (d : Nat) (v : Value) : upd f d v d = v := by simp [upd]
theorem upd_other (f : Fm) (d : Nat) (v : Value) (t : Nat) (h : t ≠ d) : upd f d v t = f t := by
  simp [upd, beq_no h]
theorem upd_self (f : Fm) (d : Nat) (v : Value) (h : f d = v) : upd f d v = f := by
  funext t
  by_cases e : t = d
  · subst e; rw [upd_same, h]
  · rw [upd_other _ _ _ _ e]
theorem slots2 {F : Fm} {t0 t1 : Nat} {v0 v1 : Value} (h0 : F t0 = v0) (h1 : F t1 = v1) : F = (upd (upd F t0 v0) t1 v1) := by rw [upd_self F t0 v0 h0, upd_self F t1 v1 h1]
theorem slots3 {F : Fm} {t0 t1 t2 : Nat} {v0 v1 v2 : Value} (h0 : F t0 = v0) (h1 : F t1 = v1) (h2 : F t2 = v2) : F = (upd (upd (upd F t0 v0) t1 v1) t2 v2) := by rw [upd_self F t0 v0 h0, upd_self F t1 v1 h1, upd_self F t2 v2 h2]
theorem slots4 {F : Fm} {t0 t1 t2 t3 : Nat} {v0 v1 v2 v3 : Value} (h0 : F t0 = v0) (h1 : F t1 = v1) (h2 : F t2 = v2) (h3 : F t3 = v3) : F = (upd (upd (upd (upd F t0 v0) t1 v1) t2 v2) t3 v3) := by rw [upd_self F t0 v0 h0, upd_self F t1 v1 h1, upd_self F t2 v2 h2, upd_self F t3 v3 h3]
theorem slots5 {F : Fm} {t0 t1 t2 t3 t4 : Nat} {v0 v1 v2 v3 v4 : Value} (h0 : F t0 = v0) (h1 : F t1 = v1) (h2 : F t2 = v2) (h3 : F t3 = v3) (h4 : F t4 = v4) : F = (upd (upd (upd (upd (upd F t0 v0) t1 v1) t2 v2) t3 v3) t4 v4) := by rw [upd_self F t0 v0 h0, upd_self F t1 v1 h1, upd_self F t2 v2 h2, upd_self F t3 v3 h3, upd_self F t4 v4 h4]
theorem slots6 {F : Fm} {t0 t1 t2 t3 t4 t5 : Nat} {v0 v1 v2 v3 v4 v5 : Value} (h0 : F t0 = v0) (h1 : F t1 = v1) (h2 : F t2 = v2) (h3 : F t3 = v3) (h4 : F t4 = v4) (h5 : F t5 = v5) : F = (upd (upd (upd (upd (upd (upd F t0 v0) t1 v1) t2 v2) t3 v3) t4 v4) t5 v5) := by rw [upd_self F t0 v0 h0, upd_self F t1 v1 h1, upd_self F t2 v2 h2, upd_self F t3 v3 h3, upd_self F t4 v4 h4, upd_self F t5 v5 h5]
theorem slots13 {F : Fm} {t0 t1 t2 t3 t4 t5 t6 t7 t8 t9 t10 t11 t12 : Nat} {v0 v1 v2 v3 v4 v5 v6 v7 v8 v9 v10 v11 v12 : Value} (h0 : F t0 = v0) (h1 : F t1 = v1) (h2 : F t2 = v2) (h3 : F t3 = v3) (h4 : F t4 = v4) (h5 : F t5 = v5) (h6 : F t6 = v6) (h7 : F t7 = v7) (h8 : F t8 = v8) (h9 : F t9 = v9) (h10 : F t10 = v10) (h11 : F t11 = v11) (h12 : F t12 = v12) : F = (upd (upd (upd (upd (upd (upd (upd (upd (upd (upd (upd (upd (upd F t0 v0) t1 v1) t2 v2) t3 v3) t4 v4) t5 v5) t6 v6) t7 v7) t8 v8) t9 v9) t10 v10) t11 v11) t12 v12) := by rw [upd_self F t0 v0 h0, upd_self F t1 v1 h1, upd_self F t2 v2 h2, upd_self F t3 v3 h3, upd_self F t4 v4 h4, upd_self F t5 v5 h5, upd_self F t6 v6 h6, upd_self F t7 v7 h7, upd_self F t8 v8 h8, upd_self F t9 v9 h9, upd_self F t10 v10 h10, upd_self F t11 v11 h11, upd_self F t12 v12 h12]
/-- The frame of n temporaries that the function tells. -/
def fr (n : Nat) (f : Fm) : Act := { tmps := Array.ofFn (n := n) fun i => f i.val, defers := [] }
def ev (n : Nat) (f : Fm) : Operand → Value
  | .tmp t => bif Nat.blt t n then f t else undef
  | .const v => v
  | .global g => .pointer (some ⟨g, 0, none⟩)
  | .func k => .func (.func k) #[] #[]
theorem fr_eval (n : Nat) (f : Fm) : (fr n f).eval = ev n f := by
  funext x
  cases x with
  | tmp t =>
    by_cases h : t < n
    · simp [fr, Act.eval, ev, h, blt_yes h, Array.getD]
    · simp [fr, Act.eval, ev, blt_no h, Array.getD, h]
  | _ => rfl
theorem fr_put (n : Nat) (f : Fm) (d : Nat) (v : Value) : (fr n f).put (some d) v = fr n (upd f d v) := by
  unfold fr Act.put
  simp only
  congr 1
  apply Array.ext
  · simp
  · intro i h1 h2
    simp only [Array.size_setIfInBounds, Array.size_ofFn] at h1
    by_cases e : d = i
    · subst e
      simp [Array.getElem_setIfInBounds, upd_same]
    · rw [Array.getElem_setIfInBounds_ne (by simpa using h1) e]
      simp [upd_other _ _ _ _ (Ne.symm e)]
def putF (f : Fm) (dst : Option Nat) (v : Value) : Fm :=
  match dst with
  | some d => upd f d v
  | none => f
theorem fr_putF (n : Nat) (f : Fm) (dst : Option Nat) (v : Value) : (fr n f).put dst v = fr n (putF f dst v) := by
  cases dst with
  | none => rfl
  | some d => exact fr_put n f d v
def frame0 (args : List Value) : Fm := fun t => args.getD t undef
theorem frame0_eq (n : Nat) (args : Array Value) (h : args.size ≤ n) :
    ({ tmps := args ++ Array.replicate (n - args.size) undef, defers := [] } : Act) = fr n (frame0 args.toList) := by
  unfold fr frame0
  congr 1
  apply Array.ext
  · simp; omega
  · intro i h1 h2
    simp only [Array.size_append, Array.size_replicate] at h1
    by_cases e : i < args.size
    · simp [Array.getElem_append, e, List.getD_eq_getElem?_getD]
    · simp [Array.getElem_append, e, List.getD_eq_getElem?_getD]
/-- The frame with these deferred calls. -/
def frD (n : Nat) (ds : List Deferred) (f : Fm) : Act := { tmps := Array.ofFn (n := n) fun i => f i.val, defers := ds }
theorem frD_eval (n : Nat) (ds : List Deferred) (f : Fm) : (frD n ds f).eval = ev n f := fr_eval n f
abbrev Post := Exit → Fm → World → Prop
def lift (n : Nat) (Q : Post) : Exit → Act → World → Prop := fun e a w => ∃ f, a = fr n f ∧ Q e f w
/-- Code without a range over a function and without deferred calls: it may stand in whatever frame. -/
def calmO (o : Oper) : Bool := match o.op with
  | .defer _ => false
  | _ => true
def calmC : Code → Bool
  | .skip | .exit _ | .ret => true
  | .seq a b | .cond _ a b => calmC a && calmC b
  | .block _ a | .loop a => calmC a
  | .region _ ops _ => ops.all calmO
  | _ => false
abbrev FW (ρ : Option Nat) : Fence := { Fence.wide with round := ρ }
theorem fenced_FW (P : Program) (ρ : Option Nat) (m : Machine) : m.fenced P (FW ρ) := fenced_wide P m
theorem room_FW (ρ : Option Nat) (n : Nat) : (FW ρ).room n := room_wide n
def liftD (n : Nat) (ds : List Deferred) (Q : Post) : Exit → Act → World → Prop := fun e a w => ∃ f, a = frD n ds f ∧ Q e f w
/-- A calm code ends as told, in whatever frame. -/
def GW (P : Program) (n : Nat) (c : Code) (f : Fm) (w : World) (Q : Post) : Prop := calmC c = true → ∀ (ρ : Option Nat) (ds : List Deferred), c.wpIn (FW ρ) 0 P (liftD n ds Q) (frD n ds f) w
/-- What holds behind operations: where they end, and where they throw. -/
structure KP where
  n : Fm → World → Prop
  p : List PanicEntry → Fm → World → Prop
abbrev KQ (Q : Post) : KP := ⟨fun f' w' => Q .normal f' w', fun c f' w' => Q (.panic c) f' w'⟩
def GL (P : Program) (n : Nat) (ops : Array Oper) (l : List Oper) (f : Fm) (w : World) (K : KP) : Prop :=
  ∀ Q : Exit → Act → World → Prop, (∀ f' w', K.n f' w' → Q .normal (fr n f') w') → (∀ c f' w', K.p c f' w' → Q (.panic c) (fr n f') w') → wpList P ops Q l (fr n f) w
section control
variable {P : Program} {n : Nat} {f : Fm} {w : World} {Q : Post}
theorem GW_mono {c : Code} {Q' : Post} (h : GW P n c f w Q) (hq : ∀ e f w, Q e f w → Q' e f w) : GW P n c f w Q' :=
  fun hc ρ ds => wpIn_mono (h hc ρ ds) fun _ _ _ ⟨f', e, q⟩ => ⟨f', e, hq _ _ _ q⟩
theorem GW_skip (h : Q .normal f w) : GW P n .skip f w Q := fun _ _ _ => wpIn_skip ⟨f, rfl, h⟩
theorem GW_exit {id : Nat} (h : Q (.exit id) f w) : GW P n (.exit id) f w Q := fun _ _ _ => wpIn_exit ⟨f, rfl, h⟩
theorem GW_ret (h : Q .ret f w) : GW P n .ret f w Q := fun _ _ _ => wpIn_ret ⟨f, rfl, h⟩
def thenQ (next : Fm → World → Prop) (Q : Post) : Post
  | .normal, f, w => next f w
  | e, f, w => Q e f w
theorem GW_seq {x y : Code} (h : GW P n x f w (thenQ (fun f' w' => GW P n y f' w' Q) Q)) : GW P n (x.seq y) f w Q := by
  intro hc ρ ds
  simp only [calmC, Bool.and_eq_true] at hc
  refine wpIn_seq (wpIn_mono (h hc.1 ρ ds) ?_)
  rintro e a w' ⟨f', rfl, q⟩
  cases e <;> first | exact q hc.2 ρ ds | exact ⟨f', rfl, q⟩
/-- A sequence whose first part ends as told. -/
theorem GW_cut {x y : Code} (M : Fm → World → Prop) (h : GW P n x f w (thenQ M Q)) (h2 : ∀ f' w', M f' w' → GW P n y f' w' Q) : GW P n (x.seq y) f w Q :=
  GW_seq (GW_mono h fun e f w q => by cases e <;> first | exact q | exact h2 _ _ q)
theorem GW_true {c : Operand} {x y : Code} (hc : ev n f c = .bool true) (h : GW P n x f w Q) : GW P n (.cond c x y) f w Q := fun hp ρ ds =>
  wpIn_cond_true (by rw [frD_eval]; exact hc) (h (by simp only [calmC, Bool.and_eq_true] at hp; exact hp.1) ρ ds)
theorem GW_false {c : Operand} {x y : Code} (hc : ev n f c = .bool false) (h : GW P n y f w Q) : GW P n (.cond c x y) f w Q := fun hp ρ ds =>
  wpIn_cond_false (by rw [frD_eval]; exact hc) (h (by simp only [calmC, Bool.and_eq_true] at hp; exact hp.2) ρ ds)
theorem GW_cond {c : Operand} {x y : Code} {b : Bool} (hc : ev n f c = .bool b) (h1 : b = true → GW P n x f w Q) (h2 : b = false → GW P n y f w Q) : GW P n (.cond c x y) f w Q := by
  cases b
  · exact GW_false hc (h2 rfl)
  · exact GW_true hc (h1 rfl)
def blockQ (id : Nat) (Q : Post) : Post
  | .exit id', f, w => bif Nat.beq id' id then Q .normal f w else Q (.exit id') f w
  | e, f, w => Q e f w
theorem GW_block {id : Nat} {c : Code} (h : GW P n c f w (blockQ id Q)) : GW P n (.block id c) f w Q := by
  intro hc ρ ds
  refine wpIn_block (wpIn_mono (h hc ρ ds) ?_)
  rintro e a w' ⟨f', rfl, q⟩
  cases e with
  | exit id' =>
    by_cases hid : id' = id
    · subst hid
      simp only [blockQ, Nat.beq_refl, cond_true] at q
      simp only [Exit.inBlock, if_true]
      exact ⟨f', rfl, q⟩
    · simp only [blockQ, beq_no hid, cond_false] at q
      simp only [Exit.inBlock, hid, if_false]
      exact ⟨f', rfl, q⟩
  | _ => exact ⟨f', rfl, q⟩
/-- A loop that is about to go its next round. -/
def Lp (P : Program) (n : Nat) (c : Code) (f : Fm) (w : World) (Q : Post) : Prop :=
  calmC c = true → ∀ (ρ : Option Nat) (ds : List Deferred) (b : Frame) (k : List Item) (cs : List Frame), b.roundOf = ρ → ∃ e a' w', liftD n ds Q e a' w' ∧ ArrivesIn (Machine.fenced P (FW ρ)) P (lone (b.atR (frD n ds f) (.code c :: .inLoop c :: k)) cs w) b k cs e a' w'
theorem GW_loop {c : Code} (h : Lp P n c f w Q) : GW P n (.loop c) f w Q := fun hc ρ ds b k cs hro _ _ =>
  let ⟨e, a', w', q, r⟩ := h hc ρ ds b k cs hro
  ⟨e, a', w', q, .of_steps (.one (fenced_FW _ _ _) stepR_loop) r⟩
theorem Lp_round {c : Code} (h : GW P n c f w (thenQ (fun f' w' => Lp P n c f' w' Q) Q)) : Lp P n c f w Q := by
  intro hc ρ ds b k cs hro
  obtain ⟨e, a₁, w₁, ⟨f₁, rfl, q⟩, harr⟩ := h hc ρ ds b (.inLoop c :: k) cs hro trivial (room_FW _ _)
  cases e with
  | normal =>
    obtain ⟨e₂, a₂, w₂, hq₂, harr₂⟩ := q hc ρ ds b k cs hro
    exact ⟨e₂, a₂, w₂, hq₂, .of_steps (StepsIn.trans harr (.one (fenced_FW _ _ _) stepR_inLoop)) harr₂⟩
  | exit id => exact ⟨_, _, w₁, ⟨f₁, rfl, q⟩, .pass (x := .inLoop c) rfl (fun _ _ => .inl (by simp)) harr⟩
  | goto l => exact ⟨_, _, w₁, ⟨f₁, rfl, q⟩, .pass (x := .inLoop c) rfl (fun _ _ => .inl (by simp)) harr⟩
  | ret => exact ⟨_, _, w₁, ⟨f₁, rfl, q⟩, .pass (x := .inLoop c) rfl (fun _ _ => .inl (by simp)) harr⟩
  | panic ch => exact ⟨_, _, w₁, ⟨f₁, rfl, q⟩, .pass (x := .inLoop c) rfl (fun _ _ => .inl (by simp)) harr⟩
  | outgrown => exact ⟨_, _, w₁, ⟨f₁, rfl, q⟩, .pass (x := .inLoop c) rfl (fun _ _ => .inl (by simp)) harr⟩
def dsA (ds : List Deferred) (a : Act) : Act := { a with defers := a.defers ++ ds }
theorem dsA_fr (ds : List Deferred) (f : Fm) : dsA ds (fr n f) = frD n ds f := rfl
theorem dsA_put (ds : List Deferred) (a : Act) (d : Option Tmp) (v : Value) : dsA ds (a.put d v) = (dsA ds a).put d v := by cases d <;> rfl
theorem calls_FW {k : Nat} {args : Array Value} {R : Ending → World → Prop} (ρ : Option Nat) (h : Calls P k args w R) : CallsIn (FW ρ) 0 P k args w R := callsIn_wide.2 h
theorem rows_FW {r : String} {args : Array Value} {R : Value → World → Prop} (ρ : Option Nat) (h : Rows P r args w R) : RowsIn (FW ρ) 0 P r args w R :=
  fun c cs _ => let ⟨v, w', q, s⟩ := h c cs; ⟨v, w', q, (StepsIn.of_steps s).mono fun m _ => fenced_FW P ρ m⟩
theorem operIn_of {ρ : Option Nat} {ds : List Deferred} {o : Oper} {a : Act} {K K' : Act → World → Prop} {Q Q' : Exit → Act → World → Prop} (hd : calmO o = true) (hK : ∀ a w, K a w → K' (dsA ds a) w) (hQ : ∀ c a w, Q (.panic c) a w → Q' (.panic c) (dsA ds a) w) (hno : ∀ a w, ¬ Q .outgrown a w) (h : o.wp P a w K Q) : o.wpIn (FW ρ) 0 P (dsA ds a) w K' Q' := by
  refine ⟨fun _ _ => trivial, ?_⟩
  rw [Oper.semAt_eq _ _ _ (fun c hc => by rw [calmO, hc] at hd; cases hd), show (dsA ds a).eval = a.eval from by funext x; cases x <;> rfl]
  unfold Oper.wp at h
  generalize (execOp a.eval o).run P w = r at h ⊢
  cases r with
  | ok x w' =>
    cases x <;> simp only [Oper.upon, Oper.uponIn] at h ⊢ <;> first | (rw [← dsA_put]; exact hK _ _ h) | skip
    case defer d =>
      have e : (({ dsA ds a with defers := d :: (dsA ds a).defers } : Act).put o.dst undef) = dsA ds (({ a with defers := d :: a.defers } : Act).put o.dst undef) := by rw [dsA_put]; rfl
      rw [e]; exact hK _ _ h
    case enter k args =>
      refine ⟨fun q => (by cases q), calls_FW ρ (h.mono fun e w'' he => ?_)⟩
      cases e with
      | returned v => show K' ((dsA ds a).put o.dst v) w''; rw [← dsA_put]; exact hK _ _ he
      | panicked c => exact hQ _ _ _ he
      | outgrown => obtain ⟨a0, w0, q⟩ := he; exact absurd q (hno _ _)
    case row r args => exact ⟨fun q => (by cases q), rows_FW ρ (h.mono fun v w'' he => by rw [← dsA_put]; exact hK _ _ he)⟩
  | halt x w' => cases x <;> simp only [Oper.upon, Oper.uponIn] at h ⊢ <;> exact hQ _ _ _ h
theorem listIn_of {ρ : Option Nat} {ds : List Deferred} {ops : Array Oper} {Q Q' : Exit → Act → World → Prop} (hQ : ∀ e a w, Q e a w → Q' e (dsA ds a) w) (hno : ∀ a w, ¬ Q .outgrown a w) : ∀ (os : List Oper), os.all calmO = true → ∀ (a : Act) (w : World), wpList P ops Q os a w → wpListIn (FW ρ) 0 P ops Q' os (dsA ds a) w
  | [], _, a, w, h => hQ _ _ _ h
  | o :: os, hd, a, w, h => by
    simp only [List.all_cons, Bool.and_eq_true] at hd
    unfold wpList at h
    unfold wpListIn
    split
    · rename_i hw
      rw [if_pos (show Region.wanted o (yielded ops a.tmps) = true from hw)] at h
      rcases h with h | ⟨_, a0, w0, q⟩
      · exact operIn_of hd.1 (fun a w => listIn_of hQ hno os hd.2 a w) (fun c => hQ _) hno h
      · exact absurd q (hno _ _)
    · rename_i hw
      rw [if_neg (show ¬ Region.wanted o (yielded ops a.tmps) = true from hw)] at h
      refine ⟨fun _ _ => trivial, ?_⟩
      rw [← dsA_put]
      exact listIn_of hQ hno os hd.2 _ _ h
theorem anyIn_of {ρ : Option Nat} {ds : List Deferred} {ops : Array Oper} {Q Q' : Exit → Act → World → Prop} (hQ : ∀ e a w, Q e a w → Q' e (dsA ds a) w) (hno : ∀ a w, ¬ Q .outgrown a w) (hd : ops.all calmO = true) : ∀ (fuel : Nat) (listed : Array Bool) (a : Act) (w : World), wpAny P .any ops Q fuel listed a w → wpAnyIn (FW ρ) 0 P .any ops Q' fuel listed (dsA ds a) w
  | 0, _, _, _, h => ⟨h.1, hQ _ _ _ h.2⟩
  | fuel + 1, listed, a, w, h => by
    refine ⟨fun h0 => hQ _ _ _ (h.1 h0), fun i hi => ?_⟩
    have h1 := h.2 i hi
    unfold wpOp at h1
    unfold wpOpIn
    split
    · rename_i h0
      simp only [h0] at h1
      exact anyIn_of hQ hno hd fuel _ _ _ h1
    · rename_i o ho
      simp only [ho] at h1
      have hdo : calmO o = true := by
        rw [Array.all_eq_true] at hd
        obtain ⟨hi2, e⟩ := Array.getElem?_eq_some_iff.1 ho
        rw [← e]; exact hd i hi2
      split
      · rename_i hw
        rw [if_pos (show Region.wanted o (yielded ops a.tmps) = true from hw)] at h1
        rcases h1 with h1 | ⟨_, a0, w0, q⟩
        · exact operIn_of hdo (fun a w => anyIn_of hQ hno hd fuel _ a w) (fun c => hQ _) hno h1
        · exact absurd q (hno _ _)
      · rename_i hw
        rw [if_neg (show ¬ Region.wanted o (yielded ops a.tmps) = true from hw)] at h1
        refine ⟨fun _ _ => trivial, ?_⟩
        rw [← dsA_put]
        exact anyIn_of hQ hno hd fuel _ _ _ h1
/-- A loop by its relation and a measure. -/
theorem Lp_ind {c : Code} {α : Type} (I : α → Fm → World → Prop) (μ : α → Nat) (step : ∀ a f w, I a f w → (∀ a' f' w', μ a' < μ a → I a' f' w' → Lp P n c f' w' Q) → Lp P n c f w Q) : ∀ a f w, I a f w → Lp P n c f w Q := by
  intro a
  generalize hm : μ a = k
  induction k using Nat.strongRecOn generalizing a with
  | _ k ih =>
    intro f w h
    exact step a f w h fun a' f' w' hlt h' => ih (μ a') (by omega) a' rfl f' w' h'
/-- Regions. -/
theorem GW_region {id : Nat} {l : List Oper} (h : GL P n l.toArray l f w (KQ Q)) : GW P n (.region id l.toArray false) f w Q := by
  intro hc ρ ds
  refine wpIn_region_lit (listIn_of (Q := fun e a w => e ≠ .outgrown ∧ lift n Q e a w) (fun e a w q => ?_) (fun a w q => q.1 rfl) l ?_ _ _ (h _ (fun f' w' q => ⟨by simp, f', rfl, q⟩) (fun c f' w' q => ⟨by simp, f', rfl, q⟩)))
  · obtain ⟨_, f', rfl, q⟩ := q
    exact ⟨f', rfl, q⟩
  · simpa [calmC] using hc
theorem GL_nil {ops : Array Oper} {N : Fm → World → Prop} {X : List PanicEntry → Fm → World → Prop} (h : N f w) : GL P n ops [] f w ⟨N, X⟩ := fun Q hQ _ => wpList_nil (hQ _ _ h)
end control
def Wn (n : Nat) (ops : Array Oper) (f : Fm) (o : Oper) : Prop := Region.wanted o (yielded ops (fr n f).tmps) = true
def Nw (n : Nat) (ops : Array Oper) (f : Fm) (o : Oper) : Prop := Region.wanted o (yielded ops (fr n f).tmps) = false
theorem wn_none {n : Nat} {ops : Array Oper} {f : Fm} {o : Oper} (h : o.guard = none) : Wn n ops f o := by simp [Wn, Region.wanted, h]
def boolOf : Value → Option Bool
  | .bool b => some b
  | _ => none
theorem yielded_fr {n : Nat} {ops : Array Oper} {f : Fm} {j t : Nat} (hd : (ops[j]?).bind (·.dst) = some t) (ht : Nat.blt t n = true) :
    yielded ops (fr n f).tmps j = boolOf (f t) := by
  have h : t < n := Nat.le_of_ble_eq_true ht
  simp only [yielded, hd, Option.bind_some, fr]
  simp only [Array.getElem?_ofFn, h, dite_true]
  cases f t <;> rfl
theorem wn_on {n : Nat} {ops : Array Oper} {f : Fm} {o : Oper} {j t : Nat} {b : Bool} (hg : o.guard = some (j, b)) (hd : (ops[j]?).bind (·.dst) = some t) (ht : Nat.blt t n = true) (hv : f t = .bool b) : Wn n ops f o := by
  have h := yielded_fr (f := f) (ops := ops) (j := j) hd ht
  rw [hv] at h
  simp only [boolOf] at h
  simp [Wn, Region.wanted, hg, h]
theorem nw_off {n : Nat} {ops : Array Oper} {f : Fm} {o : Oper} {j t : Nat} {b c : Bool} (hg : o.guard = some (j, b)) (hd : (ops[j]?).bind (·.dst) = some t) (ht : Nat.blt t n = true) (hv : f t = .bool c) (hc : (c == b) = false) : Nw n ops f o := by
  have h := yielded_fr (f := f) (ops := ops) (j := j) hd ht
  rw [hv] at h
  simp only [boolOf] at h
  cases b <;> cases c <;> simp_all [Nw, Region.wanted]
theorem nw_undef {n : Nat} {ops : Array Oper} {f : Fm} {o : Oper} {j t : Nat} {b : Bool} (hg : o.guard = some (j, b)) (hd : (ops[j]?).bind (·.dst) = some t) (ht : Nat.blt t n = true) (hv : f t = undef) : Nw n ops f o := by
  have h := yielded_fr (f := f) (ops := ops) (j := j) hd ht
  rw [hv] at h
  simp only [undef, boolOf] at h
  simp [Nw, Region.wanted, hg, h]
/-- A value is found; the world stays. -/
def Rd (P : Program) (n : Nat) (f : Fm) (o : Oper) (w : World) (v : Value) : Prop := (execOp (ev n f) o).run P w = .ok (.value v) w
def IsFn (P : Program) (k : Nat) : Prop := ∃ fn, P.funcs[k]? = some fn ∧ (fn.name == "runtime.NumGoroutine") = false ∧ fn.body.isNone = false
/-- A call returns, and this holds of its value and of the world behind it. -/
structure Does (P : Program) (k : Nat) (args : Array Value) (w : World) (post : Value → World → Prop) : Prop where
  isFn : IsFn P k
  calls : Calls P k args w fun e w' => ∃ v, e = .returned v ∧ post v w'
theorem Does.mono {P : Program} {k : Nat} {args : Array Value} {w : World} {p q : Value → World → Prop} (h : Does P k args w p) (hq : ∀ v w', p v w' → q v w') : Does P k args w q :=
  ⟨h.isFn, h.calls.mono fun e w' ⟨v, he, hp⟩ => ⟨v, he, hq _ _ hp⟩⟩
section ops
variable {P : Program} {n : Nat} {ops : Array Oper} {f : Fm} {w : World} {K : KP} {o : Oper} {rest : List Oper}
theorem GL_run {v : Value} {w' : World} (hw : Wn n ops f o) (hr : (execOp (ev n f) o).run P w = .ok (.value v) w') (h : GL P n ops rest (putF f o.dst v) w' K) : GL P n ops (o :: rest) f w K := by
  intro Q hQ hP
  refine wpList_step fun K' hK => ?_
  rw [if_pos (by exact hw)]
  unfold Oper.wp
  rw [fr_eval, hr]
  simp only [Oper.upon, fr_putF]
  exact hK _ _ (h Q hQ hP)
theorem GL_rd {d : Nat} {v : Value} (hw : Wn n ops f o) (hd : o.dst = some d) (hr : Rd P n f o w v) (h : GL P n ops rest (upd f d v) w K) : GL P n ops (o :: rest) f w K :=
  GL_run hw hr (by rw [hd]; exact h)
theorem GL_new {d : Nat} {v : Value} {w' : World} (hw : Wn n ops f o) (hd : o.dst = some d) (hr : (execOp (ev n f) o).run P w = .ok (.value v) w') (h : GL P n ops rest (upd f d v) w' K) : GL P n ops (o :: rest) f w K :=
  GL_run hw hr (by rw [hd]; exact h)
theorem GL_do {w' : World} (hw : Wn n ops f o) (hd : o.dst = none) (hr : (execOp (ev n f) o).run P w = .ok .skip w') (h : GL P n ops rest f w' K) : GL P n ops (o :: rest) f w K := by
  intro Q hQ hP
  refine wpList_step fun K' hK => ?_
  rw [if_pos (by exact hw)]
  unfold Oper.wp
  rw [fr_eval, hr]
  simp only [Oper.upon, fr_putF, hd, putF]
  exact hK _ _ (h Q hQ hP)
theorem GL_pass {d : Nat} (hw : Nw n ops f o) (hd : o.dst = some d) (h : GL P n ops rest (upd f d undef) w K) : GL P n ops (o :: rest) f w K := by
  intro Q hQ hP
  refine wpList_step fun K' hK => ?_
  rw [if_neg (by simpa [Nw] using hw), hd, fr_put]
  exact hK _ _ (h Q hQ hP)
theorem GL_enter {k : Nat} {args : Array Value} {post : Value → World → Prop} (hw : Wn n ops f o) (hr : (execOp (ev n f) o).run P w = .ok (.enter k args) w)
    (hc : Does P k args w post) (h : ∀ v w', post v w' → GL P n ops rest (putF f o.dst v) w' K) : GL P n ops (o :: rest) f w K := by
  intro Q hQ hP
  refine wpList_step fun K' hK => ?_
  rw [if_pos (by exact hw)]
  unfold Oper.wp
  rw [fr_eval, hr]
  simp only [Oper.upon]
  refine hc.calls.mono ?_
  rintro e w' ⟨v, rfl, hp⟩
  simp only [fr_putF]
  exact hK _ _ (h v w' hp Q hQ hP)
theorem run_call {k : Nat} {xs : Array Operand} {ts : Array TypeId} (ho : o.op = .call { callee := .value (.func k), args := xs, argTypes := ts }) (hf : IsFn P k) :
    (execOp (ev n f) o).run P w = .ok (.enter k (xs.map (ev n f))) w := by
  obtain ⟨fn, h1, h2, h3⟩ := hf
  have h2' : ¬ fn.name = "runtime.NumGoroutine" := by simpa using h2
  have h3' : ¬ fn.body = none := by intro e; rw [e] at h3; cases h3
  simp [execOp, ho, resolve, ev, Deferred.ofValue, invoke, callFunc, program, Sem.run, h1, h2', h3']
/-- A call of a function by its name. -/
theorem GL_call {d k : Nat} {xs : Array Operand} {ts : Array TypeId} {args : Array Value} {post : Value → World → Prop} (hw : Wn n ops f o) (hd : o.dst = some d)
    (ho : o.op = .call { callee := .value (.func k), args := xs, argTypes := ts }) 
    (hc : Does P k args w post) (ha : xs.toList.map (ev n f) = args.toList) (h : ∀ v w', post v w' → GL P n ops rest (upd f d v) w' K) : GL P n ops (o :: rest) f w K :=
  GL_enter hw (by
    have ha' : xs.map (ev n f) = args := Array.toList_inj.1 (by rw [Array.toList_map]; exact ha)
    rw [run_call ho hc.isFn, ha']) hc (by rw [hd]; exact h)
theorem GL_split {t : Nat} {b : Bool} {l : List Oper} (ht : f t = .bool b) (h1 : b = true → GL P n ops l (upd f t (.bool true)) w K) (h2 : b = false → GL P n ops l (upd f t (.bool false)) w K) : GL P n ops l f w K := by
  cases b
  · have h := h2 rfl; rwa [upd_self f t _ ht] at h
  · have h := h1 rfl; rwa [upd_self f t _ ht] at h
end ops
def resultsOf (P : Program) (n : Nat) (fn : Func) (f : Fm) (w : World) (v : Value) : Prop := (results fn (fr n f).tmps).run P w = .ok v w
def FQ (P : Program) (n : Nat) (fn : Func) (post : Value → World → Prop) : Post
  | .normal, f, w | .ret, f, w => ∃ v, resultsOf P n fn f w v ∧ post v w
  | _, _, _ => False
theorem does_of {P : Program} {k : Nat} {fn : Func} {c : Code} {args : Array Value} {w : World} {post : Value → World → Prop} {n : Nat} {l : List Value}
    (hf : P.funcs[k]? = some fn) (hname : (fn.name == "runtime.NumGoroutine") = false) (hb : fn.body = some c) (hn : fn.ntmps = n) (hl : args.toList = l) (hs : Nat.ble l.length n = true) (hc : calmC c = true)
    (h : GW P n c (frame0 l) w (FQ P n fn post)) : Does P k args w post := by
  refine ⟨⟨fn, hf, hname, by rw [hb]; rfl⟩, callsIn_wide.1 (callsIn_of_wp (F := Fence.wide) (n := 0) hf hb trivial ?_)⟩
  subst hl
  rw [hn, frame0_eq n args (by simpa using Nat.le_of_ble_eq_true hs)]
  refine wpIn_mono (h hc none []) ?_
  rintro e a w' ⟨f', rfl, q⟩
  cases e <;> simp only [FQ] at q <;> first | exact q.elim | skip
  · obtain ⟨v, h1, h2⟩ := q; exact ⟨rfl, v, h1, v, rfl, h2⟩
  · obtain ⟨v, h1, h2⟩ := q; exact ⟨rfl, v, h1, v, rfl, h2⟩
section drawn
variable {P : Program} {n : Nat} {ops : Array Oper} {S : World → Prop} {m : Nat} {K : KP}
def K0 (n : Nat) (K : KP) : Exit → Act → World → Prop
  | .normal, a, w => ∃ f, a = fr n f ∧ K.n f w
  | .panic c, a, w => (∃ f, a = fr n f) ∧ ∀ f, K.p c f w
  | _, _, _ => False
theorem fr_any {a : Act} (h : a.tmps.size = n) (hd : a.defers = []) : ∃ f, a = fr n f := by
  refine ⟨fun t => a.tmps.getD t undef, ?_⟩
  cases a with
  | mk tmps defers =>
    simp only at h hd
    subst hd
    unfold fr
    congr 1
    apply Array.ext
    · simp [h]
    · intro i h1 h2
      simp [Array.getD, h1]
theorem K0_put {c : List PanicEntry} {a : Act} {d : Option Tmp} {v : Value} {w : World} (h : K0 n K (.panic c) (Act.put a d v) w) : K0 n K (.panic c) a w := by
  obtain ⟨⟨f, e⟩, hk⟩ := h
  refine ⟨fr_any ?_ ?_, hk⟩
  · have h1 : (Act.put a d v).tmps.size = n := by rw [e]; simp [fr]
    cases d <;> simpa [Act.put] using h1
  · have h1 : (Act.put a d v).defers = [] := by rw [e]; rfl
    cases d <;> simpa [Act.put] using h1
/-- Whatever order is picked; behind each operation of the head S holds. -/
def wpM (P : Program) (ops : Array Oper) (Q : Exit → Act → World → Prop) (S : World → Prop) (m : Nat) : Nat → Array Bool → Act → World → Prop
  | 0, listed, a, w => Region.ready .any ops listed = [] ∧ Q .normal a w
  | fuel + 1, listed, a, w =>
    (Region.ready .any ops listed = [] → Q .normal a w) ∧
    ∀ i ∈ Region.ready .any ops listed, wpOp P ops Q i (fun a' w' => (i < m → S w' ∨ w' = w) ∧ wpM P ops Q S m fuel (listed.setIfInBounds i true) a' w') a w
theorem wpAny_of_wpM {Q : Exit → Act → World → Prop} : ∀ (fuel : Nat) (listed : Array Bool) (a : Act) (w : World), wpM P ops Q S m fuel listed a w → wpAny P .any ops Q fuel listed a w
  | 0, _, _, _, h => h
  | fuel + 1, _, _, _, h => ⟨h.1, fun i hi => wpOp_mono (fun a' w' h' => wpAny_of_wpM fuel _ a' w' h'.2) (h.2 i hi)⟩
/-- One that looks at no memory. -/
def stillB (o : Oper) : Bool := match o.op with
  | .move _ | .assign _ | .nilCheck _ | .fieldAddr .. | .indexAddr .. | .pick .. | .extract .. => true
  | _ => false
/-- Each operation of the tail waits for all of the head that look at memory. -/
def tailB (ops : Array Oper) (m : Nat) : Bool :=
  (List.range ops.size).all fun t => Nat.blt t m || match ops[t]? with
    | some o => (List.range m).all fun j => (match ops[j]? with | some oj => stillB oj | none => false) || o.after.any fun e => Region.binds .any e && e.on == j
    | none => true
theorem tail_ready {listed : Array Bool} {i t : Nat} {oi : Oper} (hoi : ops[i]? = some oi) (hst : stillB oi = false) (hB : tailB ops m = true) (hi : i < m) (hun : listed.getD i true = false) (ht : t ∈ Region.ready .any ops listed) : t < m := by
  obtain ⟨_, o, ho, hall⟩ := mem_ready.1 ht
  have htlt : t < ops.size := (Array.getElem?_eq_some_iff.1 ho).1
  have h := List.all_eq_true.1 hB t (List.mem_range.2 htlt)
  simp only [ho, Bool.or_eq_true] at h
  rcases h with h | h
  · exact Nat.le_of_ble_eq_true h
  · have h1 := List.all_eq_true.1 h i (List.mem_range.2 hi)
    simp only [hoi, hst, Bool.false_or] at h1
    obtain ⟨e, he, hb⟩ := Array.any_eq_true'.1 h1
    simp only [Bool.and_eq_true, beq_iff_eq] at hb
    have h2 := hall e he hb.1
    rw [hb.2] at h2
    rcases Nat.lt_or_ge i listed.size with h' | h'
    · simp [h'] at h2 hun; rw [h2] at hun; cases hun
    · simp [Array.getElem?_eq_none h'] at h2
theorem wpM_first {Q : Exit → Act → World → Prop} {i : Nat} {oi : Oper} {v : Value} (hi : ops[i]? = some oi) (hst : stillB oi = false) (him : i < m) (hB : tailB ops m = true) (hsel : Region.noSelect ops = true)
    (hQ : ∀ c a d v w, Q (.panic c) (Act.put a d v) w → Q (.panic c) a w) :
    ∀ (fuel : Nat) (listed : Array Bool) (a : Act) (w : World),
      (∀ j oj, ops[j]? = some oj → j ≠ i → listed.getD j true = false → (∀ e ∈ oj.after, Region.binds .any e = true → e.on ≠ i) → oi.apart ops oj = true) →
      i ∈ Region.ready .any ops listed → YieldsIf P ops S oi v a → S w →
      wpM P ops Q S m fuel (listed.setIfInBounds i true) (a.put oi.dst v) w → wpM P ops Q S m (fuel + 1) listed a w := by
  intro fuel
  induction fuel with
  | zero =>
    intro listed a w _ hr hy hS H
    refine ⟨fun h => (by rw [h] at hr; cases hr), fun j hj => ?_⟩
    by_cases hji : j = i
    · subst hji; exact hy.wpOp hi hS ⟨fun _ => .inr rfl, H⟩
    · have h1 := ready_mono hj hji
      rw [H.1] at h1
      cases h1
  | succ fuel ih =>
    intro listed a w hfree hr hy hS H
    refine ⟨fun h => (by rw [h] at hr; cases hr), fun j hj => ?_⟩
    by_cases hji : j = i
    · subst hji; exact hy.wpOp hi hS ⟨fun _ => .inr rfl, H⟩
    · have hun : listed.getD i true = false := (mem_ready.1 hr).1
      have hjm : j < m := tail_ready hi hst hB him hun hj
      have h1 := H.2 j (ready_mono hj hji)
      obtain ⟨hjun, oj, hoj, hall⟩ := mem_ready.1 hj
      have hnot : ∀ e ∈ oj.after, Region.binds .any e = true → e.on ≠ i := fun e he hb heq => by
        have h2 := hall e he hb
        rw [heq] at h2
        rcases Nat.lt_or_ge i listed.size with h' | h'
        · simp [h'] at h2 hun; rw [h2] at hun; cases hun
        · simp [Array.getElem?_eq_none h'] at h2
      have h2 := wpOp_putIf hoj (hfree j oj hoj hji hjun hnot) (fun cs b => Region.noSelect_spec hsel i oi cs b hi) (fun cs b => Region.noSelect_spec hsel j oj cs b hoj) (fun c a w h => hQ c a _ _ w h) hy h1
      have hfree' : ∀ k ok, ops[k]? = some ok → k ≠ i → (listed.setIfInBounds j true).getD k true = false →
          (∀ e ∈ ok.after, Region.binds .any e = true → e.on ≠ i) → oi.apart ops ok = true := fun k ok hk hki hun' hno => by
        refine hfree k ok hk hki ?_ hno
        by_cases hjk : j = k
        · subst hjk; exact hjun
        · rw [getD_set_ne true hjk] at hun'; exact hun'
      refine wpOp_mono (fun a' w' h3 => ⟨h3.2.1, ih (listed.setIfInBounds j true) a' w' hfree' (ready_mono hr (Ne.symm hji)) h3.1 ((h3.2.1 hjm).elim id fun e => e ▸ hS) ?_⟩) h2
      rw [Array.setIfInBounds_comm _ _ hji]
      exact h3.2.2
theorem wpM_firstT {Q : Exit → Act → World → Prop} {i : Nat} {oi : Oper} {v : Value} (hi : ops[i]? = some oi) (hsel : Region.noSelect ops = true)
    (hQ : ∀ c a d v w, Q (.panic c) (Act.put a d v) w → Q (.panic c) a w) :
    ∀ (fuel : Nat) (listed : Array Bool) (a : Act) (w : World),
      (∀ j oj, ops[j]? = some oj → j ≠ i → listed.getD j true = false → (∀ e ∈ oj.after, Region.binds .any e = true → e.on ≠ i) → oi.apart ops oj = true) →
      i ∈ Region.ready .any ops listed → YieldsIf P ops (fun _ => True) oi v a →
      wpM P ops Q S m fuel (listed.setIfInBounds i true) (a.put oi.dst v) w → wpM P ops Q S m (fuel + 1) listed a w := by
  intro fuel
  induction fuel with
  | zero =>
    intro listed a w _ hr hy H
    refine ⟨fun h => (by rw [h] at hr; cases hr), fun j hj => ?_⟩
    by_cases hji : j = i
    · subst hji; exact hy.wpOp hi trivial ⟨fun _ => .inr rfl, H⟩
    · have h1 := ready_mono hj hji
      rw [H.1] at h1
      cases h1
  | succ fuel ih =>
    intro listed a w hfree hr hy H
    refine ⟨fun h => (by rw [h] at hr; cases hr), fun j hj => ?_⟩
    by_cases hji : j = i
    · subst hji; exact hy.wpOp hi trivial ⟨fun _ => .inr rfl, H⟩
    · have hun : listed.getD i true = false := (mem_ready.1 hr).1
      have h1 := H.2 j (ready_mono hj hji)
      obtain ⟨hjun, oj, hoj, hall⟩ := mem_ready.1 hj
      have hnot : ∀ e ∈ oj.after, Region.binds .any e = true → e.on ≠ i := fun e he hb heq => by
        have h2 := hall e he hb
        rw [heq] at h2
        rcases Nat.lt_or_ge i listed.size with h' | h'
        · simp [h'] at h2 hun; rw [h2] at hun; cases hun
        · simp [Array.getElem?_eq_none h'] at h2
      have h2 := wpOp_putIf hoj (hfree j oj hoj hji hjun hnot) (fun cs b => Region.noSelect_spec hsel i oi cs b hi) (fun cs b => Region.noSelect_spec hsel j oj cs b hoj) (fun c a w h => hQ c a _ _ w h) hy h1
      have hfree' : ∀ k ok, ops[k]? = some ok → k ≠ i → (listed.setIfInBounds j true).getD k true = false →
          (∀ e ∈ ok.after, Region.binds .any e = true → e.on ≠ i) → oi.apart ops ok = true := fun k ok hk hki hun' hno => by
        refine hfree k ok hk hki ?_ hno
        by_cases hjk : j = k
        · subst hjk; exact hjun
        · rw [getD_set_ne true hjk] at hun'; exact hun'
      refine wpOp_mono (fun a' w' h3 => ⟨h3.2.1, ih (listed.setIfInBounds j true) a' w' hfree' (ready_mono hr (Ne.symm hji)) h3.1 ?_⟩) h2
      rw [Array.setIfInBounds_comm _ _ hji]
      exact h3.2.2
/-- An order of the walk's own: the quiet ones (true) may be taken first, any other one comes up alone, or two of them at once. -/
inductive OT where
  | nil
  | one (i : Nat) (q : Bool) (r : OT)
  | two (i j : Nat) (a b : OT)
  | alt (i : Nat) (r x : OT)
def OT.length : OT → Nat
  | .nil => 0
  | .one _ _ r => r.length + 1
  | .two _ _ a _ => a.length + 1
  | .alt _ r _ => r.length + 1
/-- The ones that come up at once. -/
def OT.alts : OT → List Nat
  | .alt i _ x => i :: x.alts
  | .one i _ _ => [i]
  | _ => []
def okO (ops : Array Oper) (m : Nat) : OT → Bool → Array Bool → Bool
  | .nil, _, listed => (Region.ready .any ops listed).isEmpty
  | .one i q r, top, listed => (bif top then (bif q then Nat.blt i m && (Region.ready .any ops listed).contains i && Region.free .any ops listed i else Region.ready .any ops listed == [i]) else true) && okO ops m r true (listed.setIfInBounds i true)
  | .two i j a b, top, listed => (bif top then Region.ready .any ops listed == [i, j] else false) && (a.length == b.length) && okO ops m a true (listed.setIfInBounds i true) && okO ops m b true (listed.setIfInBounds j true)
  | .alt i r x, top, listed => (bif top then Region.ready .any ops listed == i :: x.alts else true) && (x.length == r.length + 1) && okO ops m r true (listed.setIfInBounds i true) && okO ops m x false listed
def okOrd (ops : Array Oper) (m : Nat) (o : OT) (listed : Array Bool) : Bool := okO ops m o true listed
def okAll (ops : Array Oper) (m : Nat) (order : OT) : Bool := tailB ops m && Region.noSelect ops && okOrd ops m order (Array.replicate ops.size false) && order.length == ops.size
def GO (P : Program) (n : Nat) (ops : Array Oper) (S : World → Prop) (m : Nat) (K : KP) (order : OT) (f : Fm) (w : World) : Prop :=
  ∀ listed, tailB ops m = true → Region.noSelect ops = true → okOrd ops m order listed = true → wpM P ops (K0 n K) S m order.length listed (fr n f) w
variable {f : Fm} {w : World} {o : Oper} {r : OT} {i : Nat}
theorem wpM_more {S' : World → Prop} {Q : Exit → Act → World → Prop} (hs : ∀ w, S' w → S w) : ∀ (fuel : Nat) (listed : Array Bool) (a : Act) (w : World), wpM P ops Q S' m fuel listed a w → wpM P ops Q S m fuel listed a w
  | 0, _, _, _, h => h
  | fuel + 1, _, _, _, h => ⟨h.1, fun i hi => wpOp_mono (fun a' w' h' => ⟨fun q => (h'.1 q).imp (hs _) id, wpM_more hs fuel _ _ _ h'.2⟩) (h.2 i hi)⟩
/-- What is asked to stay may grow on the way. -/
theorem GO_strong {S' : World → Prop} {order : OT} (hs : ∀ w, S' w → S w) (h : GO P n ops S' m K order f w) : GO P n ops S m K order f w := fun listed a b c => wpM_more hs _ _ _ _ (h listed a b c)
theorem GO_nil {N : Fm → World → Prop} {X : List PanicEntry → Fm → World → Prop} (h : N f w) : GO P n ops S m ⟨N, X⟩ .nil f w := by
  intro listed _ _ hok
  simp only [okOrd, okO, List.isEmpty_iff] at hok
  exact ⟨hok, f, rfl, h⟩
theorem GO_q {v : Value} (ho : ops[i]? = some o) (hst : stillB o = false) (hS : S w) (hy : YieldsIf P ops S o v (fr n f)) (h : GO P n ops S m K r (putF f o.dst v) w) : GO P n ops S m K (.one i true r) f w := by
  intro listed hB hsel hok
  simp only [okOrd, okO, cond_true, Bool.and_eq_true] at hok
  obtain ⟨⟨⟨h1, h2⟩, h3⟩, h4⟩ := hok
  have hr : i ∈ Region.ready .any ops listed := by simpa using h2
  refine wpM_first ho hst (Nat.le_of_ble_eq_true h1) hB hsel (fun c a d v w h => K0_put h) r.length listed (fr n f) w (Region.free_spec ho h3) hr hy hS ?_
  rw [fr_putF]
  exact h _ hB hsel h4
theorem GO_qT {v : Value} (ho : ops[i]? = some o) (hy : YieldsIf P ops (fun _ => True) o v (fr n f)) (h : GO P n ops S m K r (putF f o.dst v) w) : GO P n ops S m K (.one i true r) f w := by
  intro listed hB hsel hok
  simp only [okOrd, okO, cond_true, Bool.and_eq_true] at hok
  obtain ⟨⟨⟨h1, h2⟩, h3⟩, h4⟩ := hok
  have hr : i ∈ Region.ready .any ops listed := by simpa using h2
  refine wpM_firstT ho hsel (fun c a d v w h => K0_put h) r.length listed (fr n f) w (Region.free_spec ho h3) hr hy ?_
  rw [fr_putF]
  exact h _ hB hsel h4
/-- A quiet one: a value in every world that meets S. -/
theorem GO_rd {d : Nat} {v : Value} (ho : ops[i]? = some o) (hst : stillB o = false) (hw : Wn n ops f o) (hd : o.dst = some d) (hS : S w) (hr : ∀ w', S w' → Rd P n f o w' v) (h : GO P n ops S m K r (upd f d v) w) : GO P n ops S m K (.one i true r) f w :=
  GO_q ho hst hS (.inl ⟨hw, fun w' h' => by rw [fr_eval]; exact hr w' h'⟩) (by rw [hd]; exact h)
/-- One that looks at no memory: a value in every world. -/
theorem GO_rdT {d : Nat} {v : Value} (ho : ops[i]? = some o) (hw : Wn n ops f o) (hd : o.dst = some d) (hr : ∀ w', Rd P n f o w' v) (h : GO P n ops S m K r (upd f d v) w) : GO P n ops S m K (.one i true r) f w :=
  GO_qT ho (.inl ⟨hw, fun w' _ => by rw [fr_eval]; exact hr w'⟩) (by rw [hd]; exact h)
/-- One that is run now, and the order behind it. -/
def GC (P : Program) (n : Nat) (ops : Array Oper) (S : World → Prop) (m : Nat) (K : KP) (i : Nat) (o : Oper) (r : OT) (f : Fm) (w : World) : Prop :=
  ∀ K' : Act → World → Prop, (∀ f' w', (i < m → S w') → GO P n ops S m K r f' w' → K' (fr n f') w') → ∀ Q : Exit → Act → World → Prop, (∀ c f' w', (∀ f, K.p c f w') → Q (.panic c) (fr n f') w') → (if Region.wanted o (yielded ops (fr n f).tmps) then o.wp P (fr n f) w K' Q else K' ((fr n f).put o.dst undef) w)
theorem GC_run {listed : Array Bool} (ho : ops[i]? = some o) (h : GC P n ops S m K i o r f w) (hB : tailB ops m = true) (hsel : Region.noSelect ops = true) (h2 : okOrd ops m r (listed.setIfInBounds i true) = true) :
    wpOp P ops (K0 n K) i (fun a' w' => (i < m → S w' ∨ w' = w) ∧ wpM P ops (K0 n K) S m r.length (listed.setIfInBounds i true) a' w') (fr n f) w := by
  have hh := h (fun a' w' => (i < m → S w' ∨ w' = w) ∧ wpM P ops (K0 n K) S m r.length (listed.setIfInBounds i true) a' w') (fun f' w' hs g => ⟨fun q => .inl (hs q), g _ hB hsel h2⟩) (K0 n K) (fun c f' w' k => ⟨⟨f', rfl⟩, k⟩)
  unfold wpOp
  simp only [ho]
  split
  · rename_i hw; rw [if_pos hw] at hh; exact .inl hh
  · rename_i hw; rw [if_neg hw] at hh; exact ⟨fun _ => .inr trivial, hh.2⟩
theorem GO_c (ho : ops[i]? = some o) (h : GC P n ops S m K i o r f w) : GO P n ops S m K (.one i false r) f w := by
  intro listed hB hsel hok
  simp only [okOrd, okO, cond_true, cond_false, Bool.and_eq_true, beq_iff_eq] at hok
  obtain ⟨h1, h2⟩ := hok
  refine ⟨fun h0 => (by rw [h0] at h1; cases h1), fun j hj => ?_⟩
  rw [h1] at hj
  simp only [List.mem_singleton] at hj
  subst hj
  exact GC_run ho h hB hsel h2
theorem GC_of_GL (hg : GL P n ops [o] f w ⟨fun f' w' => (i < m → S w') ∧ GO P n ops S m K r f' w', fun c _ w' => ∀ f, K.p c f w'⟩) : GC P n ops S m K i o r f w := by
  intro K' hK Q hP
  have h := hg (fun e a w => match e with | .normal => K' a w | .panic c => Q (.panic c) a w | _ => False) (fun f' w' hm => hK f' w' hm.1 hm.2) (fun c f' w' k => hP c f' w' k)
  unfold wpList at h
  split
  · rename_i hw
    rw [if_pos hw] at h
    rcases h with h | ⟨_, a0, w0, hq⟩
    · unfold Oper.wp at h ⊢
      generalize (execOp (fr n f).eval o).run P w = x at h ⊢
      cases x with
      | ok x w' =>
        cases x <;> simp only [Oper.upon, wpList] at h ⊢ <;> first | exact h | skip
        case enter k args =>
          refine h.mono fun e w'' he => ?_
          cases e with
          | returned v => exact he
          | panicked c => exact he
          | outgrown => obtain ⟨_, _, hq⟩ := he; exact hq.elim
      | halt x w' => cases x <;> simp only [Oper.upon] at h ⊢ <;> exact h
    · exact hq.elim
  · rename_i hw
    rw [if_neg hw] at h
    exact h
/-- One that comes up alone: the same laws as in a list. -/
theorem GO_of_GL (ho : ops[i]? = some o) (hg : GL P n ops [o] f w ⟨fun f' w' => (i < m → S w') ∧ GO P n ops S m K r f' w', fun c _ w' => ∀ f, K.p c f w'⟩) : GO P n ops S m K (.one i false r) f w :=
  GO_c ho (GC_of_GL hg)
/-- Two come up at once: each may be the first. -/
theorem GO_two {j : Nat} {o' : Oper} {r' : OT} (ho : ops[i]? = some o) (ho' : ops[j]? = some o') (h : GC P n ops S m K i o r f w) (h' : GC P n ops S m K j o' r' f w) : GO P n ops S m K (.two i j r r') f w := by
  intro listed hB hsel hok
  simp only [okOrd, okO, cond_true, Bool.and_eq_true, beq_iff_eq] at hok
  obtain ⟨⟨⟨h1, h2⟩, h3⟩, h4⟩ := hok
  refine ⟨fun h0 => (by rw [h0] at h1; cases h1), fun k hk => ?_⟩
  rw [h1] at hk
  simp only [List.mem_cons, List.not_mem_nil, or_false] at hk
  rcases hk with rfl | rfl
  · exact GC_run ho h hB hsel h3
  · have := GC_run ho' h' hB hsel h4
    rwa [← h2] at this
/-- Several come up at once: each of them may be the first. -/
def GX (P : Program) (n : Nat) (ops : Array Oper) (S : World → Prop) (m : Nat) (K : KP) (f : Fm) (w : World) : OT → Prop
  | .alt i r x => (∃ o, ops[i]? = some o ∧ GC P n ops S m K i o r f w) ∧ GX P n ops S m K f w x
  | .one i _ r => ∃ o, ops[i]? = some o ∧ GC P n ops S m K i o r f w
  | _ => False
theorem GX_alt {x : OT} (ho : ops[i]? = some o) (h : GC P n ops S m K i o r f w) (hx : GX P n ops S m K f w x) : GX P n ops S m K f w (.alt i r x) := ⟨⟨o, ho, h⟩, hx⟩
theorem GX_one {q : Bool} (ho : ops[i]? = some o) (h : GC P n ops S m K i o r f w) : GX P n ops S m K f w (.one i q r) := ⟨o, ho, h⟩
theorem GX_run (hB : tailB ops m = true) (hsel : Region.noSelect ops = true) {listed : Array Bool} : ∀ (x : OT), GX P n ops S m K f w x → okO ops m x false listed = true → ∀ k ∈ x.alts,
    wpOp P ops (K0 n K) k (fun a' w' => (k < m → S w' ∨ w' = w) ∧ wpM P ops (K0 n K) S m (x.length - 1) (listed.setIfInBounds k true) a' w') (fr n f) w
  | .nil, h, _, _, _ => h.elim
  | .two _ _ _ _, h, _, _, _ => h.elim
  | .one i q r, h, hok, k, hk => by
    obtain ⟨o, ho, h⟩ := h
    simp only [okO, cond_false, Bool.true_and] at hok
    simp only [OT.alts, List.mem_singleton] at hk
    subst hk
    exact GC_run ho h hB hsel hok
  | .alt i r x, h, hok, k, hk => by
    obtain ⟨⟨o, ho, h⟩, hx⟩ := h
    simp only [okO, cond_false, Bool.true_and, Bool.and_eq_true, beq_iff_eq] at hok
    obtain ⟨⟨h1, h2⟩, h3⟩ := hok
    simp only [OT.alts, List.mem_cons] at hk
    rcases hk with rfl | hk
    · exact GC_run ho h hB hsel h2
    · have := GX_run hB hsel x hx h3 k hk
      rw [h1] at this
      exact this
theorem GO_alt {x : OT} (ho : ops[i]? = some o) (h : GC P n ops S m K i o r f w) (hx : GX P n ops S m K f w x) : GO P n ops S m K (.alt i r x) f w := by
  intro listed hB hsel hok
  simp only [okOrd, okO, cond_true, Bool.and_eq_true, beq_iff_eq] at hok
  obtain ⟨⟨⟨h1, h2⟩, h3⟩, h4⟩ := hok
  refine ⟨fun h0 => (by rw [h0] at h1; cases h1), fun k hk => ?_⟩
  rw [h1] at hk
  rcases List.mem_cons.1 hk with rfl | hk
  · exact GC_run ho h hB hsel h3
  · have := GX_run hB hsel x hx h4 k hk
    rw [h2] at this
    exact this
theorem GW_drawn {id : Nat} {l : List Oper} {Q : Post} (m : Nat) (order : OT) (S : World → Prop) (hm : P.follows .mixedOrders = true) (hok : okAll l.toArray m order = true)
    (h : ∀ w1, w1 = w.drew → GO P n l.toArray S m (KQ Q) order f w1) : GW P n (.region id l.toArray true) f w Q := by
  simp only [okAll, Bool.and_eq_true, beq_iff_eq] at hok
  obtain ⟨⟨⟨h1, h2⟩, h3⟩, h4⟩ := hok
  have key : wpAny P .any l.toArray (K0 n (KQ Q)) l.toArray.size (Array.replicate l.toArray.size false) (fr n f) w.drew := by
    refine wpAny_of_wpM (S := S) (m := m) _ _ _ _ ?_
    rw [← h4]
    exact h _ rfl _ h1 h2 (by rw [h4]; exact h3)
  intro hc ρ ds
  refine wpIn_region_any hm (anyIn_of (fun e a w q => ?_) (fun a w q => q.elim) (by simpa [calmC] using hc) _ _ _ _ key)
  cases e <;> simp only [K0] at q
  · obtain ⟨f', rfl, q⟩ := q
    exact ⟨f', rfl, q⟩
  · obtain ⟨⟨f', rfl⟩, q⟩ := q
    exact ⟨f', rfl, q f'⟩
end drawn
attribute [irreducible] GL GW GO GC Lp
end Go.Mo
