/- Calls that return or throw; a function that catches. -/
import Derived.Test.YtpagpmioopaciaaGreatPCloS
import Derived.Test.YtpagpmioopaciaaGreatPTypes
import Derived.Test.YtpagpmioopaciaaGreatPPack
import Derived.DefersIn
import Derived.RecoverIn
set_option linter.unusedVariables false
set_option linter.unusedSimpArgs false
namespace Go.Mo
open Go.RowKit
/-- A call returns, or throws; what holds then. -/
structure Thr (P : Program) (k : Nat) (args : Array Value) (w : World) (post : Value → World → Prop) (bad : List PanicEntry → World → Prop) : Prop where
  isFn : IsFn P k
  calls : Calls P k args w fun e w' => (∃ v, e = .returned v ∧ post v w') ∨ ∃ c, e = .panicked c ∧ bad c w'
theorem Thr.mono {P : Program} {k : Nat} {args : Array Value} {w : World} {p q : Value → World → Prop} {b c : List PanicEntry → World → Prop} (h : Thr P k args w p b) (hq : ∀ v w', p v w' → q v w') (hc : ∀ v w', b v w' → c v w') : Thr P k args w q c :=
  ⟨h.isFn, h.calls.mono fun e w' h => h.imp (fun ⟨v, he, hp⟩ => ⟨v, he, hq _ _ hp⟩) (fun ⟨v, he, hp⟩ => ⟨v, he, hc _ _ hp⟩)⟩
def FX (P : Program) (n : Nat) (fn : Func) (post : Value → World → Prop) (bad : List PanicEntry → World → Prop) : Post
  | .normal, f, w | .ret, f, w => ∃ v, resultsOf P n fn f w v ∧ post v w
  | .panic c, _, w => bad c w
  | _, _, _ => False
theorem thr_of {P : Program} {k : Nat} {fn : Func} {c : Code} {args : Array Value} {w : World} {post : Value → World → Prop} {bad : List PanicEntry → World → Prop} {n : Nat} {l : List Value}
    (hf : P.funcs[k]? = some fn) (hname : (fn.name == "runtime.NumGoroutine") = false) (hb : fn.body = some c) (hn : fn.ntmps = n) (hl : args.toList = l) (hs : Nat.ble l.length n = true) (hc : calmC c = true)
    (h : GW P n c (frame0 l) w (FX P n fn post bad)) : Thr P k args w post bad := by
  refine ⟨⟨fn, hf, hname, by rw [hb]; rfl⟩, callsIn_wide.1 (callsIn_of_wp (F := Fence.wide) (n := 0) hf hb trivial ?_)⟩
  subst hl
  rw [hn, frame0_eq n args (by simpa using Nat.le_of_ble_eq_true hs)]
  refine wpIn_mono (gw_at h hc none []) ?_
  rintro e a w' ⟨f', rfl, q⟩
  cases e <;> simp only [FX] at q <;> first | exact q.elim | skip
  · obtain ⟨v, h1, h2⟩ := q; exact ⟨rfl, v, h1, .inl ⟨v, rfl, h2⟩⟩
  · obtain ⟨v, h1, h2⟩ := q; exact ⟨rfl, v, h1, .inl ⟨v, rfl, h2⟩⟩
  · exact ⟨rfl, .inr ⟨_, rfl, q⟩⟩
section ops
variable {P : Program} {n : Nat} {ops : Array Oper} {f : Fm} {w : World} {K : KP} {o : Oper} {rest : List Oper} {d : Nat} {x y z : Operand}
theorem GL_enterX {k : Nat} {args : Array Value} {post : Value → World → Prop} {bad : List PanicEntry → World → Prop} (hw : Wn n ops f o) (hr : (execOp (ev n f) o).run P w = .ok (.enter k args) w)
    (hc : Thr P k args w post bad) (hb : ∀ c w', bad c w' → K.p c f w') (h : ∀ v w', post v w' → GL P n ops rest (putF f o.dst v) w' K) : GL P n ops (o :: rest) f w K := by
  unfold GL
  intro Q hQ hP
  refine wpList_step fun K' hK => ?_
  rw [if_pos (by exact hw)]
  unfold Oper.wp
  rw [fr_eval, hr]
  simp only [Oper.upon]
  refine hc.calls.mono ?_
  rintro e w' (⟨v, rfl, hp⟩ | ⟨c, rfl, hp⟩)
  · simp only [fr_putF]
    have h2 := h v w' hp
    unfold GL at h2
    exact hK _ _ (h2 Q hQ hP)
  · exact hP _ _ _ (hb _ _ hp)
theorem GL_callX {k : Nat} {xs : Array Operand} {ts : Array TypeId} {args : Array Value} {post : Value → World → Prop} {bad : List PanicEntry → World → Prop} (hw : Wn n ops f o) (hd : o.dst = some d)
    (ho : o.op = .call { callee := .value (.func k), args := xs, argTypes := ts })
    (hc : Thr P k args w post bad) (ha : xs.toList.map (ev n f) = args.toList) (hb : ∀ c w', bad c w' → K.p c f w') (h : ∀ v w', post v w' → GL P n ops rest (upd f d v) w' K) : GL P n ops (o :: rest) f w K :=
  GL_enterX hw (by
    have ha' : xs.map (ev n f) = args := Array.toList_inj.1 (by rw [Array.toList_map]; exact ha)
    rw [run_call ho hc.isFn, ha']) hc hb (by rw [hd]; exact h)
theorem GL_callVX {k : Nat} {caps : Array Value} {xs : Array Operand} {ts : Array TypeId} {args : Array Value} {post : Value → World → Prop} {bad : List PanicEntry → World → Prop} (hw : Wn n ops f o) (hd : o.dst = some d)
    (ho : o.op = .call { callee := .value x, args := xs, argTypes := ts }) (hx : ev n f x = .func (.func k) #[] caps)
    (hc : Thr P k args w post bad) (ha : xs.toList.map (ev n f) ++ caps.toList = args.toList) (hb : ∀ c w', bad c w' → K.p c f w') (h : ∀ v w', post v w' → GL P n ops rest (upd f d v) w' K) : GL P n ops (o :: rest) f w K :=
  GL_enterX hw (by
    have ha' : xs.map (ev n f) ++ caps = args := Array.toList_inj.1 (by rw [Array.toList_append, Array.toList_map]; exact ha)
    rw [run_callV ho hx hc.isFn, ha']) hc hb (by rw [hd]; exact h)
/-- A panic. -/
theorem GL_panic {v : Value} {T : TypeId} (hw : Wn n ops f o) (ho : o.op = .panic x) (hx : ev n f x = .iface T v) (h : K.p [{ v := .iface T v, recovered := false }] f w) : GL P n ops (o :: rest) f w K := by
  unfold GL
  intro Q hQ hP
  refine wpList_step fun K' hK => ?_
  rw [if_pos (by exact hw)]
  unfold Oper.wp
  have e : (execOp (ev n f) o).run P w = .halt (.panic (.iface T v)) w := by
    simp only [execOp, ho, hx]
    rfl
  rw [fr_eval, e]
  exact hP _ _ _ h
end ops
end Go.Mo
namespace Go.Mo
/-- What trap.Throw throws. -/
def faultE (T : TypeId) (c : Int) : List PanicEntry := [{ v := .iface T (.agg ⟨[.int .i64 c]⟩), recovered := false }]
end Go.Mo
namespace Go.Mo
section ifaces0
theorem run_equalIn_fnilT {P : Program} (d : Nat) {w : World} {T : TypeId} {a : Fn} {b c : Array Value} {p q : Array TypeId} {r : Bool} (hT : P.underlying T = some (.func p q r)) : (Op.equalIn (d + 1) T (.func a b c) .nilFunc).run P w = .ok false w := by
  simp [Op.equalIn, run_underlying hT]
theorem bo_fnilT {P : Program} {x y : Operand} {w : World} {T : TypeId} {a : Fn} {b c : Array Value} {p q : Array TypeId} {r : Bool} (hT : P.underlying T = some (.func p q r)) : Bo P .eql T x y (.func a b c) .nilFunc w (.bool false) :=
  bo_of (by simp [eqGuard, Sem.run]) (by simp only [binOp]; simp [show (Op.equal T (.func a b c) .nilFunc).run P w = .ok false w from run_equalIn_fnilT 9999 hT])
end ifaces0
section ifaces
variable {P : Program} {n : Nat} {f : Fm} {w : World} {o : Oper} {x y : Operand}
theorem bo_inilE {T m : TypeId} {ms : TypeDesc} {v : Value} (hT : P.underlying T = some ms) (hd : (match ms with | .interface _ => true | _ => false) = true) : Bo P .eql T x y (.iface m v) .nilIface w (.bool false) :=
  bo_of (by simp [eqGuard, Sem.run]) (by simp only [binOp]; simp [run_equal_inil hT hd])
theorem bo_nilnilE {T : TypeId} {ms : TypeDesc} {c : Value} (hT : P.underlying T = some ms) (hd : (match ms with | .interface _ => true | _ => false) = true) (hy : y = .const c) : Bo P .eql T x y .nilIface .nilIface w (.bool true) := by
  subst hy
  exact bo_of (by rw [eqGuard_nil_constR]; rfl) (by simp only [binOp]; simp [run_equal_nilnil hT hd])
/-- A type assertion that holds, told as a pair. -/
theorem rd_assertC {xT T : TypeId} {u : TypeDesc} {v : Value} (ho : o.op = .typeAssert x xT T true) (hx : ev n f x = .iface T v) (hT : P.underlying T = some u) (hd : (match u with | .interface _ => true | _ => false) = false) : Rd P n f o w (.tuple #[v, .bool true]) := by
  have h : (Instr.typeAssert (.iface T v) xT T true).run P w = .ok (.tuple #[v, .bool true]) w := by
    cases u <;> simp at hd <;> simp [Instr.typeAssert, run_underlying hT, Sem.run]
  simp [Rd, execOp, ho, hx, h, Sem.run]
end ifaces
end Go.Mo
set_option linter.unusedVariables false
set_option linter.unusedSimpArgs false
namespace Go.Mo
open Go.RowKit
/-- What a recover finds, and what stays below. -/
def recoverV (cs : List Frame) : Value × List Frame := match recoverD cs with
  | some (v, cs') => (v, cs')
  | none => (.nilIface, cs)
theorem recoverV_len (cs : List Frame) : (recoverV cs).2.length = cs.length := by
  unfold recoverV
  split
  · rename_i h; exact recoverD_length h
  · rfl
/-- A region that recovers first. -/
theorem wpSIn_recover {P : Program} {id : Nat} {o : Oper} {rest : List Oper} {Q : Exit → Act → List Frame → World → Prop} {a : Act} {cs : List Frame} {w : World} (hg : o.guard = none)
    (hr : (execOp a.eval o).run P w = .ok .recover w)
    (h : wpListIn (FW none) 0 P (o :: rest).toArray (fun e a' w' => Q e a' (recoverV cs).2 w') rest (a.put o.dst (recoverV cs).1) w) : (Code.region id (o :: rest).toArray false).wpSIn (FW none) 0 P Q a cs w := by
  intro b k hb hro hF hroom
  have ho : (o :: rest).toArray[0]? = some o := by simp
  have hw : Region.wanted o (yielded (o :: rest).toArray a.tmps) = true := by simp [Region.wanted, hg]
  have hgs := stepGR_op (P := P) (b := b) (k := k) (cs := cs) (w := w) (rest := List.range' 1 rest.length) ho hw
  rw [hro, Oper.semAt_none] at hgs
  have hfin : ∀ v, (b.atR a (.inRegion (o :: rest).toArray (0 :: List.range' 1 rest.length) :: k)).finish v = b.atR (a.put o.dst v) (.inRegion (o :: rest).toArray (List.range' 1 rest.length) :: k) := by
    intro v; rw [Frame.finish_atR, ho]; rfl
  have hk : (b.atR a (.inRegion (o :: rest).toArray (0 :: List.range' 1 rest.length) :: k)).kind = .deferred := hb
  have htr := tryRecover_deferred hk cs
  have hrange : List.range (o :: rest).toArray.size = 0 :: List.range' 1 rest.length := by
    rw [List.range_eq_range']; simp [List.range'_succ]
  have hops : wpOpsIn (FW none) 0 P (o :: rest).toArray (fun e a' w' => Q e a' (recoverV cs).2 w') (List.range' 1 rest.length) (a.put o.dst (recoverV cs).1) w := by
    rw [wpOpsIn_eq_wpListIn rest 1 (fun j => by rw [Nat.add_comm]; simp)]; exact h
  obtain ⟨e, a', w', hq, harr⟩ := wp_opsIn _ _ _ hops b k (recoverV cs).2 hro trivial (room_FW _ _)
  refine ⟨e, a', (recoverV cs).2, w', recoverV_len cs, hq, .of_steps (.head (fenced_FW _ _ _) stepR_region (.one (fenced_FW _ _ _) (step_lone_go ?_))) harr⟩
  rw [hrange, hgs, ← hfin]
  unfold recoverV
  cases hrec : recoverD cs with
  | none =>
    rw [hrec] at htr
    simp only [Frame.atR, hro] at htr ⊢
    simp [stepG.apply, hr, htr]
  | some x =>
    obtain ⟨v, cs'⟩ := x
    rw [hrec] at htr
    simp only [Frame.atR, hro] at htr ⊢
    simp [stepG.apply, hr, htr]
/-- A deferred function that recovers first. -/
theorem callsD_recover {P : Program} {k n d id : Nat} {fn : Func} {o : Oper} {rest : List Oper} {args : Array Value} {l : List Value} {u u' : FrameMode} {w : World} {x : Value} {R : World → Prop}
    (hf : P.funcs[k]? = some fn) (hb : fn.body = some (.region id (o :: rest).toArray false)) (hn : fn.ntmps = n) (hl : args.toList = l) (hs : Nat.ble l.length n = true) (hg : o.guard = none) (hd : o.dst = some d)
    (hr : ∀ ρ, (execOp ρ o).run P w = .ok .recover w) (hc : rest.all calmO = true) (hcv : ∀ c₀ cs, Frame.mode c₀ = u → recoverV (c₀ :: cs) = (x, { c₀ with mode := u' } :: cs))
    (h : GL P n (o :: rest).toArray rest (upd (frame0 l) d x) w ⟨fun f' w' => (∃ v, resultsOf P n fn f' w' v) ∧ R w', fun _ _ _ => False⟩) : CallsDIn (FW none) 0 P k args u w fun e u'' w' => u'' = u' ∧ (∃ v, e = .returned v) ∧ R w' := by
  refine callsDIn_of_wpSIn hf hb trivial fun c₀ cs hu => ?_
  subst hl
  rw [hn, frame0_eq n args (by simpa using Nat.le_of_ble_eq_true hs)]
  refine wpSIn_recover hg (hr _) ?_
  rw [hcv c₀ cs hu, hd, fr_put]
  have h1 := gl_at h (fun e a w => e = .normal ∧ ∃ f', a = fr n f' ∧ (∃ v, resultsOf P n fn f' w v) ∧ R w) (fun f' w' q => ⟨rfl, f', rfl, q⟩)
  refine listIn_of (ρ := none) (ds := []) (fun e a w q => ?_) (fun a w q => by cases q.1) rest hc _ _ h1
  obtain ⟨rfl, f', rfl, ⟨v, hv⟩, hR⟩ := q
  exact ⟨rfl, u', rfl, v, hv, rfl, ⟨v, rfl⟩, hR⟩
/-- A function that defers. -/
def FD (P : Program) (n : Nat) (fn : Func) (post : Value → World → Prop) : PostD
  | .normal, ds, f, w | .ret, ds, f, w => LeavesIn (FW none) 0 P fn (fr n f).tmps (fun e w' => ∃ v, e = .returned v ∧ post v w') ds .returning w
  | .panic c, ds, f, w => LeavesIn (FW none) 0 P fn (fr n f).tmps (fun e w' => ∃ v, e = .returned v ∧ post v w') ds (.panicking c) w
  | _, _, _, _ => False
theorem does_defers {P : Program} {k : Nat} {fn : Func} {c : Code} {args : Array Value} {w : World} {post : Value → World → Prop} {n : Nat} {l : List Value}
    (hf : P.funcs[k]? = some fn) (hname : (fn.name == "runtime.NumGoroutine") = false) (hb : fn.body = some c) (hn : fn.ntmps = n) (hl : args.toList = l) (hs : Nat.ble l.length n = true)
    (h : GV P n c [] (frame0 l) w (FD P n fn post)) : Does P k args w post := by
  refine ⟨⟨fn, hf, hname, by rw [hb]; rfl⟩, callsIn_wide.1 (callsIn_of_wp_defers (F := Fence.wide) (n := 0) hf hb trivial ?_)⟩
  subst hl
  rw [hn, frame0_eq n args (by simpa using Nat.le_of_ble_eq_true hs)]
  unfold GV at h
  refine wpIn_mono h ?_
  rintro e a w' ⟨ds, f', rfl, q⟩
  cases e <;> simp only [FD] at q <;> first | exact q.elim | exact q
theorem GV_defer2 {P : Program} {n d1 id : Nat} {o1 o2 : Oper} {ds : List Deferred} {dd : Deferred} {f : Fm} {w : World} {v1 : Value} {Q : PostD} (hg1 : o1.guard = none) (hg2 : o2.guard = none) (hd1 : o1.dst = some d1) (hd2 : o2.dst = none)
    (hr1 : Rd P n f o1 w v1) (hr2 : (execOp (ev n (upd f d1 v1)) o2).run P w = .ok (.defer dd) w) (h : Q .normal (dd :: ds) (upd f d1 v1) w) : GV P n (.region id [o1, o2].toArray false) ds f w Q := by
  unfold GV
  refine wpIn_region_lit ?_
  unfold wpListIn
  rw [if_pos (by simp [Region.wanted, hg1])]
  refine ⟨fun _ _ => trivial, ?_⟩
  rw [show Fence.wide.round = none from rfl, Oper.semAt_none, frD_eval, show (execOp (ev n f) o1).run P w = _ from hr1]
  simp only [Oper.uponIn]
  have e1 : (frD n ds f).put o1.dst v1 = frD n ds (upd f d1 v1) := by rw [← dsA_fr, ← dsA_put, hd1, fr_put]; rfl
  rw [e1]
  unfold wpListIn
  rw [if_pos (by simp [Region.wanted, hg2])]
  refine ⟨fun _ _ => trivial, ?_⟩
  rw [show Fence.wide.round = none from rfl, Oper.semAt_none, frD_eval, hr2]
  simp only [Oper.uponIn, hd2]
  exact ⟨dd :: ds, upd f d1 v1, rfl, h⟩
/-- One deferred call at the door, and none behind it. -/
theorem leaves_one {P : Program} {fn : Func} {tmps : Array Value} {post : Value → World → Prop} {fv : Fn} {cap : Array Value} {k : Nat} {args : Array Value} {u u' : FrameMode} {w : World} {R : World → Prop} (hu : u ≠ .run) (hi : (invoke (.fn fv cap) #[]).run P w = .ok (.enter k args) w)
    (hs : settle u' = .returning) (hc : CallsDIn (FW none) 0 P k args u w fun e u'' w' => u'' = u' ∧ (∃ v, e = .returned v) ∧ R w') (hR : ∀ w', R w' → ∃ v, (results fn tmps).run P w' = .ok v w' ∧ post v w') :
    LeavesIn (FW none) 0 P fn tmps (fun e w' => ∃ v, e = .returned v ∧ post v w') [{ target := .fn fv cap, args := #[] }] u w := by
  refine leavesIn_cons hu (fun q => by cases q) hi (fun _ _ => trivial) (hc.mono ?_)
  rintro e u'' w' ⟨rfl, ⟨v, rfl⟩, hr⟩
  show LeavesIn _ _ _ _ _ _ [] (settle u'') w'
  rw [hs]
  obtain ⟨v2, h1, h2⟩ := hR w' hr
  exact ⟨v2, h1, v2, rfl, h2⟩
theorem Hp.turnBack {w0 w w' : World} {S : List Nat} {c r : Res} {H' : List Res} (h : Hp w0 S w [c, r]) (k : Hp w r.foot w' H') : Hp w0 S w' (c :: H') := by
  have h3 := h.turnAtMore 1 rfl k
  exact h3.perm (by simpa using (List.perm_append_comm (l₁ := [c]) (l₂ := H')))
theorem recoverV_ret (c₀ : Frame) (cs : List Frame) (h : c₀.mode = .returning) : recoverV (c₀ :: cs) = (.nilIface, { c₀ with mode := .returning } :: cs) := by
  cases c₀
  simp only at h
  subst h
  rfl
theorem recoverV_pan (v : Value) (c₀ : Frame) (cs : List Frame) (h : c₀.mode = .panicking [{ v, recovered := false }]) : recoverV (c₀ :: cs) = (v, { c₀ with mode := .panicking [{ v, recovered := true }] } :: cs) := by
  cases c₀
  simp only at h
  subst h
  rfl
theorem run_invoke {P : Program} {k : Nat} {caps : Array Value} {w : World} (hf : IsFn P k) : (invoke (.fn (.func k) caps) #[]).run P w = .ok (.enter k caps) w := by
  obtain ⟨fn, h1, h2, h3⟩ := hf
  have h2' : ¬ fn.name = "runtime.NumGoroutine" := by simpa using h2
  have h3' : ¬ fn.body = none := by intro e; rw [e] at h3; cases h3
  simp [invoke, callFunc, program, Sem.run, h1, h2', h3']
theorem run_defer {P : Program} {n k : Nat} {f : Fm} {w : World} {o : Oper} {x : Operand} {caps : Array Value} {ts : Array TypeId} (ho : o.op = .defer { callee := .value x, args := #[], argTypes := ts }) (hx : ev n f x = .func (.func k) #[] caps) : (execOp (ev n f) o).run P w = .ok (.defer { target := .fn (.func k) caps, args := #[] }) w := by
  simp [execOp, ho, resolve, hx, Deferred.ofValue, Sem.run]
end Go.Mo
namespace Go.Mo
section first
variable {P : Program} {n : Nat} {ops : Array Oper} {f : Fm} {w : World} {K : KP} {o : Oper} {rest : List Oper} {d : Nat} {x y z : Operand}
theorem run_callF {k : Nat} {first caps : Array Value} {xs : Array Operand} {ts : Array TypeId} (ho : o.op = .call { callee := .value x, args := xs, argTypes := ts }) (hx : ev n f x = .func (.func k) first caps) (hf : IsFn P k) :
    (execOp (ev n f) o).run P w = .ok (.enter k (first ++ xs.map (ev n f) ++ caps)) w := by
  obtain ⟨fn, h1, h2, h3⟩ := hf
  have h2' : ¬ fn.name = "runtime.NumGoroutine" := by simpa using h2
  have h3' : ¬ fn.body = none := by intro e; rw [e] at h3; cases h3
  simp [execOp, ho, resolve, hx, Deferred.ofValue, invoke, callFunc, program, Sem.run, h1, h2', h3']
/-- A call of a function value with bound first arguments, which may throw. -/
theorem GL_callFX {k : Nat} {first caps : Array Value} {xs : Array Operand} {ts : Array TypeId} {args : Array Value} {post : Value → World → Prop} {bad : List PanicEntry → World → Prop} (hw : Wn n ops f o) (hd : o.dst = some d)
    (ho : o.op = .call { callee := .value x, args := xs, argTypes := ts }) (hx : ev n f x = .func (.func k) first caps)
    (hc : Thr P k args w post bad) (ha : first.toList ++ xs.toList.map (ev n f) ++ caps.toList = args.toList) (hb : ∀ c w', bad c w' → K.p c f w') (h : ∀ v w', post v w' → GL P n ops rest (upd f d v) w' K) : GL P n ops (o :: rest) f w K :=
  GL_enterX hw (by
    have ha' : first ++ xs.map (ev n f) ++ caps = args := Array.toList_inj.1 (by rw [Array.toList_append, Array.toList_append, Array.toList_map]; exact ha)
    rw [run_callF ho hx hc.isFn, ha']) hc hb (by rw [hd]; exact h)
/-- A closure with bound first arguments. -/
theorem rd_closureF {k : Nat} {xs ys : Array Operand} {first caps : Array Value} (ho : o.op = .makeFunc (.func k) xs ys) (hx : xs.toList.map (ev n f) = first.toList) (hy : ys.toList.map (ev n f) = caps.toList) : Rd P n f o w (.func (.func k) first caps) := by
  have hx' : xs.map (ev n f) = first := Array.toList_inj.1 (by rw [Array.toList_map]; exact hx)
  have hy' : ys.map (ev n f) = caps := Array.toList_inj.1 (by rw [Array.toList_map]; exact hy)
  simp [Rd, execOp, ho, hx', hy', Instr.makeFunc, Sem.run]
end first
end Go.Mo
