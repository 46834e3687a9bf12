/- Calls that return or throw; a function that catches. -/
import Derived.Test.YtpagpmioopaciaaBCloS
import Derived.Test.YtpagpmioopaciaaBTypes
import Derived.Test.YtpagpmioopaciaaBSeq
import Derived.DefersIn
import Derived.RecoverIn
set_option linter.unusedVariables false
set_option linter.unusedSimpArgs false
namespace Go.Mo
open Go.RowKit
/-- A call returns, or throws; what holds then. -/
structure Thr (P : Program) (k : Nat) (args : Array Value) (w : World) (post : Value → World → Prop) (bad : List PanicEntry → World → Prop) : Prop where
  isFn : IsFn P k
  calls : Calls P k args w fun e w' => (∃ v, e = .returned v ∧ post v w') ∨ ∃ c, e = .panicked c ∧ bad c w'
theorem Thr.mono {P : Program} {k : Nat} {args : Array Value} {w : World} {p q : Value → World → Prop} {b c : List PanicEntry → World → Prop} (h : Thr P k args w p b) (hq : ∀ v w', p v w' → q v w') (hc : ∀ v w', b v w' → c v w') : Thr P k args w q c :=
  ⟨h.isFn, h.calls.mono fun e w' h => h.imp (fun ⟨v, he, hp⟩ => ⟨v, he, hq _ _ hp⟩) (fun ⟨v, he, hp⟩ => ⟨v, he, hc _ _ hp⟩)⟩
def FX (P : Program) (n : Nat) (fn : Func) (post : Value → World → Prop) (bad : List PanicEntry → World → Prop) : Post
  | .normal, f, w | .ret, f, w => ∃ v, resultsOf P n fn f w v ∧ post v w
  | .panic c, _, w => bad c w
  | _, _, _ => False
theorem thr_of {P : Program} {k : Nat} {fn : Func} {c : Code} {args : Array Value} {w : World} {post : Value → World → Prop} {bad : List PanicEntry → World → Prop} {n : Nat} {l : List Value}
    (hf : P.funcs[k]? = some fn) (hname : (fn.name == "runtime.NumGoroutine") = false) (hb : fn.body = some c) (hn : fn.ntmps = n) (hl : args.toList = l) (hs : Nat.ble l.length n = true) (hc : calmC c = true)
    (h : GW P n c (frame0 l) w (FX P n fn post bad)) : Thr P k args w post bad := by
  refine ⟨⟨fn, hf, hname, by rw [hb]; rfl⟩, callsIn_wide.1 (callsIn_of_wp (F := Fence.wide) (n := 0) hf hb trivial ?_)⟩
  subst hl
  rw [hn, frame0_eq n args (by simpa using Nat.le_of_ble_eq_true hs)]
  refine wpIn_mono (gw_at h hc none []) ?_
  rintro e a w' ⟨f', rfl, q⟩
  cases e <;> simp only [FX] at q <;> first | exact q.elim | skip
  · obtain ⟨v, h1, h2⟩ := q; exact ⟨rfl, v, h1, .inl ⟨v, rfl, h2⟩⟩
  · obtain ⟨v, h1, h2⟩ := q; exact ⟨rfl, v, h1, .inl ⟨v, rfl, h2⟩⟩
  · exact ⟨rfl, .inr ⟨_, rfl, q⟩⟩
section ops
variable {P : Program} {n : Nat} {ops : Array Oper} {f : Fm} {w : World} {K : KP} {o : Oper} {rest : List Oper} {d : Nat} {x y z : Operand}
theorem GL_enterX {k : Nat} {args : Array Value} {post : Value → World → Prop} {bad : List PanicEntry → World → Prop} (hw : Wn n ops f o) (hr : (execOp (ev n f) o).run P w = .ok (.enter k args) w)
    (hc : Thr P k args w post bad) (hb : ∀ c w', bad c w' → K.p c f w') (h : ∀ v w', post v w' → GL P n ops rest (putF f o.dst v) w' K) : GL P n ops (o :: rest) f w K := by
  unfold GL
  intro Q hQ hP
  refine wpList_step fun K' hK => ?_
  rw [if_pos (by exact hw)]
  unfold Oper.wp
  rw [fr_eval, hr]
  simp only [Oper.upon]
  refine hc.calls.mono ?_
  rintro e w' (⟨v, rfl, hp⟩ | ⟨c, rfl, hp⟩)
  · simp only [fr_putF]
    have h2 := h v w' hp
    unfold GL at h2
    exact hK _ _ (h2 Q hQ hP)
  · exact hP _ _ _ (hb _ _ hp)
theorem GL_callX {k : Nat} {xs : Array Operand} {ts : Array TypeId} {args : Array Value} {post : Value → World → Prop} {bad : List PanicEntry → World → Prop} (hw : Wn n ops f o) (hd : o.dst = some d)
    (ho : o.op = .call { callee := .value (.func k), args := xs, argTypes := ts })
    (hc : Thr P k args w post bad) (ha : xs.toList.map (ev n f) = args.toList) (hb : ∀ c w', bad c w' → K.p c f w') (h : ∀ v w', post v w' → GL P n ops rest (upd f d v) w' K) : GL P n ops (o :: rest) f w K :=
  GL_enterX hw (by
    have ha' : xs.map (ev n f) = args := Array.toList_inj.1 (by rw [Array.toList_map]; exact ha)
    rw [run_call ho hc.isFn, ha']) hc hb (by rw [hd]; exact h)
theorem GL_callVX {k : Nat} {caps : Array Value} {xs : Array Operand} {ts : Array TypeId} {args : Array Value} {post : Value → World → Prop} {bad : List PanicEntry → World → Prop} (hw : Wn n ops f o) (hd : o.dst = some d)
    (ho : o.op = .call { callee := .value x, args := xs, argTypes := ts }) (hx : ev n f x = .func (.func k) #[] caps)
    (hc : Thr P k args w post bad) (ha : xs.toList.map (ev n f) ++ caps.toList = args.toList) (hb : ∀ c w', bad c w' → K.p c f w') (h : ∀ v w', post v w' → GL P n ops rest (upd f d v) w' K) : GL P n ops (o :: rest) f w K :=
  GL_enterX hw (by
    have ha' : xs.map (ev n f) ++ caps = args := Array.toList_inj.1 (by rw [Array.toList_append, Array.toList_map]; exact ha)
    rw [run_callV ho hx hc.isFn, ha']) hc hb (by rw [hd]; exact h)
/-- A panic. -/
theorem GL_panic {v : Value} {T : TypeId} (hw : Wn n ops f o) (ho : o.op = .panic x) (hx : ev n f x = .iface T v) (h : K.p [{ v := .iface T v, recovered := false }] f w) : GL P n ops (o :: rest) f w K := by
  unfold GL
  intro Q hQ hP
  refine wpList_step fun K' hK => ?_
  rw [if_pos (by exact hw)]
  unfold Oper.wp
  have e : (execOp (ev n f) o).run P w = .halt (.panic (.iface T v)) w := by
    simp only [execOp, ho, hx]
    rfl
  rw [fr_eval, e]
  exact hP _ _ _ h
end ops
end Go.Mo
namespace Go.Mo
/-- What trap.Throw throws. -/
def faultE (T : TypeId) (c : Int) : List PanicEntry := [{ v := .iface T (.agg ⟨[.int .i64 c]⟩), recovered := false }]
end Go.Mo
namespace Go.Mo
section ifaces0
theorem run_equalIn_fnilT {P : Program} (d : Nat) {w : World} {T : TypeId} {a : Fn} {b c : Array Value} {p q : Array TypeId} {r : Bool} (hT : P.underlying T = some (.func p q r)) : (Op.equalIn (d + 1) T (.func a b c) .nilFunc).run P w = .ok false w := by
  simp [Op.equalIn, run_underlying hT]
theorem bo_fnilT {P : Program} {x y : Operand} {w : World} {T : TypeId} {a : Fn} {b c : Array Value} {p q : Array TypeId} {r : Bool} (hT : P.underlying T = some (.func p q r)) : Bo P .eql T x y (.func a b c) .nilFunc w (.bool false) :=
  bo_of (by simp [eqGuard, Sem.run]) (by simp only [binOp]; simp [show (Op.equal T (.func a b c) .nilFunc).run P w = .ok false w from run_equalIn_fnilT 9999 hT])
end ifaces0
section ifaces
variable {P : Program} {n : Nat} {f : Fm} {w : World} {o : Oper} {x y : Operand}
theorem bo_inilE {T m : TypeId} {ms : TypeDesc} {v : Value} (hT : P.underlying T = some ms) (hd : (match ms with | .interface _ => true | _ => false) = true) : Bo P .eql T x y (.iface m v) .nilIface w (.bool false) :=
  bo_of (by simp [eqGuard, Sem.run]) (by simp only [binOp]; simp [run_equal_inil hT hd])
theorem bo_nilnilE {T : TypeId} {ms : TypeDesc} {c : Value} (hT : P.underlying T = some ms) (hd : (match ms with | .interface _ => true | _ => false) = true) (hy : y = .const c) : Bo P .eql T x y .nilIface .nilIface w (.bool true) := by
  subst hy
  exact bo_of (by rw [eqGuard_nil_constR]; rfl) (by simp only [binOp]; simp [run_equal_nilnil hT hd])
/-- A type assertion that holds, told as a pair. -/
theorem rd_assertC {xT T : TypeId} {u : TypeDesc} {v : Value} (ho : o.op = .typeAssert x xT T true) (hx : ev n f x = .iface T v) (hT : P.underlying T = some u) (hd : (match u with | .interface _ => true | _ => false) = false) : Rd P n f o w (.tuple #[v, .bool true]) := by
  have h : (Instr.typeAssert (.iface T v) xT T true).run P w = .ok (.tuple #[v, .bool true]) w := by
    cases u <;> simp at hd <;> simp [Instr.typeAssert, run_underlying hT, Sem.run]
  simp [Rd, execOp, ho, hx, h, Sem.run]
end ifaces
end Go.Mo
