/- Requests and replies as they lie in memory. -/
import Derived.Test.YtpagpmioopaciaaGAudS
set_option linter.unusedVariables false
set_option linter.unusedSimpArgs false
namespace Go.Mo
open Go.RowKit
/-- A request; its text and its list are slices. -/
structure Rq where
  op : Int
  name : ByteArray
  actor : ByteArray
  note : ByteArray
  n : Int
  event : Bool
  priv : Bool
  text : Value
  addr : A32
  list : Value
def rqC (r : Rq) : List Value := .int .i64 r.op :: .string r.name :: .string r.actor :: .string r.note :: .int .i64 r.n :: .bool r.event :: .bool r.priv :: r.text :: (bys r.addr.1 ++ [r.list])
theorem rqC_len (r : Rq) : (rqC r).length = 41 := by simp [rqC, bys_length, r.addr.2]
theorem rq_op (r : Rq) : (rqC r)[0]? = some (.int .i64 r.op) := rfl
theorem rq_name (r : Rq) : (rqC r)[1]? = some (.string r.name) := rfl
theorem rq_actor (r : Rq) : (rqC r)[2]? = some (.string r.actor) := rfl
theorem rq_text (r : Rq) : (rqC r)[7]? = some r.text := rfl
theorem rq_setActor (r : Rq) (s : ByteArray) : splice (rqC r) 2 [.string s] = rqC { r with actor := s } := rfl
structure Rq.one (r : Rq) : Prop where
  text : r.text.oneCell' = true
  list : r.list.oneCell' = true
/-- A reply. -/
structure Rp where
  code : Int
  addr : A32
  data : Value
  list : Value
  n : Int
  done : Bool
def rpC (p : Rp) : List Value := .int .i64 p.code :: (bys p.addr.1 ++ [p.data, p.list, .int .i64 p.n, .bool p.done])
theorem rpC_len (p : Rp) : (rpC p).length = 37 := by simp [rpC, bys_length, p.addr.2]
structure Rp.one (p : Rp) : Prop where
  data : p.data.oneCell' = true
  list : p.list.oneCell' = true
theorem rpC_one {p : Rp} (h : p.one) : ∀ u ∈ rpC p, u.oneCell' = true := oneC rfl (oneA (bys_one _) (oneC h.data (oneC h.list (oneC rfl (one1 rfl)))))
def rpZ : Rp := ⟨0, a32Z, .slice none 0 0, .slice none 0 0, 0, false⟩
def rpE (c : Int) : Rp := { rpZ with code := c }
theorem rpZ_one : rpZ.one := ⟨rfl, rfl⟩
theorem rpE_one (c : Int) : (rpE c).one := ⟨rfl, rfl⟩
theorem rp_code (p : Rp) : (rpC p)[0]? = some (.int .i64 p.code) := rfl
theorem rp_skip (p : Rp) (j : Nat) : (rpC p)[33 + j]? = [p.data, p.list, .int .i64 p.n, .bool p.done][j]? := by
  rw [rpC, show 33 + j = (32 + j) + 1 by omega, List.getElem?_cons_succ, List.getElem?_append_right (by rw [bys_length, p.addr.2]; omega), bys_length, p.addr.2, Nat.add_sub_cancel_left]
theorem rp_data (p : Rp) : (rpC p)[33]? = some p.data := rp_skip p 0
theorem rp_n (p : Rp) : (rpC p)[35]? = some (.int .i64 p.n) := rp_skip p 2
section
variable {P : Program} {x y : Operand} {w : World}
theorem run_equalIn_fnn (d : Nat) {T : TypeId} {p q : Array TypeId} {r : Bool} (hT : P.underlying T = some (.func p q r)) : (Op.equalIn (d + 1) T .nilFunc .nilFunc).run P w = .ok true w := by
  simp [Op.equalIn, run_underlying hT]
theorem bo_fnn {T : TypeId} {p q : Array TypeId} {r : Bool} (hT : P.underlying T = some (.func p q r)) : Bo P .eql T x y .nilFunc .nilFunc w (.bool true) :=
  bo_of (by simp [eqGuard, Sem.run]) (by simp only [binOp]; simp [show (Op.equal T .nilFunc .nilFunc).run P w = .ok true w from run_equalIn_fnn 9999 hT])
end
end Go.Mo
