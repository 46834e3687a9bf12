/- Bundles: the laws' own functions. -/
import Derived.Test.YtpagpmioopaciaaBBunE
import Derived.Test.YtpagpmioopaciaaBAudW
import Derived.Test.YtpagpmioopaciaaBFAud
set_option linter.unusedVariables false
set_option linter.unusedSimpArgs false
namespace Go.Mo
open Go.RowKit
def litBu (b : Bu) : Bool := decide (b.cls.size ≤ 100 ∧ b.note.size ≤ 100 ∧ b.tx.length ≤ 8 ∧ lightI b.au ≤ 0 ∧ ∀ x ∈ b.tx, x.2.length ≤ 2100)
theorem getD_ex {α : Type} [Inhabited α] {l : List α} {x : α} (h : x ∈ l) : ∃ j, j < l.length ∧ l.getD j default = x := by
  obtain ⟨j, hj, e⟩ := List.getElem_of_mem h
  exact ⟨j, hj, by rw [List.getD_eq_getElem?_getD, List.getElem?_eq_getElem hj]; exact e⟩
theorem litBu_iff {b : Bu} : litBu b = true ↔ b.cls.size ≤ 100 ∧ b.note.size ≤ 100 ∧ b.tx.length ≤ 8 ∧ lightI b.au ≤ 0 ∧ ∀ x ∈ b.tx, x.2.length ≤ 2100 := by simp [litBu]
theorem litBu_no {b : Bu} (h : ¬ (b.cls.size ≤ 100 ∧ b.note.size ≤ 100 ∧ b.tx.length ≤ 8 ∧ lightI b.au ≤ 0 ∧ ∀ x ∈ b.tx, x.2.length ≤ 2100)) : litBu b = false := by
  rw [litBu, decide_eq_false h]
theorem litBu_sm {b : Bu} (h : litBu b = true) : BuSm b := by
  obtain ⟨h1, h2, h3, h4, h5⟩ := litBu_iff.1 h
  have h6 := light_of h4
  exact ⟨by omega, by omega, by omega, fun x hx => by have := h5 x hx; omega, by omega, light_small h4⟩
theorem bu_len {b : Bu} (h : buK b = 0) : 20 ≤ (buBytes b).length ∧ (buBytes b).length ≤ 32768 := by
  have h1 := buHd_ok.1 (buK_ok h).1
  have h2 := (buK_ok h).2.1
  have h3 := buS0_len (buK_ok h).1
  have h4 := buTs_le b.tx (k := 2048) fun x hx => (h2 x hx).2
  have h5 := buAs_le b.au
  have h6 := (buSeal b).2
  rw [buBytes_yes h]
  have e : (sealL (buSaid b)).length = (buS0 b).length + (buTs b.tx).length + 1 + (buAs b.au).length + 32 + 4 := by
    simp only [sealL, buSaid, List.length_append, h6, fourL, List.length_cons, List.length_nil]
  omega
theorem TryR.yes {SB U8 REC : Nat} {D : Option Bu} {L : List Value} {c : Int} {H : List Res} {b : Bu} (h : TryR SB U8 REC D L c H) (hD : D = some b) : c = 0 ∧ ∃ B tv av, L = buC B tv av ∧ tv.oneCell' = true ∧ av.oneCell' = true ∧ bare B = b ∧ BuSm B ∧ H = buRows SB U8 REC B tv av := by
  rcases h with ⟨h1, B, tv, av, h2, h3, h4, h5, h6, h7⟩ | ⟨_, _, h2, _⟩
  · rw [hD] at h5
    injection h5 with h5
    exact ⟨h1, B, tv, av, h2, h3, h4, h5.symm, h6, h7⟩
  · rw [hD] at h2; cases h2
theorem TryR.no {SB U8 REC : Nat} {D : Option Bu} {L : List Value} {c : Int} {H : List Res} (h : TryR SB U8 REC D L c H) (hc : ¬ c = 0) : L = buZ ∧ D = none ∧ H = [] := by
  rcases h with ⟨h1, _⟩ | ⟨_, h1, h2, h3⟩
  · exact absurd h1 hc
  · exact ⟨h1, h2, h3⟩
theorem bare_eq {a b : Bu} (h : bare a = bare b) : SameB a b := (bare_same a).symm.trans (h ▸ bare_same b)
def bWR : Rec := { recZ with kind := 3, actor := ⟨#[97, 110, 110]⟩ }
def bW (v : Value) : Bu := ⟨⟨#[116, 97, 120]⟩, 5, ⟨#[110]⟩, [(v, [97, 98, 99])], [bWR]⟩
def bW0 : Bu := bW (.bool false)
theorem bW_same (v : Value) : SameB (bW v) bW0 := ⟨rfl, rfl, rfl, rfl, rfl⟩
theorem bW_k0 : buK bW0 = 0 := by decide +kernel
theorem bW_sa0 : ¬ (buSeal bW0).1 = (buAdr bW0).1 := by decide +kernel
theorem bW_k (v : Value) : buK (bW v) = 0 := (bW_same v).k.trans bW_k0
theorem bW_sa (v : Value) : ¬ (buSeal (bW v)).1 = (buAdr (bW v)).1 := by rw [(bW_same v).seal_, (bW_same v).adr]; exact bW_sa0
theorem bW_sm (v : Value) : BuSm (bW v) := ⟨Nat.le_of_ble_eq_true rfl, Nat.le_of_ble_eq_true rfl, Nat.le_of_ble_eq_true rfl, fun x hx => by rw [List.mem_singleton.1 hx]; exact Nat.le_of_ble_eq_true rfl, Nat.le_of_ble_eq_true rfl, fun x hx => by rw [List.mem_singleton.1 hx]; decide⟩
theorem bu0_k : buK bu0 = 10 := by decide
theorem bW_ne0 (v : Value) : ¬ sameQ (bW v) bu0 := fun h => absurd (congrArg ByteArray.size h.1) (by show ¬ (3 : Nat) = 0; decide)
section ops
variable {P : Program} {T : TypeId} {x y : Operand} {w : World}
theorem bo_intE {o : BinOp} {p q : Value} {k : IntKind} {b b' : Int} (h : Bo P o T x y p q w (.int k b)) (e : b = b') : Bo P o T x y p q w (.int k b') := e ▸ h
theorem bo_eqT {k : IntKind} {p q : Int} (h : p = q) : Bo P .eql T x y (.int k p) (.int k q) w (.bool true) := bo_boolE bo_eql (decide_eq_true h)
theorem bo_xor8 (a b : UInt8) : Bo P .xor T x y (.int .u8 (a.toNat : Int)) (.int .u8 (b.toNat : Int)) w (.int .u8 ((a ^^^ b).toNat : Int)) := by
  refine bo_int bo_xor ?_
  have ha := a.toNat_lt
  have hb := b.toNat_lt
  have e4 : IntKind.u8.bits = 8 := rfl
  rw [e4, BitVec.ofInt_natCast, BitVec.ofInt_natCast, BitVec.toNat_xor, BitVec.toNat_ofNat, BitVec.toNat_ofNat, Nat.mod_eq_of_lt ha, Nat.mod_eq_of_lt hb, UInt8.toNat_xor]
  have h8 : a.toNat ^^^ b.toNat < 2 ^ 8 := Nat.xor_lt_two_pow ha hb
  rw [IntKind.wrap_u8]
  omega
theorem bo_shl8 {k' : IntKind} (j : Nat) (hj : j < 8) : Bo P .shl T x y (.int .u8 1) (.int k' (j : Int)) w (.int .u8 ((UInt8.ofNat (2 ^ j)).toNat : Int)) := by
  refine bo_int (bo_shl (by omega)) ?_
  have e : min (j : Int).toNat IntKind.u8.bits = j := by show min _ 8 = _; omega
  have hp : (2 : Nat) ^ j < 256 := Nat.pow_lt_pow_right (n := 8) (by decide) hj
  have e2 : (UInt8.ofNat (2 ^ j)).toNat = 2 ^ j := by rw [UInt8.toNat_ofNat', Nat.mod_eq_of_lt hp]
  rw [e, e2, Int.one_mul, IntKind.wrap_u8]
  have e3 : ((2 : Int) ^ j) = ((2 ^ j : Nat) : Int) := by rw [Int.natCast_pow]; rfl
  rw [e3]; omega
theorem bo_bit32 (m : Nat) (k : Nat) (hm : m < 4294967296) (hk : k < 32) : Bo P .and T x y (.int .u32 ((m : Int) / 2 ^ min (k : Int).toNat IntKind.u32.bits)) (.int .u32 1) w (.int .u32 (if m.testBit k then 1 else 0)) := by
  refine bo_int bo_and ?_
  have e : min (k : Int).toNat IntKind.u32.bits = k := by show min _ 32 = _; omega
  have hd : m / 2 ^ k ≤ m := Nat.div_le_self _ _
  have e2 : ((m : Int) / 2 ^ k) = ((m / 2 ^ k : Nat) : Int) := by rw [Int.natCast_ediv, Int.natCast_pow]; rfl
  have e3 : (1 : Int) = ((1 : Nat) : Int) := rfl
  have e4 : IntKind.u32.bits = 32 := rfl
  rw [e, e2, e4, show BitVec.ofInt 32 (1 : Int) = BitVec.ofNat 32 1 from rfl, BitVec.ofInt_natCast, BitVec.toNat_and, BitVec.toNat_ofNat, BitVec.toNat_ofNat, Nat.mod_eq_of_lt (show m / 2 ^ k < 2 ^ 32 by omega)]
  have e5 : (1 % 2 ^ 32) = 1 := rfl
  rw [e5, Nat.and_one_is_mod, Nat.testBit_eq_decide_div_mod_eq]
  have h2 : m / 2 ^ k % 2 < 2 := Nat.mod_lt _ (by decide)
  rw [IntKind.wrap_u32]
  split <;> rename_i h <;> simp at h <;> omega
theorem bo_eqbit (m k : Nat) : Bo P .eql T x y (.int .u32 (if m.testBit k then 1 else 0)) (.int .u32 1) w (.bool (m.testBit k)) :=
  bo_boolE bo_eql (by cases m.testBit k <;> simp)
end ops
theorem flip_store {p : List UInt8} {j : Nat} (h : j / 8 < p.length) : splice (bys p) (0 + j / 8 * 1) [.int .u8 ((p.getD (j / 8) 0 ^^^ UInt8.ofNat (2 ^ (j % 8))).toNat : Int)] = bys (flipB p j) := by
  rw [Nat.zero_add, Nat.mul_one, flipB]
  have e : ∀ (l : List UInt8) (i : Nat) (u : UInt8), i < l.length → splice (bys l) i [.int .u8 (u.toNat : Int)] = bys (l.set i u) := fun l i u hi => by
    simp only [splice, bys, List.length_cons, List.length_nil, Nat.zero_add]
    rw [← List.map_take, ← List.map_drop, ← List.map_singleton (f := fun u : UInt8 => Value.int .u8 (u.toNat : Int)), ← List.map_append, ← List.map_append, List.set_eq_take_append_cons_drop, if_pos hi]
    simp
  exact e _ _ _ h
end Go.Mo
set_option linter.unusedVariables false
set_option linter.unusedSimpArgs false
namespace Go.Proofs.Ytpagpmioopaciaa
open Go.Mo Go.RowKit
theorem law_alight (sv : Value) (m : Nat) (l : List Rec) (w0 : World) (hI : Sl w0 sv 100 m (l.flatMap recC)) : Does Try.prog 63 #[sv] w0 fun v w' => v = .int .i64 (lightI l) ∧ Hp w0 [] w' [] := by
 obtain ⟨A, c, rfl⟩ := sl_shape hI
 have hlm := Sl.recs hI
 have hmle := hI.le
 refine does_of (l := [.slice A m c]) Try.func63 (by kernel_rfl) rfl Try.ntmps63 rfl rfl (by kernel_rfl) ?_
 have hp := Hp.refl w0 []
 refine GW_seq ?_
 refine GW_region ?_
 refine GL_rd (v := .int _ _) (wn_none rfl) rfl (rd_assign rfl rfl) ?_
 refine GL_nil ?_
 refine GW_seq ?_
 refine GW_seq ?_
 refine GW_region ?_
 refine GL_rd (v := .slice _ _ _) (wn_none rfl) rfl (rd_move rfl rfl) ?_
 refine GL_rd (wn_none rfl) rfl (rd_len rfl rfl Try.underlying76) ?_
 refine GL_rd (wn_none rfl) rfl (rd_bin rfl rfl rfl bo_gtr) ?_
 refine GL_nil ?_
 refine GW_cond rfl (fun hb => ?_) (fun hb => ?_)
 ·(try simp only [decide_eq_true_eq, decide_eq_false_iff_not, Bool.not_eq_true', Bool.not_eq_false', Bool.not_eq_eq_eq_not, Bool.not_true, Bool.not_false, Int.not_lt, Int.not_le] at hb)
  refine GW_seq ?_
  refine GW_region ?_
  refine GL_rd (v := .int _ _) (wn_none rfl) rfl (rd_assign rfl rfl) ?_
  refine GL_nil ?_
  refine GW_ret ?_
  have el : lightI l = 1 := light_long (by omega)
  exact ⟨_, res1 Try.results63 (rv_tmp (v := .int _ _) rfl rfl), by rw [el], hp⟩
 ·(try simp only [decide_eq_true_eq, decide_eq_false_iff_not, Bool.not_eq_true', Bool.not_eq_false', Bool.not_eq_eq_eq_not, Bool.not_true, Bool.not_false, Int.not_lt, Int.not_le] at hb)
  have hm20 := hb
  refine GW_skip ?_
  refine GW_seq ?_
  refine GW_seq ?_
  refine GW_region ?_
  refine GL_rd (v := .int _ _) (wn_none rfl) rfl (rd_assign rfl rfl) ?_
  refine GL_nil ?_
  refine GW_block ?_
  refine GW_loop ?_
  refine Lp_ind (α := Nat) (fun a_0 f_0 w' => match a_0 with | i => ∃ fz, f_0 = (upd (upd fz 0 (.slice A m c)) 3 (.int .i64 (i : Int))) ∧ Hp w0 [] w' [] ∧ (i ≤ m) ∧ (∀ j, j < i → litB (recAt l j) = true)) (fun a_0 => match a_0 with | i => m - i) ?_ 0 _ _ ?_
  ·rintro i f wz ⟨fz, rfl, hp, hi0, hok⟩ ihL0
   refine Lp_round ?_
   refine GW_seq ?_
   refine GW_seq ?_
   refine GW_region ?_
   refine GL_rd (v := .int _ _) (wn_none rfl) rfl (rd_move rfl rfl) ?_
   refine GL_rd (v := .slice _ _ _) (wn_none rfl) rfl (rd_move rfl rfl) ?_
   refine GL_rd (wn_none rfl) rfl (rd_len rfl rfl Try.underlying76) ?_
   refine GL_rd (wn_none rfl) rfl (rd_bin rfl rfl rfl bo_lss) ?_
   refine GL_nil ?_
   refine GW_cond rfl (fun hb2 => ?_) (fun hb2 => ?_)
   ·(try simp only [decide_eq_true_eq, decide_eq_false_iff_not, Bool.not_eq_true', Bool.not_eq_false', Bool.not_eq_eq_eq_not, Bool.not_true, Bool.not_false, Int.not_lt, Int.not_le] at hb2)
    obtain ⟨gA, bA, rfl⟩ := hI.addr (by rw [flat_length recC_len]; omega)
    refine GW_skip ?_
    refine GW_seq ?_
    refine GW_block ?_
    refine GW_seq ?_
    refine GW_region ?_
    refine GL_rd (v := .slice _ _ _) (wn_none rfl) rfl (rd_move rfl rfl) ?_
    refine GL_rd (v := .int _ _) (wn_none rfl) rfl (rd_move rfl rfl) ?_
    refine GL_rd (wn_none rfl) rfl (rd_indexS (j := i) rfl rfl rfl Try.underlying76 ts141 rfl (by omega) _ rfl) ?_
    refine GL_rd (wn_none rfl) rfl (rd_field rfl rfl fa141_2 _ rfl) ?_
    refine GL_rd (wn_none rfl) rfl (rd_load rfl rfl Try.underlying9 rfl (Sl.recE (hI.keep hp.mod) i (by first | omega | assumption | exact Nat.lt_succ_self _) (rec_actor _))) ?_
    refine GL_rd (wn_none rfl) rfl (rd_lenS rfl rfl Try.underlying9) ?_
    refine GL_rd (wn_none rfl) rfl (rd_bin rfl rfl rfl bo_gtr) ?_
    refine GL_rd (v := .bool _) (wn_none rfl) rfl (rd_move rfl rfl) ?_
    refine GL_split (t := 20) (b := _) rfl ?_ ?_
    ·intro hb3; (try simp only [decide_eq_true_eq, decide_eq_false_iff_not, Bool.not_eq_true', Bool.not_eq_false', Bool.not_eq_eq_eq_not, Bool.not_true, Bool.not_false, Int.not_lt, Int.not_le] at hb3)
     refine GL_pass (nw_off rfl rfl rfl rfl rfl) rfl ?_
     refine GL_pass (nw_off rfl rfl rfl rfl rfl) rfl ?_
     refine GL_pass (nw_off rfl rfl rfl rfl rfl) rfl ?_
     refine GL_pass (nw_off rfl rfl rfl rfl rfl) rfl ?_
     refine GL_pass (nw_off rfl rfl rfl rfl rfl) rfl ?_
     refine GL_pass (nw_off rfl rfl rfl rfl rfl) rfl ?_
     refine GL_pass (nw_off rfl rfl rfl rfl rfl) rfl ?_
     refine GL_rd (v := .bool _) (wn_none rfl) rfl (rd_pickT rfl rfl rfl) ?_
     refine GL_nil ?_
     refine GW_true rfl ?_
     refine GW_seq ?_
     refine GW_region ?_
     refine GL_rd (v := .int _ _) (wn_none rfl) rfl (rd_assign rfl rfl) ?_
     refine GL_nil ?_
     refine GW_ret ?_
     have el : lightI l = 1 := light_bad (i := i) (by omega) (litB_no (by omega))
     exact ⟨_, res1 Try.results63 (rv_tmp (v := .int _ _) rfl rfl), by rw [el], hp⟩
    ·intro hb3; (try simp only [decide_eq_true_eq, decide_eq_false_iff_not, Bool.not_eq_true', Bool.not_eq_false', Bool.not_eq_eq_eq_not, Bool.not_true, Bool.not_false, Int.not_lt, Int.not_le] at hb3)
     have h1 := hb3
     refine GL_rd (v := .slice _ _ _) (wn_on rfl rfl rfl rfl) rfl (rd_move rfl rfl) ?_
     refine GL_rd (v := .int _ _) (wn_on rfl rfl rfl rfl) rfl (rd_move rfl rfl) ?_
     refine GL_rd (wn_on rfl rfl rfl rfl) rfl (rd_indexS (j := i) rfl rfl rfl Try.underlying76 ts141 rfl (by omega) _ rfl) ?_
     refine GL_rd (wn_on rfl rfl rfl rfl) rfl (rd_field rfl rfl fa141_4 _ rfl) ?_
     refine GL_rd (wn_on rfl rfl rfl rfl) rfl (rd_load rfl rfl Try.underlying9 rfl (Sl.recE (hI.keep hp.mod) i (by first | omega | assumption | exact Nat.lt_succ_self _) (rec_reason _))) ?_
     refine GL_rd (wn_on rfl rfl rfl rfl) rfl (rd_lenS rfl rfl Try.underlying9) ?_
     refine GL_rd (wn_on rfl rfl rfl rfl) rfl (rd_bin rfl rfl rfl bo_gtr) ?_
     refine GL_rd (v := .bool _) (wn_none rfl) rfl (rd_pickF rfl rfl rfl) ?_
     refine GL_nil ?_
     refine GW_cond rfl (fun hb4 => ?_) (fun hb4 => ?_)
     ·(try simp only [decide_eq_true_eq, decide_eq_false_iff_not, Bool.not_eq_true', Bool.not_eq_false', Bool.not_eq_eq_eq_not, Bool.not_true, Bool.not_false, Int.not_lt, Int.not_le] at hb4)
      refine GW_seq ?_
      refine GW_region ?_
      refine GL_rd (v := .int _ _) (wn_none rfl) rfl (rd_assign rfl rfl) ?_
      refine GL_nil ?_
      refine GW_ret ?_
      have el : lightI l = 1 := light_bad (i := i) (by omega) (litB_no (by omega))
      exact ⟨_, res1 Try.results63 (rv_tmp (v := .int _ _) rfl rfl), by rw [el], hp⟩
     ·(try simp only [decide_eq_true_eq, decide_eq_false_iff_not, Bool.not_eq_true', Bool.not_eq_false', Bool.not_eq_eq_eq_not, Bool.not_true, Bool.not_false, Int.not_lt, Int.not_le] at hb4)
      have h2 := hb4
      refine GW_skip ?_
      refine GW_region ?_
      refine GL_rd (v := .int _ _) (wn_none rfl) rfl (rd_move rfl rfl) ?_
      refine GL_rd (wn_none rfl) rfl (rd_bin rfl rfl rfl (bo_add64 (by omega))) ?_
      refine GL_rd (v := .int _ _) (wn_none rfl) rfl (rd_assign rfl rfl) ?_
      refine GL_nil ?_
      exact ihL0 (i + 1) _ _ (by simp only []; omega) ⟨_, slots2 rfl rfl, hp, by omega, fun j hj => by rcases Nat.lt_succ_iff_lt_or_eq.1 hj with h | h; exact hok j h; subst h; exact litB_yes (by omega) (by omega)⟩
   ·(try simp only [decide_eq_true_eq, decide_eq_false_iff_not, Bool.not_eq_true', Bool.not_eq_false', Bool.not_eq_eq_eq_not, Bool.not_true, Bool.not_false, Int.not_lt, Int.not_le] at hb2)
    refine GW_exit ?_
    refine GW_seq ?_
    refine GW_region ?_
    refine GL_rd (v := .int _ _) (wn_none rfl) rfl (rd_assign rfl rfl) ?_
    refine GL_nil ?_
    refine GW_ret ?_
    obtain rfl : m = i := by omega
    have el : lightI l = 0 := light_ok (by omega) (by rw [hlm]; exact hok)
    exact ⟨_, res1 Try.results63 (rv_tmp (v := .int _ _) rfl rfl), by rw [el], hp⟩
  ·refine ⟨_, slots2 rfl rfl, hp, Nat.zero_le _, fun j hj => absurd hj (by omega)⟩
end Go.Proofs.Ytpagpmioopaciaa
