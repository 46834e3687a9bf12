/- Walks of functions of the program. -/
import Derived.Test.YtdbkmpnknkldlaaHTypes
import Derived.Test.YtdbkmpnknkldlaaHSeq
import Derived.Test.YtdbkmpnknkldlaaHCloS
import Derived.Test.YtdbkmpnknkldlaaHHisS
import Derived.Test.YtdbkmpnknkldlaaHShfS
set_option linter.unusedVariables false
set_option linter.unusedSimpArgs false
namespace Go.Proofs.Ytdbkmpnknkldlaa
open Go.Mo Go.RowKit
theorem recAt59 : FlatAt Try.prog 32 recT := flatAt_of (by kernel_rfl)
theorem sl_DeleteS {w : World} {n i : Nat} {v : Value} {l : List ByteArray} (hr : (Res.row 9 1 v n (l.map Value.string)).at_ w) (hi : i < l.length) : Does Try.prog 82 #[v, .int .i64 (i : Int), .int .i64 ((i : Int) + 1)] w fun v' w' => Hp w v.ownBlock.toList w' [.row 9 1 v' (l.take i ++ l.drop (i + 1)).length ((l.take i ++ l.drop (i + 1)).map Value.string)] := delete_does ⟨Try.f82, Try.func82, by kernel_rfl, by kernel_rfl⟩ Go.Proofs.Try.slices_Delete_string hr hi
theorem sl_IndexF (sv : Value) (m : Nat) (l : List ByteArray) (x : ByteArray) (w0 : World) (hI : Sl w0 sv 1 m (l.map Value.string)) : Does Try.prog 81 #[sv, .string x] w0 fun v w' => ∃ r : Int, v = .int .i64 r ∧ ((r = -1 ∧ ¬ x ∈ l) ∨ ∃ i : Nat, r = (i : Int) ∧ i < l.length ∧ strAt l i = x ∧ ∀ j, j < i → ¬ strAt l j = x) ∧ Hp w0 [] w' [] := by
 obtain ⟨A, c, rfl⟩ := sl_shape hI
 have hlm : l.length = m := by have := hI.len; rw [List.length_map] at this; omega
 have hmle := hI.le
 refine does_of (l := [.slice A m c, .string x]) Try.func81 (by kernel_rfl) rfl Try.ntmps81 rfl rfl (by kernel_rfl) ?_
 have hp := Hp.refl w0 []
 refine GW_seq ?_
 refine GW_region ?_
 refine GL_rd (v := .int _ _) (wn_none rfl) rfl (rd_assign rfl rfl) ?_
 refine GL_nil ?_
 refine GW_seq ?_
 refine GW_seq ?_
 refine GW_region ?_
 refine GL_rd (v := .slice _ _ _) (wn_none rfl) rfl (rd_move rfl rfl) ?_
 refine GL_rd (wn_none rfl) rfl (rd_len rfl rfl Try.underlying29) ?_
 refine GL_rd (v := .int _ _) (wn_none rfl) rfl (rd_move rfl rfl) ?_
 refine GL_nil ?_
 refine GW_block ?_
 refine GW_loop ?_
 refine Lp_ind (α := Nat) (fun a_0 f_0 w' => match a_0 with | i => ∃ fz, f_0 = (upd (upd (upd (upd fz 0 (.slice A m c)) 1 (.string x)) 7 (.int .i64 (m : Int))) 8 (.int .i64 (i : Int))) ∧ Hp w0 [] w' [] ∧ (i ≤ m) ∧ (∀ j, j < i → ¬ strAt l j = x)) (fun a_0 => match a_0 with | i => m - i) ?_ 0 _ _ ?_
 ·rintro i f wz ⟨fz, rfl, hp, hi0, hok⟩ ihL0
  refine Lp_round ?_
  refine GW_seq ?_
  refine GW_region ?_
  refine GL_rd (wn_none rfl) rfl (rd_bin rfl rfl rfl bo_lss) ?_
  refine GL_nil ?_
  refine GW_seq ?_
  refine GW_cond rfl (fun hb => ?_) (fun hb => ?_)
  ·(try simp only [decide_eq_true_eq, decide_eq_false_iff_not, Bool.not_eq_true', Bool.not_eq_false', Bool.not_eq_eq_eq_not, Bool.not_true, Bool.not_false, Int.not_lt, Int.not_le] at hb)
   obtain ⟨gA, bA, rfl⟩ := hI.addr (by rw [List.length_map]; omega)
   refine GW_skip ?_
   refine GW_seq ?_
   refine GW_block ?_
   refine GW_seq ?_
   refine GW_region ?_
   refine GL_rd (v := .int _ _) (wn_none rfl) rfl (rd_move rfl rfl) ?_
   refine GL_rd (v := .int _ _) (wn_none rfl) rfl (rd_assign rfl rfl) ?_
   refine GL_nil ?_
   refine GW_seq ?_
   refine GW_region ?_
   refine GL_rd (v := .string _) (wn_none rfl) rfl (rd_move rfl rfl) ?_
   refine GL_rd (v := .slice _ _ _) (wn_none rfl) rfl (rd_move rfl rfl) ?_
   refine GL_rd (v := .int _ _) (wn_none rfl) rfl (rd_move rfl rfl) ?_
   refine GL_rd (wn_none rfl) rfl (rd_indexS (j := i) rfl rfl rfl Try.underlying29 ts9 rfl (by omega) _ rfl) ?_
   refine GL_rd (wn_none rfl) rfl (rd_load rfl rfl Try.underlying9 rfl ((hI.keep hp.mod).get _ _ (strAt_cell (by omega)))) ?_
   refine GL_rd (wn_none rfl) rfl (rd_bin rfl rfl rfl bo_seql) ?_
   refine GL_nil ?_
   refine GW_cond rfl (fun hb2 => ?_) (fun hb2 => ?_)
   ·(try simp only [decide_eq_true_eq, decide_eq_false_iff_not, Bool.not_eq_true', Bool.not_eq_false', Bool.not_eq_eq_eq_not, Bool.not_true, Bool.not_false, Int.not_lt, Int.not_le] at hb2)
    have heq := hb2
    refine GW_seq ?_
    refine GW_region ?_
    refine GL_rd (v := .int _ _) (wn_none rfl) rfl (rd_move rfl rfl) ?_
    refine GL_rd (v := .int _ _) (wn_none rfl) rfl (rd_assign rfl rfl) ?_
    refine GL_nil ?_
    refine GW_ret ?_
    exact ⟨_, res1 Try.results81 (rv_tmp (v := .int _ _) rfl rfl), _, rfl, .inr ⟨i, rfl, by omega, heq.symm, hok⟩, hp⟩
   ·(try simp only [decide_eq_true_eq, decide_eq_false_iff_not, Bool.not_eq_true', Bool.not_eq_false', Bool.not_eq_eq_eq_not, Bool.not_true, Bool.not_false, Int.not_lt, Int.not_le] at hb2)
    have hne := hb2
    refine GW_skip ?_
    refine GW_region ?_
    refine GL_rd (wn_none rfl) rfl (rd_bin rfl rfl rfl (bo_add64 (by omega))) ?_
    refine GL_rd (v := .int _ _) (wn_none rfl) rfl (rd_move rfl rfl) ?_
    refine GL_nil ?_
    exact ihL0 (i + 1) _ _ (by simp only []; omega) ⟨_, slots4 rfl rfl rfl rfl, hp, by omega, fun j hj => by rcases Nat.lt_succ_iff_lt_or_eq.1 hj with h | h; exact hok j h; subst h; exact fun e => hne e.symm⟩
  ·(try simp only [decide_eq_true_eq, decide_eq_false_iff_not, Bool.not_eq_true', Bool.not_eq_false', Bool.not_eq_eq_eq_not, Bool.not_true, Bool.not_false, Int.not_lt, Int.not_le] at hb)
   refine GW_exit ?_
   refine GW_seq ?_
   refine GW_region ?_
   refine GL_rd (v := .int _ _) (wn_none rfl) rfl (rd_assign rfl rfl) ?_
   refine GL_nil ?_
   refine GW_ret ?_
   obtain rfl : m = i := by omega
   have hno := no_take_str (i := m) (fun j hj _ => hok j hj)
   rw [List.take_of_length_le (by omega)] at hno
   exact ⟨_, res1 Try.results81 (rv_tmp (v := .int _ _) rfl rfl), _, rfl, .inl ⟨rfl, hno⟩, hp⟩
 ·refine ⟨_, slots4 rfl rfl rfl rfl, hp, Nat.zero_le _, fun j hj => absurd hj (by omega)⟩
theorem sl_HasS (sv : Value) (m : Nat) (l : List ByteArray) (x : ByteArray) (w0 : World) (hI : Sl w0 sv 1 m (l.map Value.string)) : Does Try.prog 76 #[sv, .string x] w0 fun v w' => v = .bool (decide (x ∈ l)) ∧ Hp w0 [] w' [] := by
 obtain ⟨A, c, rfl⟩ := sl_shape hI
 have hlm : l.length = m := by have := hI.len; rw [List.length_map] at this; omega
 have hmle := hI.le
 refine does_of (l := [.slice A m c, .string x]) Try.func76 (by kernel_rfl) rfl Try.ntmps76 rfl rfl (by kernel_rfl) ?_
 have hp := Hp.refl w0 []
 refine GW_seq ?_
 refine GW_region ?_
 refine GL_rd (v := .bool _) (wn_none rfl) rfl (rd_assign rfl rfl) ?_
 refine GL_nil ?_
 refine GW_seq ?_
 refine GW_region ?_
 refine GL_rd (v := .slice _ _ _) (wn_none rfl) rfl (rd_move rfl rfl) ?_
 refine GL_rd (v := .string _) (wn_none rfl) rfl (rd_move rfl rfl) ?_
 refine GL_call (wn_none rfl) rfl rfl (sl_IndexF _ m l x _ (hI.keep hp.mod)) rfl ?_
 rintro _ w ⟨r, rfl, hr, hk⟩
 have hp := hp.comp hk
 refine GL_rd (wn_none rfl) rfl (rd_bin rfl rfl rfl bo_geq) ?_
 refine GL_rd (v := .bool _) (wn_none rfl) rfl (rd_assign rfl rfl) ?_
 refine GL_nil ?_
 refine GW_ret ?_
 have hr2 : (r ≥ 0) ↔ x ∈ l := by rcases hr with ⟨rfl, hn⟩ | ⟨i, rfl, hi, he, _⟩; exact ⟨fun h => absurd h (by decide), fun h => absurd h hn⟩; exact ⟨fun _ => he ▸ mem_at (strAt_some hi), fun _ => by omega⟩
 exact ⟨_, res1 Try.results76 (rv_tmp (v := .bool _) rfl rfl), by rw [decide_eq_decide.2 hr2], hp⟩
theorem sl_IndexA (sv : Value) (m : Nat) (l : List A32) (x : A32) (w0 : World) (hI : Sl w0 sv 32 m (l.flatMap aC)) : Does Try.prog 110 #[sv, .agg ⟨bys x.1⟩] w0 fun v w' => ∃ r : Int, v = .int .i64 r ∧ (r ≥ 0 ↔ x ∈ l) ∧ Hp w0 [] w' [] := by
 obtain ⟨A, c, rfl⟩ := sl_shape hI
 have hlm := flat_len aC_len (by decide) hI.len
 have hmle := hI.le
 refine does_of (l := [.slice A m c, .agg ⟨bys x.1⟩]) Try.func110 (by kernel_rfl) rfl Try.ntmps110 rfl rfl (by kernel_rfl) ?_
 have hp := Hp.refl w0 []
 refine GW_seq ?_
 refine GW_region ?_
 refine GL_box (wn_none rfl) rfl rfl rfl rfl hp ?_
 intro g w hp
 refine GL_rd (v := .int _ _) (wn_none rfl) rfl (rd_assign rfl rfl) ?_
 refine GL_nil ?_
 refine GW_seq ?_
 refine GW_seq ?_
 refine GW_region ?_
 refine GL_rd (v := .slice _ _ _) (wn_none rfl) rfl (rd_move rfl rfl) ?_
 refine GL_rd (wn_none rfl) rfl (rd_len rfl rfl Try.underlying65) ?_
 refine GL_rd (v := .int _ _) (wn_none rfl) rfl (rd_move rfl rfl) ?_
 refine GL_nil ?_
 refine GW_block ?_
 refine GW_loop ?_
 refine Lp_ind (α := Nat) (fun a_0 f_0 w' => match a_0 with | i => ∃ fz, f_0 = (upd (upd (upd (upd fz 0 (.slice A m c)) 3 (.pointer (some ⟨g, 0, none⟩))) 7 (.int .i64 (m : Int))) 8 (.int .i64 (i : Int))) ∧ Hp w0 [] w' [cells g 23 (bys x.1)] ∧ (i ≤ m) ∧ (∀ j, j < i → ¬ x = adA l j)) (fun a_0 => match a_0 with | i => m - i) ?_ 0 _ _ ?_
 ·rintro i f wz ⟨fz, rfl, hp, hi0, hok⟩ ihL0
  refine Lp_round ?_
  refine GW_seq ?_
  refine GW_region ?_
  refine GL_rd (wn_none rfl) rfl (rd_bin rfl rfl rfl bo_lss) ?_
  refine GL_nil ?_
  refine GW_seq ?_
  refine GW_cond rfl (fun hb => ?_) (fun hb => ?_)
  ·(try simp only [decide_eq_true_eq, decide_eq_false_iff_not, Bool.not_eq_true', Bool.not_eq_false', Bool.not_eq_eq_eq_not, Bool.not_true, Bool.not_false, Int.not_lt, Int.not_le] at hb)
   obtain ⟨gA, bA, rfl⟩ := hI.addr (by rw [flat_length aC_len]; omega)
   refine GW_skip ?_
   refine GW_seq ?_
   refine GW_block ?_
   refine GW_seq ?_
   refine GW_region ?_
   refine GL_rd (v := .int _ _) (wn_none rfl) rfl (rd_move rfl rfl) ?_
   refine GL_rd (v := .int _ _) (wn_none rfl) rfl (rd_assign rfl rfl) ?_
   refine GL_nil ?_
   refine GW_seq ?_
   refine GW_drawnK 6 (.one 0 true (.one 1 true (.one 2 true (.one 3 true (.one 4 true (.one 5 true .nil)))))) mixed (by kernel_rfl) hp (fun _ h => h) fun w hp => ?_
   have hpS := hp
   refine GO_rd rfl rfl (wn_none rfl) rfl hpS (fun w hp => (rd_loadC rfl rfl Try.underlying23 rfl ts23 (hp.get 0 rfl) (by first | (rw [bys_length]; first | exact a32_len _) | rfl | simp [bys_length, *]))) ?_
   refine GO_rdT (v := .slice _ _ _) rfl (wn_none rfl) rfl (fun w => (rd_move rfl rfl)) ?_
   refine GO_rdT (v := .int _ _) rfl (wn_none rfl) rfl (fun w => (rd_move rfl rfl)) ?_
   refine GO_rdT rfl (wn_none rfl) rfl (fun w => (rd_indexS (j := i) rfl rfl rfl Try.underlying65 ts23 rfl (by omega) _ rfl)) ?_
   refine GO_rd rfl rfl (wn_none rfl) rfl hpS (fun w hp => (rd_loadN (L := bys (adA l i).1) rfl rfl Try.underlying23 rfl ts23 (aC_len _) (fun j u hj => (hI.keep hp.mod).elem aC_len i j (aC_lt hj) (adA_some (l := l) (i := i) (by omega)) hj))) ?_
   refine GO_rd rfl rfl (wn_none rfl) rfl hpS (fun w hp => (rd_bin rfl rfl rfl (bo_arrB Try.underlying23 Try.underlying5 ts5 (by kernel_rfl) (by first | exact a32_len _ | simp [*]) (by first | exact a32_len _ | simp [*])).1)) ?_
   refine GO_nil ?_
   refine GW_cond rfl (fun hb2 => ?_) (fun hb2 => ?_)
   ·(try simp only [decide_eq_true_eq, decide_eq_false_iff_not, Bool.not_eq_true', Bool.not_eq_false', Bool.not_eq_eq_eq_not, Bool.not_true, Bool.not_false, Int.not_lt, Int.not_le] at hb2)
    have heq := a32_ext hb2
    refine GW_seq ?_
    refine GW_region ?_
    refine GL_rd (v := .int _ _) (wn_none rfl) rfl (rd_move rfl rfl) ?_
    refine GL_rd (v := .int _ _) (wn_none rfl) rfl (rd_assign rfl rfl) ?_
    refine GL_nil ?_
    refine GW_ret ?_
    exact ⟨_, res1 Try.results110 (rv_tmp (v := .int _ _) rfl rfl), _, rfl, ⟨fun _ => heq ▸ mem_at (adA_some (by omega)), fun _ => by omega⟩, hp.mods⟩
   ·(try simp only [decide_eq_true_eq, decide_eq_false_iff_not, Bool.not_eq_true', Bool.not_eq_false', Bool.not_eq_eq_eq_not, Bool.not_true, Bool.not_false, Int.not_lt, Int.not_le] at hb2)
    have hne : ¬ x = adA l i := fun e => hb2 (congrArg Subtype.val e)
    refine GW_skip ?_
    refine GW_region ?_
    refine GL_rd (wn_none rfl) rfl (rd_bin rfl rfl rfl (bo_add64 (by omega))) ?_
    refine GL_rd (v := .int _ _) (wn_none rfl) rfl (rd_move rfl rfl) ?_
    refine GL_nil ?_
    have hp := ((hp.front 0 rfl).take 1)
    exact ihL0 (i + 1) _ _ (by simp only []; omega) ⟨_, slots4 rfl rfl rfl rfl, hp, by omega, fun j hj => by rcases Nat.lt_succ_iff_lt_or_eq.1 hj with h | h; exact hok j h; subst h; exact hne⟩
  ·(try simp only [decide_eq_true_eq, decide_eq_false_iff_not, Bool.not_eq_true', Bool.not_eq_false', Bool.not_eq_eq_eq_not, Bool.not_true, Bool.not_false, Int.not_lt, Int.not_le] at hb)
   refine GW_exit ?_
   refine GW_seq ?_
   refine GW_region ?_
   refine GL_rd (v := .int _ _) (wn_none rfl) rfl (rd_assign rfl rfl) ?_
   refine GL_nil ?_
   refine GW_ret ?_
   obtain rfl : m = i := by omega
   have hno : ¬ x ∈ l := fun hx => by obtain ⟨j, hj⟩ := List.getElem?_of_mem hx; have hl := (List.getElem?_eq_some_iff.1 hj).1; rw [adA_some hl] at hj; exact hok j (by omega) (Option.some.inj hj).symm
   exact ⟨_, res1 Try.results110 (rv_tmp (v := .int _ _) rfl rfl), _, rfl, ⟨fun h => absurd h (by decide), fun h => absurd h hno⟩, hp.mods⟩
 ·refine ⟨_, slots4 rfl rfl rfl rfl, hp, Nat.zero_le _, fun j hj => absurd hj (by omega)⟩
theorem sl_HasA (sv : Value) (m : Nat) (l : List A32) (x : A32) (w0 : World) (hI : Sl w0 sv 32 m (l.flatMap aC)) : Does Try.prog 77 #[sv, .agg ⟨bys x.1⟩] w0 fun v w' => v = .bool (decide (x ∈ l)) ∧ Hp w0 [] w' [] := by
 obtain ⟨A, c, rfl⟩ := sl_shape hI
 have hlm := flat_len aC_len (by decide) hI.len
 have hmle := hI.le
 refine does_of (l := [.slice A m c, .agg ⟨bys x.1⟩]) Try.func77 (by kernel_rfl) rfl Try.ntmps77 rfl rfl (by kernel_rfl) ?_
 have hp := Hp.refl w0 []
 refine GW_seq ?_
 refine GW_region ?_
 refine GL_box (wn_none rfl) rfl rfl rfl rfl hp ?_
 intro g w hp
 refine GL_rd (v := .bool _) (wn_none rfl) rfl (rd_assign rfl rfl) ?_
 refine GL_nil ?_
 refine GW_seq ?_
 refine GW_region ?_
 refine GL_rd (v := .slice _ _ _) (wn_none rfl) rfl (rd_move rfl rfl) ?_
 refine GL_rd (wn_none rfl) rfl (rd_loadC rfl rfl Try.underlying23 rfl ts23 (hp.get 0 rfl) (by first | (rw [bys_length]; first | exact a32_len _) | rfl | simp [bys_length, *])) ?_
 refine GL_call (wn_none rfl) rfl rfl (sl_IndexA _ m l x _ (hI.keep hp.mod)) rfl ?_
 rintro _ w ⟨r, rfl, hr, hk⟩
 have hp := hp.comp hk
 refine GL_rd (wn_none rfl) rfl (rd_bin rfl rfl rfl bo_geq) ?_
 refine GL_rd (v := .bool _) (wn_none rfl) rfl (rd_assign rfl rfl) ?_
 refine GL_nil ?_
 refine GW_ret ?_
 exact ⟨_, res1 Try.results77 (rv_tmp (v := .bool _) rfl rfl), by rw [decide_eq_decide.2 hr], hp.mods⟩
theorem sl_CloneS (sv : Value) (m : Nat) (l : List ByteArray) (w0 : World) (hI : Sl w0 sv 1 m (l.map Value.string)) (hm : m ≤ 65535) : Does Try.prog 80 #[sv] w0 fun v w' => Hp w0 [] w' [.row 9 1 v m (l.map Value.string)] := by
 obtain ⟨A, c, rfl⟩ := sl_shape hI
 have hlm : l.length = m := by have := hI.len; rw [List.length_map] at this; omega
 have hmle := hI.le
 refine does_of (l := [.slice A m c]) Try.func80 (by kernel_rfl) rfl Try.ntmps80 rfl rfl (by kernel_rfl) ?_
 have hp := Hp.refl w0 []
 refine GW_seq ?_
 refine GW_region ?_
 refine GL_rd (v := .slice _ _ _) (wn_none rfl) rfl (rd_assign rfl rfl) ?_
 refine GL_nil ?_
 refine GW_seq ?_
 refine GW_seq ?_
 refine GW_region ?_
 refine GL_rd (v := .slice _ _ _) (wn_none rfl) rfl (rd_move rfl rfl) ?_
 refine GL_rd (wn_none rfl) rfl (rd_bin rfl rfl rfl (bo_slnil Try.underlying29)) ?_
 refine GL_nil ?_
 refine GW_cond rfl (fun hb => ?_) (fun hb => ?_)
 ·(try simp only [decide_eq_true_eq, decide_eq_false_iff_not, Bool.not_eq_true', Bool.not_eq_false', Bool.not_eq_eq_eq_not, Bool.not_true, Bool.not_false, Int.not_lt, Int.not_le] at hb)
  have hnil := hb
  refine GW_seq ?_
  refine GW_region ?_
  refine GL_rd (v := .slice _ _ _) (wn_none rfl) rfl (rd_assign rfl rfl) ?_
  refine GL_nil ?_
  refine GW_ret ?_
  obtain rfl : A = none := Option.isNone_iff_eq_none.1 hnil
  have e0 := sl_none hI
  obtain rfl : m = 0 := by have := congrArg List.length e0; rw [List.length_map] at this; simp at this; rw [this] at hlm; exact hlm.symm
  have hp := hp.mods.nilRow 9 1
  exact ⟨_, res1 Try.results80 (rv_tmp (v := .slice _ _ _) rfl rfl), by rw [e0]; exact hp⟩
 ·(try simp only [decide_eq_true_eq, decide_eq_false_iff_not, Bool.not_eq_true', Bool.not_eq_false', Bool.not_eq_eq_eq_not, Bool.not_true, Bool.not_false, Int.not_lt, Int.not_le] at hb)
  refine GW_skip ?_
  refine GW_seq ?_
  refine GW_region ?_
  refine GL_lit (L := []) (wn_none rfl) rfl rfl Try.underlying29 ts9 tz9 rfl (by kernel_rfl) rfl rfl hp ?_
  intro g w hp
  refine GL_rd (v := .slice _ _ _) (wn_none rfl) rfl (rd_move rfl rfl) ?_
  refine GL_append (i := 0) (wn_none rfl) rfl rfl rfl rfl Try.underlying29 ti9 rfl (by decide) hp rfl (hI.keep hp.mod) (strs_one _) (by omega) (by omega) ?_
  intro v w hp
  refine GL_rd (v := v) (wn_none rfl) rfl (rd_assign rfl rfl) ?_
  refine GL_nil ?_
  refine GW_ret ?_
  have hp := ((hp.front 0 rfl).take 1)
  rw [Nat.zero_add, List.nil_append] at hp
  exact ⟨_, res1 Try.results80 (rv_tmp (v := v) rfl rfl), hp⟩
set_option maxHeartbeats 1000000 in
theorem his_next (hv : Value) (s : HS) (r : Rec) (w0 : World) (hR : (Res.row 9 1 hv (s.holds).length ((s.holds).map Value.string)).at_ w0) (hn : s.holds.length ≤ 65000) : Does Try.prog 46 #[.agg ⟨hzC hv s⟩, .agg ⟨recC r⟩] w0 fun v w' => ∃ hv', v = .agg ⟨hzC hv' (hNext s r)⟩ ∧ Hp w0 hv.ownBlock.toList w' [.row 9 1 hv' ((hNext s r).holds).length (((hNext s r).holds).map Value.string)] := by
 obtain ⟨A, c, rfl⟩ := row_shape hR
 refine does_of (l := [.agg ⟨hzC (.slice A s.holds.length c) s⟩, .agg ⟨recC r⟩]) Try.func46 (by kernel_rfl) rfl Try.ntmps46 rfl rfl (by kernel_rfl) ?_
 have hp := Hp.rowOne hR
 refine GW_seq ?_
 refine GW_region ?_
 refine GL_box (wn_none rfl) rfl rfl rfl rfl hp ?_
 intro g w hp
 refine GL_box (wn_none rfl) rfl rfl rfl rfl hp ?_
 intro g2 w hp
 refine GL_alloc (wn_none rfl) rfl rfl tz91 rfl hp ?_
 intro g3 w hp
 refine GL_nil ?_
 refine GW_seq ?_
 refine GW_seq ?_
 refine GW_region ?_
 refine GL_rd (wn_none rfl) rfl (rd_field rfl rfl fa32_0 _ rfl) ?_
 refine GL_rd (wn_none rfl) rfl (rd_load rfl rfl Try.underlying3 rfl ((cell_of_cells (hp.get 1 rfl) _).trans (rec_kind _))) ?_
 refine GL_nil ?_
 refine GW_block ?_
 refine GW_seq ?_
 refine GW_region ?_
 refine GL_rd (wn_none rfl) rfl (rd_bin rfl rfl rfl bo_eql) ?_
 refine GL_rd (v := .bool _) (wn_none rfl) rfl (rd_assign rfl rfl) ?_
 refine GL_nil ?_
 refine GW_cond rfl (fun hb => ?_) (fun hb => ?_)
 ·(try simp only [decide_eq_true_eq, decide_eq_false_iff_not, Bool.not_eq_true', Bool.not_eq_false', Bool.not_eq_eq_eq_not, Bool.not_true, Bool.not_false, Int.not_lt, Int.not_le] at hb)
  have hk3 : r.kind = 3 := hb
  refine GW_seq ?_
  refine GW_region ?_
  refine GL_rd (wn_none rfl) rfl (rd_field rfl rfl fa91_0 _ rfl) ?_
  refine GL_rd (v := .slice _ _ _) (wn_none rfl) rfl (rd_load rfl rfl Try.underlying29 rfl ((cell_of_cells (hp.get 2 rfl) _).trans rfl)) ?_
  refine GL_rd (wn_none rfl) rfl (rd_field rfl rfl fa32_4 _ rfl) ?_
  refine GL_rd (wn_none rfl) rfl (rd_load rfl rfl Try.underlying9 rfl ((cell_of_cells (hp.get 1 rfl) _).trans (rec_reason _))) ?_
  refine GL_call (wn_none rfl) rfl rfl (sl_HasS _ _ s.holds r.reason _ (Sl.row (hp.get 3 rfl))) rfl ?_
  rintro _ w ⟨rfl, hk⟩
  have hp := hp.comp hk
  refine GL_rd (wn_none rfl) rfl (rd_not rfl rfl) ?_
  refine GL_nil ?_
  refine GW_cond rfl (fun hb2 => ?_) (fun hb2 => ?_)
  ·(try simp only [decide_eq_true_eq, decide_eq_false_iff_not, Bool.not_eq_true', Bool.not_eq_false', Bool.not_eq_eq_eq_not, Bool.not_true, Bool.not_false, Int.not_lt, Int.not_le] at hb2)
   have hin : ¬ r.reason ∈ s.holds := hb2
   refine GW_drawnK 8 (.one 0 true (.one 1 true (.one 3 true (.one 4 true (.two 2 5 (.one 5 false (.one 6 false (.one 7 true (.one 8 false .nil)))) (.one 2 false (.one 6 false (.one 7 true (.one 8 false .nil))))))))) mixed (by kernel_rfl) hp (fun _ h => h) fun w hp => ?_
   have hpS := hp
   refine GO_rdT rfl (wn_none rfl) rfl (fun w => (rd_field rfl rfl fa91_0 _ rfl)) ?_
   refine GO_rd (v := .slice _ _ _) rfl rfl (wn_none rfl) rfl hpS (fun w hp => (rd_load rfl rfl Try.underlying29 rfl ((cell_of_cells (hp.get 2 rfl) _).trans rfl))) ?_
   refine GO_rdT rfl (wn_none rfl) rfl (fun w => (rd_field rfl rfl fa32_4 _ rfl)) ?_
   refine GO_rd rfl rfl (wn_none rfl) rfl hpS (fun w hp => (rd_load rfl rfl Try.underlying9 rfl ((cell_of_cells (hp.get 1 rfl) _).trans (rec_reason _)))) ?_
   refine GO_two rfl rfl ?_ ?_
   ·skip
    refine GC_of_GL ?_
    refine GL_call (wn_none rfl) rfl rfl (sl_CloneS _ _ s.holds _ (Sl.row (hp.get 3 rfl)) (by omega)) rfl ?_
    intro vs w hk
    have hp := hp.comp hk
    obtain ⟨As, cs, rfl⟩ := row_shape (hp.get 0 rfl)
    have hpS2 := (hp.sub (.cons _ (.cons_cons _ (.cons_cons _ (.cons_cons _ (.cons_cons _ .slnil))))))
    refine GL_nil ⟨fun _ => hpS2, ?_⟩
    refine GO_of_GL rfl ?_
    refine GL_lit (L := [.string r.reason]) (wn_none rfl) rfl rfl Try.underlying29 ts9 tz9 rfl (by kernel_rfl) rfl rfl hp ?_
    intro g4 w hp
    have hpS3 := (hp.sub (.cons _ (.cons _ (.cons_cons _ (.cons_cons _ (.cons_cons _ (.cons_cons _ .slnil)))))))
    refine GL_nil ⟨fun _ => hpS3, ?_⟩
    refine GO_of_GL rfl ?_
    refine GL_append (i := 1) (wn_none rfl) rfl rfl rfl rfl Try.underlying29 ti9 rfl (by decide) hp rfl (Sl.row (hp.get 0 rfl)) (one1 rfl) (by omega) (by omega) ?_
    intro v w hp
    obtain ⟨Av, cv, rfl⟩ := row_shape (hp.get 1 rfl)
    have hpS4 := (hp.sub (.cons _ (.cons _ (.cons_cons _ (.cons_cons _ (.cons_cons _ (.cons_cons _ .slnil)))))))
    refine GL_nil ⟨fun _ => hpS4, ?_⟩
    refine GO_rdT rfl (wn_none rfl) rfl (fun w => (rd_field rfl rfl fa91_0 _ rfl)) ?_
    refine GO_of_GL rfl ?_
    refine GL_store (i := 4) (wn_none rfl) rfl rfl rfl rfl ts29 rfl rfl (one1 rfl) hp rfl (by first | exact Nat.le_of_ble_eq_true rfl | simp [bys_length, *]) (show splice _ _ _ = hzC _ s from rfl) ?_
    intro w hp
    refine GL_nil ⟨fun h => absurd h (by decide), ?_⟩
    refine GO_nil ?_
    refine GW_seq ?_
    refine GW_region ?_
    refine GL_rd (wn_none rfl) rfl (rd_loadC rfl rfl Try.underlying91 rfl ts91 (hp.get 4 rfl) (by first | (rw [bys_length]; first | exact a32_len _) | rfl | simp [bys_length, *])) ?_
    refine GL_store (i := 2) (wn_none rfl) rfl rfl rfl rfl ts91 rfl rfl (oneC rfl (oneC rfl (oneC rfl (oneC rfl (oneC rfl (oneC rfl one0)))))) hp rfl (by first | exact Nat.le_of_ble_eq_true rfl | simp [bys_length, *]) rfl ?_
    intro w hp
    refine GL_nil ?_
    refine GW_ret ?_
    have en : hNext s r = _ := next_add hk3 hin
    have hp2 := ((hp.front 1 rfl).take 1)
    rw [stR_snoc] at hp2
    exact ⟨_, res1 Try.results46 (rv_cell rfl rfl Try.underlying91 rfl ts91 rfl (hp.get 2 rfl)), _, by rw [en]; first | done | rfl, by rw [en]; exact hp2⟩
   ·skip
    refine GC_of_GL ?_
    refine GL_lit (L := [.string r.reason]) (wn_none rfl) rfl rfl Try.underlying29 ts9 tz9 rfl (by kernel_rfl) rfl rfl hp ?_
    intro g5 w hp
    have hpS5 := (hp.sub (.cons _ (.cons_cons _ (.cons_cons _ (.cons_cons _ (.cons_cons _ .slnil))))))
    refine GL_nil ⟨fun _ => hpS5, ?_⟩
    refine GO_of_GL rfl ?_
    refine GL_call (wn_none rfl) rfl rfl (sl_CloneS _ _ s.holds _ (Sl.row (hp.get 4 rfl)) (by omega)) rfl ?_
    intro vs w hk
    have hp := hp.comp hk
    obtain ⟨As, cs, rfl⟩ := row_shape (hp.get 0 rfl)
    have hpS6 := (hp.sub (.cons _ (.cons _ (.cons_cons _ (.cons_cons _ (.cons_cons _ (.cons_cons _ .slnil)))))))
    refine GL_nil ⟨fun _ => hpS6, ?_⟩
    refine GO_of_GL rfl ?_
    refine GL_append (i := 0) (wn_none rfl) rfl rfl rfl rfl Try.underlying29 ti9 rfl (by decide) hp rfl (Sl.row (hp.get 1 rfl)) (one1 rfl) (by omega) (by omega) ?_
    intro v2 w hp
    obtain ⟨Av2, cv2, rfl⟩ := row_shape (hp.get 0 rfl)
    have hpS7 := (hp.sub (.cons _ (.cons _ (.cons_cons _ (.cons_cons _ (.cons_cons _ (.cons_cons _ .slnil)))))))
    refine GL_nil ⟨fun _ => hpS7, ?_⟩
    refine GO_rdT rfl (wn_none rfl) rfl (fun w => (rd_field rfl rfl fa91_0 _ rfl)) ?_
    refine GO_of_GL rfl ?_
    refine GL_store (i := 4) (wn_none rfl) rfl rfl rfl rfl ts29 rfl rfl (one1 rfl) hp rfl (by first | exact Nat.le_of_ble_eq_true rfl | simp [bys_length, *]) (show splice _ _ _ = hzC _ s from rfl) ?_
    intro w hp
    refine GL_nil ⟨fun h => absurd h (by decide), ?_⟩
    refine GO_nil ?_
    refine GW_seq ?_
    refine GW_region ?_
    refine GL_rd (wn_none rfl) rfl (rd_loadC rfl rfl Try.underlying91 rfl ts91 (hp.get 4 rfl) (by first | (rw [bys_length]; first | exact a32_len _) | rfl | simp [bys_length, *])) ?_
    refine GL_store (i := 2) (wn_none rfl) rfl rfl rfl rfl ts91 rfl rfl (oneC rfl (oneC rfl (oneC rfl (oneC rfl (oneC rfl (oneC rfl one0)))))) hp rfl (by first | exact Nat.le_of_ble_eq_true rfl | simp [bys_length, *]) rfl ?_
    intro w hp
    refine GL_nil ?_
    refine GW_ret ?_
    have en : hNext s r = _ := next_add hk3 hin
    have hp2 := ((hp.front 0 rfl).take 1)
    rw [stR_snoc] at hp2
    exact ⟨_, res1 Try.results46 (rv_cell rfl rfl Try.underlying91 rfl ts91 rfl (hp.get 2 rfl)), _, by rw [en]; first | done | rfl, by rw [en]; exact hp2⟩
  ·(try simp only [decide_eq_true_eq, decide_eq_false_iff_not, Bool.not_eq_true', Bool.not_eq_false', Bool.not_eq_eq_eq_not, Bool.not_true, Bool.not_false, Int.not_lt, Int.not_le] at hb2)
   have hin : r.reason ∈ s.holds := hb2
   refine GW_skip ?_
   refine GW_seq ?_
   refine GW_region ?_
   refine GL_rd (wn_none rfl) rfl (rd_loadC rfl rfl Try.underlying91 rfl ts91 (hp.get 2 rfl) (by first | (rw [bys_length]; first | exact a32_len _) | rfl | simp [bys_length, *])) ?_
   refine GL_store (i := 0) (wn_none rfl) rfl rfl rfl rfl ts91 rfl rfl (oneC rfl (oneC rfl (oneC rfl (oneC rfl (oneC rfl (oneC rfl one0)))))) hp rfl (by first | exact Nat.le_of_ble_eq_true rfl | simp [bys_length, *]) rfl ?_
   intro w hp
   refine GL_nil ?_
   refine GW_ret ?_
   have en : hNext s r = _ := next_in hk3 hin
   have hp2 := ((hp.front 3 rfl).take 1)
   exact ⟨_, res1 Try.results46 (rv_cell rfl rfl Try.underlying91 rfl ts91 rfl (hp.get 0 rfl)), _, by rw [en]; first | done | rfl, by rw [en]; exact hp2⟩
 ·(try simp only [decide_eq_true_eq, decide_eq_false_iff_not, Bool.not_eq_true', Bool.not_eq_false', Bool.not_eq_eq_eq_not, Bool.not_true, Bool.not_false, Int.not_lt, Int.not_le] at hb)
  have hk3 : ¬ r.kind = 3 := hb
  refine GW_seq ?_
  refine GW_region ?_
  refine GL_rd (wn_none rfl) rfl (rd_bin rfl rfl rfl bo_eql) ?_
  refine GL_rd (v := .bool _) (wn_none rfl) rfl (rd_assign rfl rfl) ?_
  refine GL_nil ?_
  refine GW_cond rfl (fun hb3 => ?_) (fun hb3 => ?_)
  ·(try simp only [decide_eq_true_eq, decide_eq_false_iff_not, Bool.not_eq_true', Bool.not_eq_false', Bool.not_eq_eq_eq_not, Bool.not_true, Bool.not_false, Int.not_lt, Int.not_le] at hb3)
   have hk4 : r.kind = 4 := hb3
   refine GW_seq ?_
   refine GW_region ?_
   refine GL_rd (wn_none rfl) rfl (rd_field rfl rfl fa91_0 _ rfl) ?_
   refine GL_rd (v := .slice _ _ _) (wn_none rfl) rfl (rd_load rfl rfl Try.underlying29 rfl ((cell_of_cells (hp.get 2 rfl) _).trans rfl)) ?_
   refine GL_rd (wn_none rfl) rfl (rd_field rfl rfl fa32_4 _ rfl) ?_
   refine GL_rd (wn_none rfl) rfl (rd_load rfl rfl Try.underlying9 rfl ((cell_of_cells (hp.get 1 rfl) _).trans (rec_reason _))) ?_
   refine GL_call (wn_none rfl) rfl rfl (sl_IndexF _ _ s.holds r.reason _ (Sl.row (hp.get 3 rfl))) rfl ?_
   rintro _ w ⟨q, rfl, hq, hk⟩
   have hp := hp.comp hk
   refine GL_rd (v := .int _ _) (wn_none rfl) rfl (rd_assign rfl rfl) ?_
   refine GL_nil ?_
   refine GW_seq ?_
   refine GW_region ?_
   refine GL_rd (v := .int _ _) (wn_none rfl) rfl (rd_move rfl rfl) ?_
   refine GL_rd (wn_none rfl) rfl (rd_bin rfl rfl rfl bo_geq) ?_
   refine GL_nil ?_
   refine GW_cond rfl (fun hb4 => ?_) (fun hb4 => ?_)
   ·(try simp only [decide_eq_true_eq, decide_eq_false_iff_not, Bool.not_eq_true', Bool.not_eq_false', Bool.not_eq_eq_eq_not, Bool.not_true, Bool.not_false, Int.not_lt, Int.not_le] at hb4)
    obtain ⟨i, rfl, hi, he, hno⟩ : ∃ i : Nat, q = (i : Int) ∧ i < s.holds.length ∧ strAt s.holds i = r.reason ∧ ∀ j, j < i → ¬ strAt s.holds j = r.reason := by rcases hq with ⟨e, _⟩ | h; exact absurd hb4 (by omega); exact h
    refine GW_region ?_
    refine GL_rd (wn_none rfl) rfl (rd_field rfl rfl fa91_0 _ rfl) ?_
    refine GL_rd (v := .slice _ _ _) (wn_none rfl) rfl (rd_load rfl rfl Try.underlying29 rfl ((cell_of_cells (hp.get 2 rfl) _).trans rfl)) ?_
    refine GL_call (wn_none rfl) rfl rfl (sl_CloneS _ _ s.holds _ (Sl.row (hp.get 3 rfl)) (by omega)) rfl ?_
    intro vs w hk
    have hp := hp.comp hk
    obtain ⟨As, cs, rfl⟩ := row_shape (hp.get 0 rfl)
    refine GL_rd (v := .int _ _) (wn_none rfl) rfl (rd_move rfl rfl) ?_
    refine GL_rd (v := .int _ _) (wn_none rfl) rfl (rd_move rfl rfl) ?_
    refine GL_rd (wn_none rfl) rfl (rd_bin rfl rfl rfl (bo_add64 (by omega))) ?_
    refine GL_call (wn_none rfl) rfl rfl (sl_DeleteS (hp.get 0 rfl) hi) rfl ?_
    intro vd w hk
    have hp := hp.turnAtMore 0 rfl hk
    obtain ⟨Ad, cd, rfl⟩ := row_shape (hp.get 0 rfl)
    refine GL_rd (wn_none rfl) rfl (rd_field rfl rfl fa91_0 _ rfl) ?_
    refine GL_store (i := 3) (wn_none rfl) rfl rfl rfl rfl ts29 rfl rfl (one1 rfl) hp rfl (by first | exact Nat.le_of_ble_eq_true rfl | simp [bys_length, *]) (show splice _ _ _ = hzC _ s from rfl) ?_
    intro w hp
    refine GL_nil ?_
    refine GW_seq ?_
    refine GW_region ?_
    refine GL_rd (wn_none rfl) rfl (rd_loadC rfl rfl Try.underlying91 rfl ts91 (hp.get 3 rfl) (by first | (rw [bys_length]; first | exact a32_len _) | rfl | simp [bys_length, *])) ?_
    refine GL_store (i := 1) (wn_none rfl) rfl rfl rfl rfl ts91 rfl rfl (oneC rfl (oneC rfl (oneC rfl (oneC rfl (oneC rfl (oneC rfl one0)))))) hp rfl (by first | exact Nat.le_of_ble_eq_true rfl | simp [bys_length, *]) rfl ?_
    intro w hp
    refine GL_nil ?_
    refine GW_ret ?_
    have en : hNext s r = _ := next_del hk4 hi he hno
    have hp2 := ((hp.front 0 rfl).take 1)
    exact ⟨_, res1 Try.results46 (rv_cell rfl rfl Try.underlying91 rfl ts91 rfl (hp.get 1 rfl)), _, by rw [en]; first | done | rfl, by rw [en]; exact hp2⟩
   ·(try simp only [decide_eq_true_eq, decide_eq_false_iff_not, Bool.not_eq_true', Bool.not_eq_false', Bool.not_eq_eq_eq_not, Bool.not_true, Bool.not_false, Int.not_lt, Int.not_le] at hb4)
    have hin : ¬ r.reason ∈ s.holds := by rcases hq with ⟨_, h⟩ | ⟨i, e, _⟩; exact h; exact absurd hb4 (by omega)
    refine GW_skip ?_
    refine GW_seq ?_
    refine GW_region ?_
    refine GL_rd (wn_none rfl) rfl (rd_loadC rfl rfl Try.underlying91 rfl ts91 (hp.get 2 rfl) (by first | (rw [bys_length]; first | exact a32_len _) | rfl | simp [bys_length, *])) ?_
    refine GL_store (i := 0) (wn_none rfl) rfl rfl rfl rfl ts91 rfl rfl (oneC rfl (oneC rfl (oneC rfl (oneC rfl (oneC rfl (oneC rfl one0)))))) hp rfl (by first | exact Nat.le_of_ble_eq_true rfl | simp [bys_length, *]) rfl ?_
    intro w hp
    refine GL_nil ?_
    refine GW_ret ?_
    have en : hNext s r = _ := next_miss hk4 hin
    have hp2 := ((hp.front 3 rfl).take 1)
    exact ⟨_, res1 Try.results46 (rv_cell rfl rfl Try.underlying91 rfl ts91 rfl (hp.get 0 rfl)), _, by rw [en]; first | done | rfl, by rw [en]; exact hp2⟩
  ·(try simp only [decide_eq_true_eq, decide_eq_false_iff_not, Bool.not_eq_true', Bool.not_eq_false', Bool.not_eq_eq_eq_not, Bool.not_true, Bool.not_false, Int.not_lt, Int.not_le] at hb3)
   have hk4 : ¬ r.kind = 4 := hb3
   refine GW_seq ?_
   refine GW_region ?_
   refine GL_rd (wn_none rfl) rfl (rd_bin rfl rfl rfl bo_eql) ?_
   refine GL_rd (v := .bool _) (wn_none rfl) rfl (rd_assign rfl rfl) ?_
   refine GL_nil ?_
   refine GW_cond rfl (fun hb5 => ?_) (fun hb5 => ?_)
   ·(try simp only [decide_eq_true_eq, decide_eq_false_iff_not, Bool.not_eq_true', Bool.not_eq_false', Bool.not_eq_eq_eq_not, Bool.not_true, Bool.not_false, Int.not_lt, Int.not_le] at hb5)
    have hk5 : r.kind = 5 := hb5
    refine GW_drawnK 6 (.one 0 true (.one 1 true (.one 2 true (.one 3 false (.one 4 true (.one 5 false .nil)))))) mixed (by kernel_rfl) hp (fun _ h => (h.sub (.cons _ (.cons_cons _ (.cons _ (.cons _ .slnil)))))) fun w hp => ?_
    have hpS8 := (hp.sub (.cons _ (.cons_cons _ (.cons _ (.cons _ .slnil)))))
    refine GO_rdT rfl (wn_none rfl) rfl (fun w => (rd_field rfl rfl fa32_1 _ rfl)) ?_
    refine GO_rd rfl rfl (wn_none rfl) rfl hpS8 (fun w hp => (rd_load rfl rfl Try.underlying3 rfl ((cell_of_cells (hp.get 0 rfl) _).trans (rec_time _)))) ?_
    refine GO_rdT rfl (wn_none rfl) rfl (fun w => (rd_field rfl rfl fa91_1 _ rfl)) ?_
    refine GO_of_GL rfl ?_
    refine GL_store (i := 2) (wn_none rfl) rfl rfl rfl rfl ts4 rfl rfl (one1 rfl) hp rfl (by first | exact Nat.le_of_ble_eq_true rfl | simp [bys_length, *]) (show splice _ _ _ = hzC (.slice A s.holds.length c) { s with fired := true } from rfl) ?_
    intro w hp
    have hpS9 := (hp.sub (.cons _ (.cons_cons _ (.cons _ (.cons _ .slnil)))))
    refine GL_nil ⟨fun _ => hpS9, ?_⟩
    refine GO_rdT rfl (wn_none rfl) rfl (fun w => (rd_field rfl rfl fa91_2 _ rfl)) ?_
    refine GO_of_GL rfl ?_
    refine GL_store (i := 2) (wn_none rfl) rfl rfl rfl rfl ts3 rfl rfl (one1 rfl) hp rfl (by first | exact Nat.le_of_ble_eq_true rfl | simp [bys_length, *]) (show splice _ _ _ = hzC (.slice A s.holds.length c) { s with fired := true, event := r.time } from rfl) ?_
    intro w hp
    have hpS10 := (hp.sub (.cons _ (.cons_cons _ (.cons _ (.cons _ .slnil)))))
    refine GL_nil ⟨fun _ => hpS10, ?_⟩
    refine GO_nil ?_
    refine GW_seq ?_
    refine GW_region ?_
    refine GL_rd (wn_none rfl) rfl (rd_loadC rfl rfl Try.underlying91 rfl ts91 (hp.get 2 rfl) (by first | (rw [bys_length]; first | exact a32_len _) | rfl | simp [bys_length, *])) ?_
    refine GL_store (i := 0) (wn_none rfl) rfl rfl rfl rfl ts91 rfl rfl (oneC rfl (oneC rfl (oneC rfl (oneC rfl (oneC rfl (oneC rfl one0)))))) hp rfl (by first | exact Nat.le_of_ble_eq_true rfl | simp [bys_length, *]) rfl ?_
    intro w hp
    refine GL_nil ?_
    refine GW_ret ?_
    have en : hNext s r = _ := next_fire hk5
    have hp2 := ((hp.front 3 rfl).take 1)
    exact ⟨_, res1 Try.results46 (rv_cell rfl rfl Try.underlying91 rfl ts91 rfl (hp.get 0 rfl)), _, by rw [en]; first | done | rfl, by rw [en]; exact hp2⟩
   ·(try simp only [decide_eq_true_eq, decide_eq_false_iff_not, Bool.not_eq_true', Bool.not_eq_false', Bool.not_eq_eq_eq_not, Bool.not_true, Bool.not_false, Int.not_lt, Int.not_le] at hb5)
    have hk5 : ¬ r.kind = 5 := hb5
    refine GW_seq ?_
    refine GW_seq ?_
    refine GW_region ?_
    refine GL_rd (wn_none rfl) rfl (rd_bin rfl rfl rfl bo_eql) ?_
    refine GL_rd (v := .bool _) (wn_none rfl) rfl (rd_assign rfl rfl) ?_
    refine GL_nil ?_
    refine GW_cond rfl (fun hb6 => ?_) (fun hb6 => ?_)
    ·(try simp only [decide_eq_true_eq, decide_eq_false_iff_not, Bool.not_eq_true', Bool.not_eq_false', Bool.not_eq_eq_eq_not, Bool.not_true, Bool.not_false, Int.not_lt, Int.not_le] at hb6)
     have hk1 : r.kind = 1 := hb6
     refine GW_skip ?_
     refine GW_cond rfl (fun hb7 => ?_) (fun hb7 => ?_)
     ·(try simp only [decide_eq_true_eq, decide_eq_false_iff_not, Bool.not_eq_true', Bool.not_eq_false', Bool.not_eq_eq_eq_not, Bool.not_true, Bool.not_false, Int.not_lt, Int.not_le] at hb7)
      refine GW_drawnK 10 (.one 0 true (.one 1 true (.one 2 true (.one 3 true (.one 4 true (.one 5 false (.one 6 true (.one 7 false (.one 8 true (.one 9 false .nil)))))))))) mixed (by kernel_rfl) hp (fun _ h => (h.sub (.cons _ (.cons_cons _ (.cons _ (.cons _ .slnil)))))) fun w hp => ?_
      have hpS11 := (hp.sub (.cons _ (.cons_cons _ (.cons _ (.cons _ .slnil)))))
      refine GO_rdT rfl (wn_none rfl) rfl (fun w => (rd_field rfl rfl fa32_2 _ rfl)) ?_
      refine GO_rd rfl rfl (wn_none rfl) rfl hpS11 (fun w hp => (rd_load rfl rfl Try.underlying9 rfl ((cell_of_cells (hp.get 0 rfl) _).trans (rec_actor _)))) ?_
      refine GO_rdT rfl (wn_none rfl) rfl (fun w => (rd_field rfl rfl fa32_4 _ rfl)) ?_
      refine GO_rd rfl rfl (wn_none rfl) rfl hpS11 (fun w hp => (rd_load rfl rfl Try.underlying9 rfl ((cell_of_cells (hp.get 0 rfl) _).trans (rec_reason _)))) ?_
      refine GO_rdT rfl (wn_none rfl) rfl (fun w => (rd_field rfl rfl fa91_3 _ rfl)) ?_
      refine GO_of_GL rfl ?_
      refine GL_store (i := 2) (wn_none rfl) rfl rfl rfl rfl ts4 rfl rfl (one1 rfl) hp rfl (by first | exact Nat.le_of_ble_eq_true rfl | simp [bys_length, *]) (show splice _ _ _ = hzC (.slice A s.holds.length c) { s with gone := true } from rfl) ?_
      intro w hp
      have hpS12 := (hp.sub (.cons _ (.cons_cons _ (.cons _ (.cons _ .slnil)))))
      refine GL_nil ⟨fun _ => hpS12, ?_⟩
      refine GO_rdT rfl (wn_none rfl) rfl (fun w => (rd_field rfl rfl fa91_4 _ rfl)) ?_
      refine GO_of_GL rfl ?_
      refine GL_store (i := 2) (wn_none rfl) rfl rfl rfl rfl ts9 rfl rfl (one1 rfl) hp rfl (by first | exact Nat.le_of_ble_eq_true rfl | simp [bys_length, *]) (show splice _ _ _ = hzC (.slice A s.holds.length c) { s with gone := true, actor := r.actor } from rfl) ?_
      intro w hp
      have hpS13 := (hp.sub (.cons _ (.cons_cons _ (.cons _ (.cons _ .slnil)))))
      refine GL_nil ⟨fun _ => hpS13, ?_⟩
      refine GO_rdT rfl (wn_none rfl) rfl (fun w => (rd_field rfl rfl fa91_5 _ rfl)) ?_
      refine GO_of_GL rfl ?_
      refine GL_store (i := 2) (wn_none rfl) rfl rfl rfl rfl ts9 rfl rfl (one1 rfl) hp rfl (by first | exact Nat.le_of_ble_eq_true rfl | simp [bys_length, *]) (show splice _ _ _ = hzC (.slice A s.holds.length c) { s with gone := true, actor := r.actor, reason := r.reason } from rfl) ?_
      intro w hp
      have hpS14 := (hp.sub (.cons _ (.cons_cons _ (.cons _ (.cons _ .slnil)))))
      refine GL_nil ⟨fun _ => hpS14, ?_⟩
      refine GO_nil ?_
      refine GW_seq ?_
      refine GW_region ?_
      refine GL_rd (wn_none rfl) rfl (rd_loadC rfl rfl Try.underlying91 rfl ts91 (hp.get 2 rfl) (by first | (rw [bys_length]; first | exact a32_len _) | rfl | simp [bys_length, *])) ?_
      refine GL_store (i := 0) (wn_none rfl) rfl rfl rfl rfl ts91 rfl rfl (oneC rfl (oneC rfl (oneC rfl (oneC rfl (oneC rfl (oneC rfl one0)))))) hp rfl (by first | exact Nat.le_of_ble_eq_true rfl | simp [bys_length, *]) rfl ?_
      intro w hp
      refine GL_nil ?_
      refine GW_ret ?_
      have en : hNext s r = _ := next_gone (.inl hk1)
      have hp2 := ((hp.front 3 rfl).take 1)
      exact ⟨_, res1 Try.results46 (rv_cell rfl rfl Try.underlying91 rfl ts91 rfl (hp.get 0 rfl)), _, by rw [en]; first | done | rfl, by rw [en]; exact hp2⟩
     ·(try simp only [decide_eq_true_eq, decide_eq_false_iff_not, Bool.not_eq_true', Bool.not_eq_false', Bool.not_eq_eq_eq_not, Bool.not_true, Bool.not_false, Int.not_lt, Int.not_le] at hb7)
      exact absurd hk1 hb7
    ·(try simp only [decide_eq_true_eq, decide_eq_false_iff_not, Bool.not_eq_true', Bool.not_eq_false', Bool.not_eq_eq_eq_not, Bool.not_true, Bool.not_false, Int.not_lt, Int.not_le] at hb6)
     have hk1 : ¬ r.kind = 1 := hb6
     refine GW_region ?_
     refine GL_rd (wn_none rfl) rfl (rd_bin rfl rfl rfl bo_eql) ?_
     refine GL_rd (v := .bool _) (wn_none rfl) rfl (rd_assign rfl rfl) ?_
     refine GL_nil ?_
     refine GW_cond rfl (fun hb8 => ?_) (fun hb8 => ?_)
     ·(try simp only [decide_eq_true_eq, decide_eq_false_iff_not, Bool.not_eq_true', Bool.not_eq_false', Bool.not_eq_eq_eq_not, Bool.not_true, Bool.not_false, Int.not_lt, Int.not_le] at hb8)
      have hk2 : r.kind = 2 := hb8
      refine GW_drawnK 10 (.one 0 true (.one 1 true (.one 2 true (.one 3 true (.one 4 true (.one 5 false (.one 6 true (.one 7 false (.one 8 true (.one 9 false .nil)))))))))) mixed (by kernel_rfl) hp (fun _ h => (h.sub (.cons _ (.cons_cons _ (.cons _ (.cons _ .slnil)))))) fun w hp => ?_
      have hpS15 := (hp.sub (.cons _ (.cons_cons _ (.cons _ (.cons _ .slnil)))))
      refine GO_rdT rfl (wn_none rfl) rfl (fun w => (rd_field rfl rfl fa32_2 _ rfl)) ?_
      refine GO_rd rfl rfl (wn_none rfl) rfl hpS15 (fun w hp => (rd_load rfl rfl Try.underlying9 rfl ((cell_of_cells (hp.get 0 rfl) _).trans (rec_actor _)))) ?_
      refine GO_rdT rfl (wn_none rfl) rfl (fun w => (rd_field rfl rfl fa32_4 _ rfl)) ?_
      refine GO_rd rfl rfl (wn_none rfl) rfl hpS15 (fun w hp => (rd_load rfl rfl Try.underlying9 rfl ((cell_of_cells (hp.get 0 rfl) _).trans (rec_reason _)))) ?_
      refine GO_rdT rfl (wn_none rfl) rfl (fun w => (rd_field rfl rfl fa91_3 _ rfl)) ?_
      refine GO_of_GL rfl ?_
      refine GL_store (i := 2) (wn_none rfl) rfl rfl rfl rfl ts4 rfl rfl (one1 rfl) hp rfl (by first | exact Nat.le_of_ble_eq_true rfl | simp [bys_length, *]) (show splice _ _ _ = hzC (.slice A s.holds.length c) { s with gone := true } from rfl) ?_
      intro w hp
      have hpS16 := (hp.sub (.cons _ (.cons_cons _ (.cons _ (.cons _ .slnil)))))
      refine GL_nil ⟨fun _ => hpS16, ?_⟩
      refine GO_rdT rfl (wn_none rfl) rfl (fun w => (rd_field rfl rfl fa91_4 _ rfl)) ?_
      refine GO_of_GL rfl ?_
      refine GL_store (i := 2) (wn_none rfl) rfl rfl rfl rfl ts9 rfl rfl (one1 rfl) hp rfl (by first | exact Nat.le_of_ble_eq_true rfl | simp [bys_length, *]) (show splice _ _ _ = hzC (.slice A s.holds.length c) { s with gone := true, actor := r.actor } from rfl) ?_
      intro w hp
      have hpS17 := (hp.sub (.cons _ (.cons_cons _ (.cons _ (.cons _ .slnil)))))
      refine GL_nil ⟨fun _ => hpS17, ?_⟩
      refine GO_rdT rfl (wn_none rfl) rfl (fun w => (rd_field rfl rfl fa91_5 _ rfl)) ?_
      refine GO_of_GL rfl ?_
      refine GL_store (i := 2) (wn_none rfl) rfl rfl rfl rfl ts9 rfl rfl (one1 rfl) hp rfl (by first | exact Nat.le_of_ble_eq_true rfl | simp [bys_length, *]) (show splice _ _ _ = hzC (.slice A s.holds.length c) { s with gone := true, actor := r.actor, reason := r.reason } from rfl) ?_
      intro w hp
      have hpS18 := (hp.sub (.cons _ (.cons_cons _ (.cons _ (.cons _ .slnil)))))
      refine GL_nil ⟨fun _ => hpS18, ?_⟩
      refine GO_nil ?_
      refine GW_seq ?_
      refine GW_region ?_
      refine GL_rd (wn_none rfl) rfl (rd_loadC rfl rfl Try.underlying91 rfl ts91 (hp.get 2 rfl) (by first | (rw [bys_length]; first | exact a32_len _) | rfl | simp [bys_length, *])) ?_
      refine GL_store (i := 0) (wn_none rfl) rfl rfl rfl rfl ts91 rfl rfl (oneC rfl (oneC rfl (oneC rfl (oneC rfl (oneC rfl (oneC rfl one0)))))) hp rfl (by first | exact Nat.le_of_ble_eq_true rfl | simp [bys_length, *]) rfl ?_
      intro w hp
      refine GL_nil ?_
      refine GW_ret ?_
      have en : hNext s r = _ := next_gone (.inr hk2)
      have hp2 := ((hp.front 3 rfl).take 1)
      exact ⟨_, res1 Try.results46 (rv_cell rfl rfl Try.underlying91 rfl ts91 rfl (hp.get 0 rfl)), _, by rw [en]; first | done | rfl, by rw [en]; exact hp2⟩
     ·(try simp only [decide_eq_true_eq, decide_eq_false_iff_not, Bool.not_eq_true', Bool.not_eq_false', Bool.not_eq_eq_eq_not, Bool.not_true, Bool.not_false, Int.not_lt, Int.not_le] at hb8)
      have hk2 : ¬ r.kind = 2 := hb8
      refine GW_skip ?_
      refine GW_seq ?_
      refine GW_region ?_
      refine GL_rd (wn_none rfl) rfl (rd_loadC rfl rfl Try.underlying91 rfl ts91 (hp.get 2 rfl) (by first | (rw [bys_length]; first | exact a32_len _) | rfl | simp [bys_length, *])) ?_
      refine GL_store (i := 0) (wn_none rfl) rfl rfl rfl rfl ts91 rfl rfl (oneC rfl (oneC rfl (oneC rfl (oneC rfl (oneC rfl (oneC rfl one0)))))) hp rfl (by first | exact Nat.le_of_ble_eq_true rfl | simp [bys_length, *]) rfl ?_
      intro w hp
      refine GL_nil ?_
      refine GW_ret ?_
      have en : hNext s r = _ := next_other hk3 hk4 hk5 (fun q => q.elim hk1 hk2)
      have hp2 := ((hp.front 3 rfl).take 1)
      exact ⟨_, res1 Try.results46 (rv_cell rfl rfl Try.underlying91 rfl ts91 rfl (hp.get 0 rfl)), _, by rw [en]; first | done | rfl, by rw [en]; exact hp2⟩
theorem his_Until (sv : Value) (m : Nat) (l : List Rec) (t : Int) (w0 : World) (hI : Sl w0 sv 100 m (l.flatMap recC)) : Does Try.prog 40 #[sv, .int .i64 t] w0 fun v w' => ∃ ga gb, v = .func (.func 75) #[] #[.pointer (some ⟨ga, 0, none⟩), .pointer (some ⟨gb, 0, none⟩)] ∧ Hp w0 [] w' [cells ga 22 [sv], cells gb 3 [.int .i64 t]] := by
 obtain ⟨A, c, rfl⟩ := sl_shape hI
 have hlm := Sl.recs hI
 have hmle := hI.le
 refine does_of (l := [.slice A m c, .int .i64 t]) Try.func40 (by kernel_rfl) rfl Try.ntmps40 rfl rfl (by kernel_rfl) ?_
 have hp := Hp.refl w0 []
 refine GW_seq ?_
 refine GW_region ?_
 refine GL_box (wn_none rfl) rfl rfl rfl rfl hp ?_
 intro g w hp
 refine GL_box (wn_none rfl) rfl rfl rfl rfl hp ?_
 intro g2 w hp
 refine GL_rd (v := _) (wn_none rfl) rfl (rd_assign rfl rfl) ?_
 refine GL_nil ?_
 refine GW_seq ?_
 refine GW_region ?_
 refine GL_rd (wn_none rfl) rfl (rd_closure (caps := #[.pointer (some ⟨g, 0, none⟩), .pointer (some ⟨g2, 0, none⟩)]) rfl rfl) ?_
 refine GL_rd (v := .func _ _ _) (wn_none rfl) rfl (rd_assign rfl rfl) ?_
 refine GL_nil ?_
 refine GW_ret ?_
 have hp := (((hp.front 0 rfl).front 1 rfl).take 2)
 exact ⟨_, res1 Try.results40 (rv_tmp (v := .func _ _ _) rfl rfl), _, _, rfl, hp⟩
theorem his_Iter (sv : Value) (m : Nat) (l : List Rec) (t : Int) (ga gb : Nat) : Iter Try.prog 75 [.pointer (some ⟨ga, 0, none⟩), .pointer (some ⟨gb, 0, none⟩)] (fun r : Rec => #[.agg ⟨recC r⟩]) (l.filter (uT t)) (OwnU 22 3 sv m l t ga gb) := by
 intro yl J X w0 hJ hX hO h0 hy
 obtain ⟨o1, o2, hI⟩ := hO _ _ h0
 obtain ⟨A, c, rfl⟩ := sl_shape hI
 have hlm := Sl.recs hI
 have hmle := hI.le
 refine does_of (l := [yv yl, .pointer (some ⟨ga, 0, none⟩), .pointer (some ⟨gb, 0, none⟩)]) Try.func75 (by kernel_rfl) rfl Try.ntmps75 rfl rfl (by kernel_rfl) ?_
 have hp := Hp.refl w0 []
 refine GW_seq ?_
 refine GW_region ?_
 refine GL_rd (v := .slice _ _ _) (wn_none rfl) rfl (rd_load rfl rfl Try.underlying22 rfl ((cell_of_cells (cells.keep o1 hp.mod) _).trans rfl)) ?_
 refine GL_rd (wn_none rfl) rfl (rd_len rfl rfl Try.underlying22) ?_
 refine GL_rd (v := .int _ _) (wn_none rfl) rfl (rd_move rfl rfl) ?_
 refine GL_nil ?_
 refine GW_block ?_
 refine GW_loop ?_
 refine Lp_ind (α := Nat) (fun a_0 f_0 w' => match a_0 with | i => ∃ fz, f_0 = (upd (upd (upd (upd (upd fz 0 (yv yl)) 2 (.pointer (some ⟨gb, 0, none⟩))) 6 (.slice A m c)) 7 (.int .i64 (m : Int))) 8 (.int .i64 (i : Int))) ∧ Hp w' [] w' [] ∧ (i ≤ m) ∧ (J ((l.take i).filter (uT t)) w')) (fun a_0 => match a_0 with | i => m - i) ?_ 0 _ _ ?_
 ·rintro i f wz ⟨fz, rfl, hp, hi0, hj⟩ ihL0
  obtain ⟨o1, o2, hI⟩ := hO _ _ hj
  refine Lp_round ?_
  refine GW_seq ?_
  refine GW_region ?_
  refine GL_rd (wn_none rfl) rfl (rd_bin rfl rfl rfl bo_lss) ?_
  refine GL_nil ?_
  refine GW_seq ?_
  refine GW_cond rfl (fun hb => ?_) (fun hb => ?_)
  ·(try simp only [decide_eq_true_eq, decide_eq_false_iff_not, Bool.not_eq_true', Bool.not_eq_false', Bool.not_eq_eq_eq_not, Bool.not_true, Bool.not_false, Int.not_lt, Int.not_le] at hb)
   obtain ⟨gA, bA, rfl⟩ := hI.addr (by rw [flat_length recC_len]; omega)
   refine GW_skip ?_
   refine GW_seq ?_
   refine GW_block ?_
   refine GW_seq ?_
   refine GW_region ?_
   refine GL_rd (wn_none rfl) rfl (rd_indexS (j := i) rfl rfl rfl Try.underlying22 ts32 rfl (by omega) _ rfl) ?_
   refine GL_rd (wn_none rfl) rfl (rd_loadN (L := recC _) rfl rfl Try.underlying32 rfl ts32 (recC_len _) (fun jq u hj => Sl.recE (hI.keep hp.mod) i (by first | omega | assumption | exact Nat.lt_succ_self _) hj)) ?_
   refine GL_alloc (wn_none rfl) rfl rfl tz32 rfl hp ?_
   intro g w hp
   refine GL_store (i := 0) (wn_none rfl) rfl rfl rfl rfl ts32 rfl (recC_len _) (recC_one _) hp rfl (by first | exact Nat.le_of_ble_eq_true rfl | (rw [recC_len]; decide)) (splice_all _ _ (by first | rw [recC_len, recC_len] | (rw [recC_len]; rfl))) ?_
   intro w hp
   refine GL_nil ?_
   refine GW_seq ?_
   refine GW_regionY ?_
   refine GLY_of rfl ?_
   refine GL_rd (wn_none rfl) rfl (rd_field rfl rfl fa32_1 _ rfl) ?_
   refine GL_nil ?_
   refine GLY_of rfl ?_
   refine GL_rd (wn_none rfl) rfl (rd_load rfl rfl Try.underlying3 rfl ((cell_of_cells (hp.get 0 rfl) _).trans (rec_time _))) ?_
   refine GL_nil ?_
   refine GLY_of rfl ?_
   refine GL_rd (wn_none rfl) rfl (rd_load rfl rfl Try.underlying3 rfl ((cell_of_cells (cells.keep o2 hp.mod) _).trans rfl)) ?_
   refine GL_nil ?_
   refine GLY_of rfl ?_
   refine GL_rd (wn_none rfl) rfl (rd_bin rfl rfl rfl bo_leq) ?_
   refine GL_nil ?_
   refine GLY_of rfl ?_
   refine GL_rd (v := .bool _) (wn_none rfl) rfl (rd_move rfl rfl) ?_
   refine GL_nil ?_
   refine GLY_split (t := 16) (b := _) rfl ?_ ?_
   ·intro hb2; (try simp only [decide_eq_true_eq, decide_eq_false_iff_not, Bool.not_eq_true', Bool.not_eq_false', Bool.not_eq_eq_eq_not, Bool.not_true, Bool.not_false, Int.not_lt, Int.not_le] at hb2)
    have ht : (recAt l i).time ≤ t := hb2
    refine GLY_of rfl ?_
    refine GL_rd (v := (yv yl)) (wn_on rfl rfl rfl rfl) rfl (rd_move rfl rfl) ?_
    refine GL_nil ?_
    refine GLY_of rfl ?_
    refine GL_rd (wn_on rfl rfl rfl rfl) rfl (rd_loadC rfl rfl Try.underlying32 rfl ts32 (hp.get 0 rfl) (recC_len _)) ?_
    refine GL_nil ?_
    refine GLY_yield (wn_on rfl rfl rfl rfl) rfl rfl rfl rfl (hy _ (recAt l i) _ _ (filt_mid (recAt_some (by omega)) (decide_eq_true ht)) (hJ _ _ _ hj hp.mod)) ?_
    intro b w hJb
    have hp := Hp.refl w []
    refine GLY_of rfl ?_
    refine GL_rd (wn_on rfl rfl rfl rfl) rfl (rd_not rfl rfl) ?_
    refine GL_nil ?_
    refine GLY_of rfl ?_
    refine GL_rd (v := .bool _) (wn_none rfl) rfl (rd_pickT rfl rfl rfl) ?_
    refine GL_nil ?_
    refine GLY_nil ?_
    refine GW_cond rfl (fun hb3 => ?_) (fun hb3 => ?_)
    ·(try simp only [decide_eq_true_eq, decide_eq_false_iff_not, Bool.not_eq_true', Bool.not_eq_false', Bool.not_eq_eq_eq_not, Bool.not_true, Bool.not_false, Int.not_lt, Int.not_le] at hb3)
     have hbf : b = false := by simpa using hb3
     subst hbf
     refine GW_ret ?_
     exact ⟨_, res0 Try.results75 , .inr hJb⟩
    ·(try simp only [decide_eq_true_eq, decide_eq_false_iff_not, Bool.not_eq_true', Bool.not_eq_false', Bool.not_eq_eq_eq_not, Bool.not_true, Bool.not_false, Int.not_lt, Int.not_le] at hb3)
     have hbf : b = true := by simpa using hb3
     subst hbf
     refine GW_skip ?_
     refine GW_region ?_
     refine GL_rd (wn_none rfl) rfl (rd_bin rfl rfl rfl (bo_add64 (by omega))) ?_
     refine GL_rd (v := .int _ _) (wn_none rfl) rfl (rd_move rfl rfl) ?_
     refine GL_nil ?_
     exact ihL0 (i + 1) _ _ (by simp only []; omega) ⟨_, slots5 rfl rfl rfl rfl rfl, hp, by omega, by rw [filt_yes (recAt_some (by omega)) (decide_eq_true ht)]; exact hJb⟩
   ·intro hb2; (try simp only [decide_eq_true_eq, decide_eq_false_iff_not, Bool.not_eq_true', Bool.not_eq_false', Bool.not_eq_eq_eq_not, Bool.not_true, Bool.not_false, Int.not_lt, Int.not_le] at hb2)
    have ht : ¬ (recAt l i).time ≤ t := by have := hb2; omega
    refine GLY_of rfl ?_
    refine GL_pass (nw_off rfl rfl rfl rfl rfl) rfl ?_
    refine GL_nil ?_
    refine GLY_of rfl ?_
    refine GL_pass (nw_off rfl rfl rfl rfl rfl) rfl ?_
    refine GL_nil ?_
    refine GLY_of rfl ?_
    refine GL_pass (nw_off rfl rfl rfl rfl rfl) rfl ?_
    refine GL_nil ?_
    refine GLY_of rfl ?_
    refine GL_pass (nw_off rfl rfl rfl rfl rfl) rfl ?_
    refine GL_nil ?_
    refine GLY_of rfl ?_
    refine GL_rd (v := .bool _) (wn_none rfl) rfl (rd_pickF rfl rfl rfl) ?_
    refine GL_nil ?_
    refine GLY_nil ?_
    refine GW_false rfl ?_
    refine GW_skip ?_
    refine GW_region ?_
    refine GL_rd (wn_none rfl) rfl (rd_bin rfl rfl rfl (bo_add64 (by omega))) ?_
    refine GL_rd (v := .int _ _) (wn_none rfl) rfl (rd_move rfl rfl) ?_
    refine GL_nil ?_
    have hj2 := hJ _ _ _ hj hp.mod
    have hp := hp.here
    exact ihL0 (i + 1) _ _ (by simp only []; omega) ⟨_, slots5 rfl rfl rfl rfl rfl, hp, by omega, by rw [filt_none (recAt_some (by omega)) (decide_eq_false ht)]; exact hj2⟩
  ·(try simp only [decide_eq_true_eq, decide_eq_false_iff_not, Bool.not_eq_true', Bool.not_eq_false', Bool.not_eq_eq_eq_not, Bool.not_true, Bool.not_false, Int.not_lt, Int.not_le] at hb)
   refine GW_exit ?_
   obtain rfl : m = i := by omega
   exact ⟨_, res0 Try.results75 , .inl (by rw [List.take_of_length_le (by omega)] at hj; exact hj)⟩
 ·have hj0 := hJ _ _ _ h0 hp.mod
  have hp := hp.here
  refine ⟨_, slots5 rfl rfl rfl rfl rfl, hp, Nat.zero_le _, hj0⟩
end Go.Proofs.Ytdbkmpnknkldlaa
