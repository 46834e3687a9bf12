/- Walks of functions of the program. -/
import Derived.Test.YtblpmjbddpadcaaZFDig
import Derived.Test.YtblpmjbddpadcaaZFSeal
import Derived.Test.YtblpmjbddpadcaaZFName
import Derived.Test.YtblpmjbddpadcaaZBinS
set_option linter.unusedVariables false
set_option linter.unusedSimpArgs false
namespace Go.Proofs.Ytblpmjbddpadcaa
open Go.Mo Go.RowKit
theorem sl_IndexS (sv : Value) (m : Nat) (l : List ByteArray) (x : ByteArray) (w0 : World) (hI : Sl w0 sv 1 m (l.map Value.string)) : Does Try.prog 174 #[sv, .string x] w0 fun v w' => ∃ r : Int, v = .int .i64 r ∧ (0 ≤ r ↔ x ∈ l) ∧ Hp w0 [] w' [] := by
 obtain ⟨A, c, rfl⟩ := sl_shape hI
 have hlm : l.length = m := by have := hI.len; rw [List.length_map] at this; omega
 have hmle := hI.le
 refine does_of (l := [.slice A m c, .string x]) Try.func174 (by kernel_rfl) rfl Try.ntmps174 rfl rfl ?_
 have hp := Hp.refl w0 []
 refine GW_seq ?_
 refine GW_region ?_
 refine GL_rd (v := .int _ _) (wn_none rfl) rfl (rd_assign rfl rfl) ?_
 refine GL_nil ?_
 refine GW_seq ?_
 refine GW_seq ?_
 refine GW_region ?_
 refine GL_rd (v := .slice _ _ _) (wn_none rfl) rfl (rd_move rfl rfl) ?_
 refine GL_rd (wn_none rfl) rfl (rd_len rfl rfl Try.underlying40) ?_
 refine GL_rd (v := .int _ _) (wn_none rfl) rfl (rd_move rfl rfl) ?_
 refine GL_nil ?_
 refine GW_block ?_
 refine GW_loop ?_
 refine Lp_ind (α := Nat) (fun a_0 f_0 w' => match a_0 with | i => ∃ fz, f_0 = (upd (upd (upd (upd fz 0 (.slice A m c)) 1 (.string x)) 7 (.int .i64 (m : Int))) 8 (.int .i64 (i : Int))) ∧ Hp w0 [] w' [] ∧ (i ≤ m) ∧ (∀ j, j < i → j < l.length → ¬ strAt l j = x)) (fun a_0 => match a_0 with | i => m - i) ?_ 0 _ _ ?_
 ·rintro i f wz ⟨fz, rfl, hp, hi0, hok⟩ ihL0
  refine Lp_round ?_
  refine GW_seq ?_
  refine GW_region ?_
  refine GL_rd (wn_none rfl) rfl (rd_bin rfl rfl rfl bo_lss) ?_
  refine GL_nil ?_
  refine GW_seq ?_
  refine GW_cond rfl (fun hb => ?_) (fun hb => ?_)
  ·(try simp only [decide_eq_true_eq, decide_eq_false_iff_not, Bool.not_eq_true', Bool.not_eq_false', Bool.not_eq_eq_eq_not, Bool.not_true, Bool.not_false, Int.not_lt, Int.not_le] at hb)
   obtain ⟨gA, bA, rfl⟩ := hI.addr (by rw [List.length_map]; omega)
   refine GW_skip ?_
   refine GW_seq ?_
   refine GW_block ?_
   refine GW_seq ?_
   refine GW_region ?_
   refine GL_rd (v := .int _ _) (wn_none rfl) rfl (rd_move rfl rfl) ?_
   refine GL_rd (v := .int _ _) (wn_none rfl) rfl (rd_assign rfl rfl) ?_
   refine GL_nil ?_
   refine GW_seq ?_
   refine GW_region ?_
   refine GL_rd (v := .string _) (wn_none rfl) rfl (rd_move rfl rfl) ?_
   refine GL_rd (v := .slice _ _ _) (wn_none rfl) rfl (rd_move rfl rfl) ?_
   refine GL_rd (v := .int _ _) (wn_none rfl) rfl (rd_move rfl rfl) ?_
   refine GL_rd (wn_none rfl) rfl (rd_indexS (j := i) rfl rfl rfl Try.underlying40 ts9 rfl (by omega) _ rfl) ?_
   refine GL_rd (wn_none rfl) rfl (rd_load rfl rfl Try.underlying9 rfl ((hI.keep hp.mod).get _ _ (strAt_cell (by omega)))) ?_
   refine GL_rd (wn_none rfl) rfl (rd_bin rfl rfl rfl bo_seql) ?_
   refine GL_nil ?_
   refine GW_cond rfl (fun hb2 => ?_) (fun hb2 => ?_)
   ·(try simp only [decide_eq_true_eq, decide_eq_false_iff_not, Bool.not_eq_true', Bool.not_eq_false', Bool.not_eq_eq_eq_not, Bool.not_true, Bool.not_false, Int.not_lt, Int.not_le] at hb2)
    have heq := hb2
    refine GW_seq ?_
    refine GW_region ?_
    refine GL_rd (v := .int _ _) (wn_none rfl) rfl (rd_move rfl rfl) ?_
    refine GL_rd (v := .int _ _) (wn_none rfl) rfl (rd_assign rfl rfl) ?_
    refine GL_nil ?_
    refine GW_ret ?_
    exact ⟨_, res1 Try.results174 (rv_tmp (v := .int _ _) rfl rfl), _, rfl, ⟨fun _ => by rw [heq]; exact mem_at (strAt_some (by omega)), fun _ => by omega⟩, hp⟩
   ·(try simp only [decide_eq_true_eq, decide_eq_false_iff_not, Bool.not_eq_true', Bool.not_eq_false', Bool.not_eq_eq_eq_not, Bool.not_true, Bool.not_false, Int.not_lt, Int.not_le] at hb2)
    have hne := hb2
    refine GW_skip ?_
    refine GW_region ?_
    refine GL_rd (wn_none rfl) rfl (rd_bin rfl rfl rfl (bo_add64 (by omega))) ?_
    refine GL_rd (v := .int _ _) (wn_none rfl) rfl (rd_move rfl rfl) ?_
    refine GL_nil ?_
    exact ihL0 (i + 1) _ _ (by simp only []; omega) ⟨_, slots4 rfl rfl rfl rfl, hp, by omega, fun j hj hl => by rcases Nat.lt_succ_iff_lt_or_eq.1 hj with h | h; exact hok j h hl; subst h; exact fun e => hne e.symm⟩
  ·(try simp only [decide_eq_true_eq, decide_eq_false_iff_not, Bool.not_eq_true', Bool.not_eq_false', Bool.not_eq_eq_eq_not, Bool.not_true, Bool.not_false, Int.not_lt, Int.not_le] at hb)
   refine GW_exit ?_
   refine GW_seq ?_
   refine GW_region ?_
   refine GL_rd (v := .int _ _) (wn_none rfl) rfl (rd_assign rfl rfl) ?_
   refine GL_nil ?_
   refine GW_ret ?_
   obtain rfl : m = i := by omega
   have hno := no_take_str (i := m) hok
   rw [List.take_of_length_le (by omega)] at hno
   exact ⟨_, res1 Try.results174 (rv_tmp (v := .int _ _) rfl rfl), _, rfl, ⟨fun h => absurd h (by decide), fun h => absurd h hno⟩, hp⟩
 ·refine ⟨_, slots4 rfl rfl rfl rfl, hp, Nat.zero_le _, fun j hj => absurd hj (by omega)⟩
theorem sl_ContainsS (sv : Value) (m : Nat) (l : List ByteArray) (x : ByteArray) (w0 : World) (hI : Sl w0 sv 1 m (l.map Value.string)) : Does Try.prog 149 #[sv, .string x] w0 fun v w' => v = .bool (decide (x ∈ l)) ∧ Hp w0 [] w' [] := by
 obtain ⟨A, c, rfl⟩ := sl_shape hI
 have hlm : l.length = m := by have := hI.len; rw [List.length_map] at this; omega
 have hmle := hI.le
 refine does_of (l := [.slice A m c, .string x]) Try.func149 (by kernel_rfl) rfl Try.ntmps149 rfl rfl ?_
 have hp := Hp.refl w0 []
 refine GW_seq ?_
 refine GW_region ?_
 refine GL_rd (v := .bool _) (wn_none rfl) rfl (rd_assign rfl rfl) ?_
 refine GL_nil ?_
 refine GW_seq ?_
 refine GW_region ?_
 refine GL_rd (v := .slice _ _ _) (wn_none rfl) rfl (rd_move rfl rfl) ?_
 refine GL_rd (v := .string _) (wn_none rfl) rfl (rd_move rfl rfl) ?_
 refine GL_call (wn_none rfl) rfl rfl (sl_IndexS _ m l x _ (hI.keep hp.mod)) rfl ?_
 rintro _ w ⟨r, rfl, hr, hk⟩
 have hp := hp.comp hk
 refine GL_rd (wn_none rfl) rfl (rd_bin rfl rfl rfl bo_geq) ?_
 refine GL_rd (v := .bool _) (wn_none rfl) rfl (rd_assign rfl rfl) ?_
 refine GL_nil ?_
 refine GW_ret ?_
 exact ⟨_, res1 Try.results149 (rv_tmp (v := .bool _) rfl rfl), by rw [decide_eq_decide.2 hr], hp⟩
theorem sl_IndexI (sv : Value) (m : Nat) (l : List Int) (x : Int) (w0 : World) (hI : Sl w0 sv 1 m (l.map (Value.int .i64))) : Does Try.prog 186 #[sv, .int .i64 x] w0 fun v w' => ∃ r : Int, v = .int .i64 r ∧ (0 ≤ r ↔ x ∈ l) ∧ Hp w0 [] w' [] := by
 obtain ⟨A, c, rfl⟩ := sl_shape hI
 have hlm : l.length = m := by have := hI.len; rw [List.length_map] at this; omega
 have hmle := hI.le
 refine does_of (l := [.slice A m c, .int .i64 x]) Try.func186 (by kernel_rfl) rfl Try.ntmps186 rfl rfl ?_
 have hp := Hp.refl w0 []
 refine GW_seq ?_
 refine GW_region ?_
 refine GL_rd (v := .int _ _) (wn_none rfl) rfl (rd_assign rfl rfl) ?_
 refine GL_nil ?_
 refine GW_seq ?_
 refine GW_seq ?_
 refine GW_region ?_
 refine GL_rd (v := .slice _ _ _) (wn_none rfl) rfl (rd_move rfl rfl) ?_
 refine GL_rd (wn_none rfl) rfl (rd_len rfl rfl Try.underlying32) ?_
 refine GL_rd (v := .int _ _) (wn_none rfl) rfl (rd_move rfl rfl) ?_
 refine GL_nil ?_
 refine GW_block ?_
 refine GW_loop ?_
 refine Lp_ind (α := Nat) (fun a_0 f_0 w' => match a_0 with | i => ∃ fz, f_0 = (upd (upd (upd (upd fz 0 (.slice A m c)) 1 (.int .i64 x)) 7 (.int .i64 (m : Int))) 8 (.int .i64 (i : Int))) ∧ Hp w0 [] w' [] ∧ (i ≤ m) ∧ (∀ j, j < i → j < l.length → ¬ intAt l j = x)) (fun a_0 => match a_0 with | i => m - i) ?_ 0 _ _ ?_
 ·rintro i f wz ⟨fz, rfl, hp, hi0, hok⟩ ihL0
  refine Lp_round ?_
  refine GW_seq ?_
  refine GW_region ?_
  refine GL_rd (wn_none rfl) rfl (rd_bin rfl rfl rfl bo_lss) ?_
  refine GL_nil ?_
  refine GW_seq ?_
  refine GW_cond rfl (fun hb => ?_) (fun hb => ?_)
  ·(try simp only [decide_eq_true_eq, decide_eq_false_iff_not, Bool.not_eq_true', Bool.not_eq_false', Bool.not_eq_eq_eq_not, Bool.not_true, Bool.not_false, Int.not_lt, Int.not_le] at hb)
   obtain ⟨gA, bA, rfl⟩ := hI.addr (by rw [List.length_map]; omega)
   refine GW_skip ?_
   refine GW_seq ?_
   refine GW_block ?_
   refine GW_seq ?_
   refine GW_region ?_
   refine GL_rd (v := .int _ _) (wn_none rfl) rfl (rd_move rfl rfl) ?_
   refine GL_rd (v := .int _ _) (wn_none rfl) rfl (rd_assign rfl rfl) ?_
   refine GL_nil ?_
   refine GW_seq ?_
   refine GW_region ?_
   refine GL_rd (v := .int _ _) (wn_none rfl) rfl (rd_move rfl rfl) ?_
   refine GL_rd (v := .slice _ _ _) (wn_none rfl) rfl (rd_move rfl rfl) ?_
   refine GL_rd (v := .int _ _) (wn_none rfl) rfl (rd_move rfl rfl) ?_
   refine GL_rd (wn_none rfl) rfl (rd_indexS (j := i) rfl rfl rfl Try.underlying32 ts3 rfl (by omega) _ rfl) ?_
   refine GL_rd (wn_none rfl) rfl (rd_load rfl rfl Try.underlying3 rfl ((hI.keep hp.mod).get _ _ (intAt_cell (by omega)))) ?_
   refine GL_rd (wn_none rfl) rfl (rd_bin rfl rfl rfl bo_eql) ?_
   refine GL_nil ?_
   refine GW_cond rfl (fun hb2 => ?_) (fun hb2 => ?_)
   ·(try simp only [decide_eq_true_eq, decide_eq_false_iff_not, Bool.not_eq_true', Bool.not_eq_false', Bool.not_eq_eq_eq_not, Bool.not_true, Bool.not_false, Int.not_lt, Int.not_le] at hb2)
    have heq := hb2
    refine GW_seq ?_
    refine GW_region ?_
    refine GL_rd (v := .int _ _) (wn_none rfl) rfl (rd_move rfl rfl) ?_
    refine GL_rd (v := .int _ _) (wn_none rfl) rfl (rd_assign rfl rfl) ?_
    refine GL_nil ?_
    refine GW_ret ?_
    exact ⟨_, res1 Try.results186 (rv_tmp (v := .int _ _) rfl rfl), _, rfl, ⟨fun _ => by rw [heq]; exact mem_at (intAt_some (by omega)), fun _ => by omega⟩, hp⟩
   ·(try simp only [decide_eq_true_eq, decide_eq_false_iff_not, Bool.not_eq_true', Bool.not_eq_false', Bool.not_eq_eq_eq_not, Bool.not_true, Bool.not_false, Int.not_lt, Int.not_le] at hb2)
    have hne := hb2
    refine GW_skip ?_
    refine GW_region ?_
    refine GL_rd (wn_none rfl) rfl (rd_bin rfl rfl rfl (bo_add64 (by omega))) ?_
    refine GL_rd (v := .int _ _) (wn_none rfl) rfl (rd_move rfl rfl) ?_
    refine GL_nil ?_
    exact ihL0 (i + 1) _ _ (by simp only []; omega) ⟨_, slots4 rfl rfl rfl rfl, hp, by omega, fun j hj hl => by rcases Nat.lt_succ_iff_lt_or_eq.1 hj with h | h; exact hok j h hl; subst h; exact fun e => hne e.symm⟩
  ·(try simp only [decide_eq_true_eq, decide_eq_false_iff_not, Bool.not_eq_true', Bool.not_eq_false', Bool.not_eq_eq_eq_not, Bool.not_true, Bool.not_false, Int.not_lt, Int.not_le] at hb)
   refine GW_exit ?_
   refine GW_seq ?_
   refine GW_region ?_
   refine GL_rd (v := .int _ _) (wn_none rfl) rfl (rd_assign rfl rfl) ?_
   refine GL_nil ?_
   refine GW_ret ?_
   obtain rfl : m = i := by omega
   have hno := no_take_int (i := m) hok
   rw [List.take_of_length_le (by omega)] at hno
   exact ⟨_, res1 Try.results186 (rv_tmp (v := .int _ _) rfl rfl), _, rfl, ⟨fun h => absurd h (by decide), fun h => absurd h hno⟩, hp⟩
 ·refine ⟨_, slots4 rfl rfl rfl rfl, hp, Nat.zero_le _, fun j hj => absurd hj (by omega)⟩
theorem sl_ContainsI (sv : Value) (m : Nat) (l : List Int) (x : Int) (w0 : World) (hI : Sl w0 sv 1 m (l.map (Value.int .i64))) : Does Try.prog 167 #[sv, .int .i64 x] w0 fun v w' => v = .bool (decide (x ∈ l)) ∧ Hp w0 [] w' [] := by
 obtain ⟨A, c, rfl⟩ := sl_shape hI
 have hlm : l.length = m := by have := hI.len; rw [List.length_map] at this; omega
 have hmle := hI.le
 refine does_of (l := [.slice A m c, .int .i64 x]) Try.func167 (by kernel_rfl) rfl Try.ntmps167 rfl rfl ?_
 have hp := Hp.refl w0 []
 refine GW_seq ?_
 refine GW_region ?_
 refine GL_rd (v := .bool _) (wn_none rfl) rfl (rd_assign rfl rfl) ?_
 refine GL_nil ?_
 refine GW_seq ?_
 refine GW_region ?_
 refine GL_rd (v := .slice _ _ _) (wn_none rfl) rfl (rd_move rfl rfl) ?_
 refine GL_rd (v := .int _ _) (wn_none rfl) rfl (rd_move rfl rfl) ?_
 refine GL_call (wn_none rfl) rfl rfl (sl_IndexI _ m l x _ (hI.keep hp.mod)) rfl ?_
 rintro _ w ⟨r, rfl, hr, hk⟩
 have hp := hp.comp hk
 refine GL_rd (wn_none rfl) rfl (rd_bin rfl rfl rfl bo_geq) ?_
 refine GL_rd (v := .bool _) (wn_none rfl) rfl (rd_assign rfl rfl) ?_
 refine GL_nil ?_
 refine GW_ret ?_
 exact ⟨_, res1 Try.results167 (rv_tmp (v := .bool _) rfl rfl), by rw [decide_eq_decide.2 hr], hp⟩
theorem bi_holds (hv : Value) (m : Nat) (l : List ByteArray) (w0 : World) (hI : Sl w0 hv 1 m (l.map Value.string)) (hz : ∀ x ∈ l, x.size ≤ 4294967296) : Does Try.prog 123 #[hv] w0 fun v w' => v = .int .i64 (holdsC l) ∧ Hp w0 [] w' [] := by
 obtain ⟨A, c, rfl⟩ := sl_shape hI
 have hlm : l.length = m := by have := hI.len; rw [List.length_map] at this; omega
 have hmle := hI.le
 refine does_of (l := [.slice A m c]) Try.func123 (by kernel_rfl) rfl Try.ntmps123 rfl rfl ?_
 have hp := Hp.refl w0 []
 refine GW_seq ?_
 refine GW_region ?_
 refine GL_rd (v := .int _ _) (wn_none rfl) rfl (rd_assign rfl rfl) ?_
 refine GL_nil ?_
 refine GW_seq ?_
 refine GW_seq ?_
 refine GW_region ?_
 refine GL_rd (v := .slice _ _ _) (wn_none rfl) rfl (rd_move rfl rfl) ?_
 refine GL_rd (wn_none rfl) rfl (rd_len rfl rfl Try.underlying40) ?_
 refine GL_rd (wn_none rfl) rfl (rd_bin rfl rfl rfl bo_gtr) ?_
 refine GL_nil ?_
 refine GW_cond rfl (fun hb => ?_) (fun hb => ?_)
 ·(try simp only [decide_eq_true_eq, decide_eq_false_iff_not, Bool.not_eq_true', Bool.not_eq_false', Bool.not_eq_eq_eq_not, Bool.not_true, Bool.not_false, Int.not_lt, Int.not_le] at hb)
  refine GW_seq ?_
  refine GW_region ?_
  refine GL_rd (v := .int _ _) (wn_none rfl) rfl (rd_assign rfl rfl) ?_
  refine GL_nil ?_
  refine GW_ret ?_
  have ec : holdsC l = _ := ho_long (by omega)
  exact ⟨_, res1 Try.results123 (rv_tmp (v := .int _ _) rfl rfl), by rw [ec], hp⟩
 ·(try simp only [decide_eq_true_eq, decide_eq_false_iff_not, Bool.not_eq_true', Bool.not_eq_false', Bool.not_eq_eq_eq_not, Bool.not_true, Bool.not_false, Int.not_lt, Int.not_le] at hb)
  refine GW_skip ?_
  refine GW_seq ?_
  refine GW_seq ?_
  refine GW_region ?_
  refine GL_rd (v := .slice _ _ _) (wn_none rfl) rfl (rd_move rfl rfl) ?_
  refine GL_rd (wn_none rfl) rfl (rd_len rfl rfl Try.underlying40) ?_
  refine GL_rd (v := .int _ _) (wn_none rfl) rfl (rd_move rfl rfl) ?_
  refine GL_nil ?_
  refine GW_block ?_
  refine GW_loop ?_
  refine Lp_ind (α := Nat) (fun a_0 f_0 w' => match a_0 with | i => ∃ fz, f_0 = (upd (upd (upd (upd fz 0 (.slice A m c)) 9 (.slice A m c)) 10 (.int .i64 (m : Int))) 11 (.int .i64 (i : Int))) ∧ Hp w0 [] w' [] ∧ (i ≤ m) ∧ (∀ j, j < i → hoB l j = true)) (fun a_0 => match a_0 with | i => m - i) ?_ 0 _ _ ?_
  ·rintro i f wz ⟨fz, rfl, hp, hi0, hok⟩ ihL0
   refine Lp_round ?_
   refine GW_seq ?_
   refine GW_region ?_
   refine GL_rd (wn_none rfl) rfl (rd_bin rfl rfl rfl bo_lss) ?_
   refine GL_nil ?_
   refine GW_seq ?_
   refine GW_cond rfl (fun hb2 => ?_) (fun hb2 => ?_)
   ·(try simp only [decide_eq_true_eq, decide_eq_false_iff_not, Bool.not_eq_true', Bool.not_eq_false', Bool.not_eq_eq_eq_not, Bool.not_true, Bool.not_false, Int.not_lt, Int.not_le] at hb2)
    obtain ⟨gA, bA, rfl⟩ := hI.addr (by rw [List.length_map]; omega)
    refine GW_skip ?_
    refine GW_seq ?_
    refine GW_block ?_
    refine GW_seq ?_
    refine GW_region ?_
    refine GL_rd (v := .int _ _) (wn_none rfl) rfl (rd_move rfl rfl) ?_
    refine GL_rd (wn_none rfl) rfl (rd_indexS (j := i) rfl rfl rfl Try.underlying40 ts9 rfl (by omega) _ rfl) ?_
    refine GL_rd (wn_none rfl) rfl (rd_load rfl rfl Try.underlying9 rfl ((hI.keep hp.mod).get _ _ (strAt_cell (i := i) (by omega)))) ?_
    refine GL_rd (v := .int _ _) (wn_none rfl) rfl (rd_assign rfl rfl) ?_
    refine GL_rd (v := .string _) (wn_none rfl) rfl (rd_assign rfl rfl) ?_
    refine GL_nil ?_
    refine GW_seq ?_
    refine GW_seq ?_
    refine GW_region ?_
    refine GL_rd (v := .string _) (wn_none rfl) rfl (rd_move rfl rfl) ?_
    refine GL_call (wn_none rfl) rfl rfl (cl_Name (strAt l i) _ (by have := hz _ (mem_at (strAt_some (l := l) (i := i) (by omega))); omega)) rfl ?_
    rintro _ w ⟨rfl, hk⟩
    have hp := hp.comp hk
    refine GL_rd (v := .int _ _) (wn_none rfl) rfl (rd_assign rfl rfl) ?_
    refine GL_nil ?_
    refine GW_seq ?_
    refine GW_region ?_
    refine GL_rd (v := .int _ _) (wn_none rfl) rfl (rd_move rfl rfl) ?_
    refine GL_rd (wn_none rfl) rfl (rd_bin rfl rfl rfl bo_neq) ?_
    refine GL_nil ?_
    refine GW_cond rfl (fun hb3 => ?_) (fun hb3 => ?_)
    ·(try simp only [decide_eq_true_eq, decide_eq_false_iff_not, Bool.not_eq_true', Bool.not_eq_false', Bool.not_eq_eq_eq_not, Bool.not_true, Bool.not_false, Int.not_lt, Int.not_le] at hb3)
     have hn := hb3
     refine GW_seq ?_
     refine GW_region ?_
     refine GL_rd (v := .int _ _) (wn_none rfl) rfl (rd_move rfl rfl) ?_
     refine GL_rd (v := .int _ _) (wn_none rfl) rfl (rd_assign rfl rfl) ?_
     refine GL_nil ?_
     refine GW_ret ?_
     have ec : holdsC l = _ := holds_bad (i := i) (by omega) (by omega) hok hn
     exact ⟨_, res1 Try.results123 (rv_tmp (v := .int _ _) rfl rfl), by rw [ec], hp⟩
    ·(try simp only [decide_eq_true_eq, decide_eq_false_iff_not, Bool.not_eq_true', Bool.not_eq_false', Bool.not_eq_eq_eq_not, Bool.not_true, Bool.not_false, Int.not_lt, Int.not_le] at hb3)
     have hn : nameC (strAt l i) = 0 := hb3
     refine GW_skip ?_
     refine GW_seq ?_
     refine GW_region ?_
     refine GL_rd (v := .slice _ _ _) (wn_none rfl) rfl (rd_move rfl rfl) ?_
     refine GL_rd (v := .int _ _) (wn_none rfl) rfl (rd_move rfl rfl) ?_
     refine GL_rd (wn_none rfl) rfl (rd_sliceS (lo := 0) (hi := i) rfl rfl Try.underlying40 ts9 at_none (at_some rfl rfl) (by omega) (by have := (Sl.cap hI).1; omega)) ?_
     refine GL_rd (v := .string _) (wn_none rfl) rfl (rd_move rfl rfl) ?_
     refine GL_call (wn_none rfl) rfl rfl (sl_ContainsS _ i (l.take i) (strAt l i) _ (by rw [List.map_take]; exact (Sl.cut1 (hI.keep hp.mod) i (by omega)))) rfl ?_
     rintro _ w ⟨rfl, hk⟩
     have hp := hp.comp hk
     refine GL_nil ?_
     refine GW_cond rfl (fun hb4 => ?_) (fun hb4 => ?_)
     ·(try simp only [decide_eq_true_eq, decide_eq_false_iff_not, Bool.not_eq_true', Bool.not_eq_false', Bool.not_eq_eq_eq_not, Bool.not_true, Bool.not_false, Int.not_lt, Int.not_le] at hb4)
      have hd : strAt l i ∈ l.take i := hb4
      refine GW_seq ?_
      refine GW_region ?_
      refine GL_rd (v := .int _ _) (wn_none rfl) rfl (rd_assign rfl rfl) ?_
      refine GL_nil ?_
      refine GW_ret ?_
      have ec : holdsC l = _ := holds_dup (i := i) (by omega) (by omega) hok hn hd
      exact ⟨_, res1 Try.results123 (rv_tmp (v := .int _ _) rfl rfl), by rw [ec], hp⟩
     ·(try simp only [decide_eq_true_eq, decide_eq_false_iff_not, Bool.not_eq_true', Bool.not_eq_false', Bool.not_eq_eq_eq_not, Bool.not_true, Bool.not_false, Int.not_lt, Int.not_le] at hb4)
      have hoki := hoB_yes hn hb4
      refine GW_skip ?_
      refine GW_region ?_
      refine GL_rd (wn_none rfl) rfl (rd_bin rfl rfl rfl (bo_add64 (by omega))) ?_
      refine GL_rd (v := .int _ _) (wn_none rfl) rfl (rd_move rfl rfl) ?_
      refine GL_nil ?_
      exact ihL0 (i + 1) _ _ (by simp only []; omega) ⟨_, slots4 rfl rfl rfl rfl, hp, by omega, fun j hj => by rcases Nat.lt_succ_iff_lt_or_eq.1 hj with h | h; exact hok j h; subst h; exact hoki⟩
   ·(try simp only [decide_eq_true_eq, decide_eq_false_iff_not, Bool.not_eq_true', Bool.not_eq_false', Bool.not_eq_eq_eq_not, Bool.not_true, Bool.not_false, Int.not_lt, Int.not_le] at hb2)
    refine GW_exit ?_
    refine GW_seq ?_
    refine GW_region ?_
    refine GL_rd (v := .int _ _) (wn_none rfl) rfl (rd_assign rfl rfl) ?_
    refine GL_nil ?_
    refine GW_ret ?_
    obtain rfl : m = i := by omega
    have ec : holdsC l = 0 := holds_ok (by omega) (by rw [hlm]; exact hok)
    exact ⟨_, res1 Try.results123 (rv_tmp (v := .int _ _) rfl rfl), by rw [ec], hp⟩
  ·refine ⟨_, slots4 rfl rfl rfl rfl, hp, Nat.zero_le _, fun j hj => absurd hj (by omega)⟩
theorem ref_bholds (hv : Value) (m : Nat) (l : List ByteArray) (w0 : World) (hI : Sl w0 hv 1 m (l.map Value.string)) (hz : ∀ x ∈ l, x.size ≤ 4294967296) : Does Try.prog 126 #[hv] w0 fun v w' => v = .int .i64 (holdsC l) ∧ Hp w0 [] w' [] := by
 obtain ⟨A, c, rfl⟩ := sl_shape hI
 have hlm : l.length = m := by have := hI.len; rw [List.length_map] at this; omega
 have hmle := hI.le
 refine does_of (l := [.slice A m c]) Try.func126 (by kernel_rfl) rfl Try.ntmps126 rfl rfl ?_
 have hp := Hp.refl w0 []
 refine GW_seq ?_
 refine GW_region ?_
 refine GL_rd (v := .int _ _) (wn_none rfl) rfl (rd_assign rfl rfl) ?_
 refine GL_nil ?_
 refine GW_seq ?_
 refine GW_seq ?_
 refine GW_region ?_
 refine GL_rd (v := .slice _ _ _) (wn_none rfl) rfl (rd_move rfl rfl) ?_
 refine GL_rd (wn_none rfl) rfl (rd_len rfl rfl Try.underlying40) ?_
 refine GL_rd (wn_none rfl) rfl (rd_bin rfl rfl rfl bo_gtr) ?_
 refine GL_nil ?_
 refine GW_cond rfl (fun hb => ?_) (fun hb => ?_)
 ·(try simp only [decide_eq_true_eq, decide_eq_false_iff_not, Bool.not_eq_true', Bool.not_eq_false', Bool.not_eq_eq_eq_not, Bool.not_true, Bool.not_false, Int.not_lt, Int.not_le] at hb)
  refine GW_seq ?_
  refine GW_region ?_
  refine GL_rd (v := .int _ _) (wn_none rfl) rfl (rd_assign rfl rfl) ?_
  refine GL_nil ?_
  refine GW_ret ?_
  have ec : holdsC l = _ := ho_long (by omega)
  exact ⟨_, res1 Try.results126 (rv_tmp (v := .int _ _) rfl rfl), by rw [ec], hp⟩
 ·(try simp only [decide_eq_true_eq, decide_eq_false_iff_not, Bool.not_eq_true', Bool.not_eq_false', Bool.not_eq_eq_eq_not, Bool.not_true, Bool.not_false, Int.not_lt, Int.not_le] at hb)
  refine GW_skip ?_
  refine GW_seq ?_
  refine GW_seq ?_
  refine GW_region ?_
  refine GL_rd (v := .int _ _) (wn_none rfl) rfl (rd_assign rfl rfl) ?_
  refine GL_nil ?_
  refine GW_block ?_
  refine GW_loop ?_
  refine Lp_ind (α := Nat) (fun a_0 f_0 w' => match a_0 with | i => ∃ fz, f_0 = (upd (upd fz 0 (.slice A m c)) 3 (.int .i64 (i : Int))) ∧ Hp w0 [] w' [] ∧ (i ≤ m) ∧ (∀ j, j < i → hoB l j = true)) (fun a_0 => match a_0 with | i => m - i) ?_ 0 _ _ ?_
  ·rintro i f wz ⟨fz, rfl, hp, hi0, hok⟩ ihL0
   refine Lp_round ?_
   refine GW_seq ?_
   refine GW_seq ?_
   refine GW_region ?_
   refine GL_rd (v := .int _ _) (wn_none rfl) rfl (rd_move rfl rfl) ?_
   refine GL_rd (v := .slice _ _ _) (wn_none rfl) rfl (rd_move rfl rfl) ?_
   refine GL_rd (wn_none rfl) rfl (rd_len rfl rfl Try.underlying40) ?_
   refine GL_rd (wn_none rfl) rfl (rd_bin rfl rfl rfl bo_lss) ?_
   refine GL_nil ?_
   refine GW_cond rfl (fun hb2 => ?_) (fun hb2 => ?_)
   ·(try simp only [decide_eq_true_eq, decide_eq_false_iff_not, Bool.not_eq_true', Bool.not_eq_false', Bool.not_eq_eq_eq_not, Bool.not_true, Bool.not_false, Int.not_lt, Int.not_le] at hb2)
    obtain ⟨gA, bA, rfl⟩ := hI.addr (by rw [List.length_map]; omega)
    refine GW_skip ?_
    refine GW_seq ?_
    refine GW_block ?_
    refine GW_seq ?_
    refine GW_seq ?_
    refine GW_region ?_
    refine GL_rd (v := .slice _ _ _) (wn_none rfl) rfl (rd_move rfl rfl) ?_
    refine GL_rd (v := .int _ _) (wn_none rfl) rfl (rd_move rfl rfl) ?_
    refine GL_rd (wn_none rfl) rfl (rd_indexS (j := i) rfl rfl rfl Try.underlying40 ts9 rfl (by omega) _ rfl) ?_
    refine GL_rd (wn_none rfl) rfl (rd_load rfl rfl Try.underlying9 rfl ((hI.keep hp.mod).get _ _ (strAt_cell (i := i) (by omega)))) ?_
    refine GL_call (wn_none rfl) rfl rfl (ref_clName (strAt l i) _ (by have := hz _ (mem_at (strAt_some (l := l) (i := i) (by omega))); omega)) rfl ?_
    rintro _ w ⟨rfl, hk⟩
    have hp := hp.comp hk
    refine GL_rd (v := .int _ _) (wn_none rfl) rfl (rd_assign rfl rfl) ?_
    refine GL_nil ?_
    refine GW_seq ?_
    refine GW_region ?_
    refine GL_rd (v := .int _ _) (wn_none rfl) rfl (rd_move rfl rfl) ?_
    refine GL_rd (wn_none rfl) rfl (rd_bin rfl rfl rfl bo_neq) ?_
    refine GL_nil ?_
    refine GW_cond rfl (fun hb3 => ?_) (fun hb3 => ?_)
    ·(try simp only [decide_eq_true_eq, decide_eq_false_iff_not, Bool.not_eq_true', Bool.not_eq_false', Bool.not_eq_eq_eq_not, Bool.not_true, Bool.not_false, Int.not_lt, Int.not_le] at hb3)
     have hn := hb3
     refine GW_seq ?_
     refine GW_region ?_
     refine GL_rd (v := .int _ _) (wn_none rfl) rfl (rd_move rfl rfl) ?_
     refine GL_rd (v := .int _ _) (wn_none rfl) rfl (rd_assign rfl rfl) ?_
     refine GL_nil ?_
     refine GW_ret ?_
     have ec : holdsC l = _ := holds_bad (i := i) (by omega) (by omega) hok hn
     exact ⟨_, res1 Try.results126 (rv_tmp (v := .int _ _) rfl rfl), by rw [ec], hp⟩
    ·(try simp only [decide_eq_true_eq, decide_eq_false_iff_not, Bool.not_eq_true', Bool.not_eq_false', Bool.not_eq_eq_eq_not, Bool.not_true, Bool.not_false, Int.not_lt, Int.not_le] at hb3)
     have hn : nameC (strAt l i) = 0 := hb3
     refine GW_skip ?_
     refine GW_seq ?_
     refine GW_region ?_
     refine GL_rd (v := .int _ _) (wn_none rfl) rfl (rd_assign rfl rfl) ?_
     refine GL_nil ?_
     refine GW_block ?_
     refine GW_loop ?_
     refine Lp_ind (α := Nat) (fun a_0 f_0 w' => match a_0 with | j => ∃ fz, f_0 = (upd (upd (upd fz 0 (.slice (some ⟨gA, bA, none⟩) m c)) 3 (.int .i64 (i : Int))) 5 (.int .i64 (j : Int))) ∧ Hp w0 [] w' [] ∧ (j ≤ i) ∧ (∀ q, q < j → q < l.length → ¬ strAt l q = strAt l i)) (fun a_0 => match a_0 with | j => i - j) ?_ 0 _ _ ?_
     ·rintro j f wz ⟨fz, rfl, hp, hj0, hin⟩ ihL1
      refine Lp_round ?_
      refine GW_seq ?_
      refine GW_seq ?_
      refine GW_region ?_
      refine GL_rd (v := .int _ _) (wn_none rfl) rfl (rd_move rfl rfl) ?_
      refine GL_rd (v := .int _ _) (wn_none rfl) rfl (rd_move rfl rfl) ?_
      refine GL_rd (wn_none rfl) rfl (rd_bin rfl rfl rfl bo_lss) ?_
      refine GL_nil ?_
      refine GW_cond rfl (fun hb4 => ?_) (fun hb4 => ?_)
      ·(try simp only [decide_eq_true_eq, decide_eq_false_iff_not, Bool.not_eq_true', Bool.not_eq_false', Bool.not_eq_eq_eq_not, Bool.not_true, Bool.not_false, Int.not_lt, Int.not_le] at hb4)
       refine GW_skip ?_
       refine GW_seq ?_
       refine GW_block ?_
       refine GW_seq ?_
       refine GW_drawnK 9 (.one 0 true (.one 1 true (.one 2 true (.one 3 true (.one 4 true (.one 5 true (.one 6 true (.one 7 true (.one 8 true .nil))))))))) mixed (by kernel_rfl) hp (fun _ h => h) fun w hp => ?_
       have hpS := hp
       refine GO_rdT (v := .slice _ _ _) rfl (wn_none rfl) rfl (fun w => (rd_move rfl rfl)) ?_
       refine GO_rdT (v := .int _ _) rfl (wn_none rfl) rfl (fun w => (rd_move rfl rfl)) ?_
       refine GO_rdT rfl (wn_none rfl) rfl (fun w => (rd_indexS (j := j) rfl rfl rfl Try.underlying40 ts9 rfl (by omega) _ rfl)) ?_
       refine GO_rd rfl rfl (wn_none rfl) rfl hpS (fun w hp => (rd_load rfl rfl Try.underlying9 rfl ((hI.keep hp.mod).get _ _ (strAt_cell (i := j) (by omega))))) ?_
       refine GO_rdT (v := .slice _ _ _) rfl (wn_none rfl) rfl (fun w => (rd_move rfl rfl)) ?_
       refine GO_rdT (v := .int _ _) rfl (wn_none rfl) rfl (fun w => (rd_move rfl rfl)) ?_
       refine GO_rdT rfl (wn_none rfl) rfl (fun w => (rd_indexS (j := i) rfl rfl rfl Try.underlying40 ts9 rfl (by omega) _ rfl)) ?_
       refine GO_rd rfl rfl (wn_none rfl) rfl hpS (fun w hp => (rd_load rfl rfl Try.underlying9 rfl ((hI.keep hp.mod).get _ _ (strAt_cell (i := i) (by omega))))) ?_
       refine GO_rd rfl rfl (wn_none rfl) rfl hpS (fun w hp => (rd_bin rfl rfl rfl bo_seql)) ?_
       refine GO_nil ?_
       refine GW_cond rfl (fun hb5 => ?_) (fun hb5 => ?_)
       ·(try simp only [decide_eq_true_eq, decide_eq_false_iff_not, Bool.not_eq_true', Bool.not_eq_false', Bool.not_eq_eq_eq_not, Bool.not_true, Bool.not_false, Int.not_lt, Int.not_le] at hb5)
        have hd : strAt l i ∈ l.take i := mem_take_str (j := j) (by omega) (by omega) hb5
        refine GW_seq ?_
        refine GW_region ?_
        refine GL_rd (v := .int _ _) (wn_none rfl) rfl (rd_assign rfl rfl) ?_
        refine GL_nil ?_
        refine GW_ret ?_
        have ec : holdsC l = _ := holds_dup (i := i) (by omega) (by omega) hok hn hd
        exact ⟨_, res1 Try.results126 (rv_tmp (v := .int _ _) rfl rfl), by rw [ec], hp⟩
       ·(try simp only [decide_eq_true_eq, decide_eq_false_iff_not, Bool.not_eq_true', Bool.not_eq_false', Bool.not_eq_eq_eq_not, Bool.not_true, Bool.not_false, Int.not_lt, Int.not_le] at hb5)
        have hne := hb5
        refine GW_skip ?_
        refine GW_region ?_
        refine GL_rd (v := .int _ _) (wn_none rfl) rfl (rd_move rfl rfl) ?_
        refine GL_rd (wn_none rfl) rfl (rd_bin rfl rfl rfl (bo_add64 (by omega))) ?_
        refine GL_rd (v := .int _ _) (wn_none rfl) rfl (rd_assign rfl rfl) ?_
        refine GL_nil ?_
        exact ihL1 (j + 1) _ _ (by simp only []; omega) ⟨_, slots3 rfl rfl rfl, hp, by omega, fun q hq hl => by rcases Nat.lt_succ_iff_lt_or_eq.1 hq with h | h; exact hin q h hl; subst h; exact hne⟩
      ·(try simp only [decide_eq_true_eq, decide_eq_false_iff_not, Bool.not_eq_true', Bool.not_eq_false', Bool.not_eq_eq_eq_not, Bool.not_true, Bool.not_false, Int.not_lt, Int.not_le] at hb4)
       have hoki := hoB_yes hn (no_take_str (fun q hq hl => hin q (by omega) hl))
       refine GW_exit ?_
       refine GW_region ?_
       refine GL_rd (v := .int _ _) (wn_none rfl) rfl (rd_move rfl rfl) ?_
       refine GL_rd (wn_none rfl) rfl (rd_bin rfl rfl rfl (bo_add64 (by omega))) ?_
       refine GL_rd (v := .int _ _) (wn_none rfl) rfl (rd_assign rfl rfl) ?_
       refine GL_nil ?_
       exact ihL0 (i + 1) _ _ (by simp only []; omega) ⟨_, slots2 rfl rfl, hp, by omega, fun j hj => by rcases Nat.lt_succ_iff_lt_or_eq.1 hj with h | h; exact hok j h; subst h; exact hoki⟩
     ·refine ⟨_, slots3 rfl rfl rfl, hp, Nat.zero_le _, fun q hq => absurd hq (by omega)⟩
   ·(try simp only [decide_eq_true_eq, decide_eq_false_iff_not, Bool.not_eq_true', Bool.not_eq_false', Bool.not_eq_eq_eq_not, Bool.not_true, Bool.not_false, Int.not_lt, Int.not_le] at hb2)
    refine GW_exit ?_
    refine GW_seq ?_
    refine GW_region ?_
    refine GL_rd (v := .int _ _) (wn_none rfl) rfl (rd_assign rfl rfl) ?_
    refine GL_nil ?_
    refine GW_ret ?_
    obtain rfl : m = i := by omega
    have ec : holdsC l = 0 := holds_ok (by omega) (by rw [hlm]; exact hok)
    exact ⟨_, res1 Try.results126 (rv_tmp (v := .int _ _) rfl rfl), by rw [ec], hp⟩
  ·refine ⟨_, slots2 rfl rfl, hp, Nat.zero_le _, fun j hj => absurd hj (by omega)⟩
theorem bi_texts (tv : Value) (m : Nat) (l : List Int) (n : Int) (w0 : World) (hI : Sl w0 tv 1 m (l.map (Value.int .i64))) : Does Try.prog 124 #[tv, .int .i64 n] w0 fun v w' => v = .int .i64 (textsC l n) ∧ Hp w0 [] w' [] := by
 obtain ⟨A, c, rfl⟩ := sl_shape hI
 have hlm : l.length = m := by have := hI.len; rw [List.length_map] at this; omega
 have hmle := hI.le
 refine does_of (l := [.slice A m c, .int .i64 n]) Try.func124 (by kernel_rfl) rfl Try.ntmps124 rfl rfl ?_
 have hp := Hp.refl w0 []
 refine GW_seq ?_
 refine GW_region ?_
 refine GL_rd (v := .int _ _) (wn_none rfl) rfl (rd_assign rfl rfl) ?_
 refine GL_nil ?_
 refine GW_seq ?_
 refine GW_seq ?_
 refine GW_region ?_
 refine GL_rd (v := .slice _ _ _) (wn_none rfl) rfl (rd_move rfl rfl) ?_
 refine GL_rd (wn_none rfl) rfl (rd_len rfl rfl Try.underlying32) ?_
 refine GL_rd (wn_none rfl) rfl (rd_bin rfl rfl rfl bo_lss) ?_
 refine GL_rd (v := .bool _) (wn_none rfl) rfl (rd_move rfl rfl) ?_
 refine GL_split (t := 10) (b := _) rfl ?_ ?_
 ·intro hb; (try simp only [decide_eq_true_eq, decide_eq_false_iff_not, Bool.not_eq_true', Bool.not_eq_false', Bool.not_eq_eq_eq_not, Bool.not_true, Bool.not_false, Int.not_lt, Int.not_le] at hb)
  refine GL_pass (nw_off rfl rfl rfl rfl rfl) rfl ?_
  refine GL_pass (nw_off rfl rfl rfl rfl rfl) rfl ?_
  refine GL_pass (nw_off rfl rfl rfl rfl rfl) rfl ?_
  refine GL_rd (v := .bool _) (wn_none rfl) rfl (rd_pickT rfl rfl rfl) ?_
  refine GL_nil ?_
  refine GW_true rfl ?_
  refine GW_seq ?_
  refine GW_region ?_
  refine GL_rd (v := .int _ _) (wn_none rfl) rfl (rd_assign rfl rfl) ?_
  refine GL_nil ?_
  refine GW_ret ?_
  have ec : textsC l n = _ := texts_long (by omega)
  exact ⟨_, res1 Try.results124 (rv_tmp (v := .int _ _) rfl rfl), by rw [ec], hp⟩
 ·intro hb; (try simp only [decide_eq_true_eq, decide_eq_false_iff_not, Bool.not_eq_true', Bool.not_eq_false', Bool.not_eq_eq_eq_not, Bool.not_true, Bool.not_false, Int.not_lt, Int.not_le] at hb)
  refine GL_rd (v := .slice _ _ _) (wn_on rfl rfl rfl rfl) rfl (rd_move rfl rfl) ?_
  refine GL_rd (wn_on rfl rfl rfl rfl) rfl (rd_len rfl rfl Try.underlying32) ?_
  refine GL_rd (wn_on rfl rfl rfl rfl) rfl (rd_bin rfl rfl rfl bo_gtr) ?_
  refine GL_rd (v := .bool _) (wn_none rfl) rfl (rd_pickF rfl rfl rfl) ?_
  refine GL_nil ?_
  refine GW_cond rfl (fun hb2 => ?_) (fun hb2 => ?_)
  ·(try simp only [decide_eq_true_eq, decide_eq_false_iff_not, Bool.not_eq_true', Bool.not_eq_false', Bool.not_eq_eq_eq_not, Bool.not_true, Bool.not_false, Int.not_lt, Int.not_le] at hb2)
   refine GW_seq ?_
   refine GW_region ?_
   refine GL_rd (v := .int _ _) (wn_none rfl) rfl (rd_assign rfl rfl) ?_
   refine GL_nil ?_
   refine GW_ret ?_
   have ec : textsC l n = _ := texts_long (by omega)
   exact ⟨_, res1 Try.results124 (rv_tmp (v := .int _ _) rfl rfl), by rw [ec], hp⟩
  ·(try simp only [decide_eq_true_eq, decide_eq_false_iff_not, Bool.not_eq_true', Bool.not_eq_false', Bool.not_eq_eq_eq_not, Bool.not_true, Bool.not_false, Int.not_lt, Int.not_le] at hb2)
   refine GW_skip ?_
   refine GW_seq ?_
   refine GW_seq ?_
   refine GW_region ?_
   refine GL_rd (v := .slice _ _ _) (wn_none rfl) rfl (rd_move rfl rfl) ?_
   refine GL_rd (wn_none rfl) rfl (rd_len rfl rfl Try.underlying32) ?_
   refine GL_rd (v := .int _ _) (wn_none rfl) rfl (rd_move rfl rfl) ?_
   refine GL_nil ?_
   refine GW_block ?_
   refine GW_loop ?_
   refine Lp_ind (α := Nat) (fun a_0 f_0 w' => match a_0 with | i => ∃ fz, f_0 = (upd (upd (upd (upd (upd fz 0 (.slice A m c)) 1 (.int .i64 n)) 15 (.slice A m c)) 16 (.int .i64 (m : Int))) 17 (.int .i64 (i : Int))) ∧ Hp w0 [] w' [] ∧ (i ≤ m) ∧ (∀ j, j < i → txB l n j = true)) (fun a_0 => match a_0 with | i => m - i) ?_ 0 _ _ ?_
   ·rintro i f wz ⟨fz, rfl, hp, hi0, hok⟩ ihL0
    refine Lp_round ?_
    refine GW_seq ?_
    refine GW_region ?_
    refine GL_rd (wn_none rfl) rfl (rd_bin rfl rfl rfl bo_lss) ?_
    refine GL_nil ?_
    refine GW_seq ?_
    refine GW_cond rfl (fun hb3 => ?_) (fun hb3 => ?_)
    ·(try simp only [decide_eq_true_eq, decide_eq_false_iff_not, Bool.not_eq_true', Bool.not_eq_false', Bool.not_eq_eq_eq_not, Bool.not_true, Bool.not_false, Int.not_lt, Int.not_le] at hb3)
     obtain ⟨gA, bA, rfl⟩ := hI.addr (by rw [List.length_map]; omega)
     refine GW_skip ?_
     refine GW_seq ?_
     refine GW_block ?_
     refine GW_seq ?_
     refine GW_region ?_
     refine GL_rd (v := .int _ _) (wn_none rfl) rfl (rd_move rfl rfl) ?_
     refine GL_rd (wn_none rfl) rfl (rd_indexS (j := i) rfl rfl rfl Try.underlying32 ts3 rfl (by omega) _ rfl) ?_
     refine GL_rd (wn_none rfl) rfl (rd_load rfl rfl Try.underlying3 rfl ((hI.keep hp.mod).get _ _ (intAt_cell (i := i) (by omega)))) ?_
     refine GL_rd (v := .int _ _) (wn_none rfl) rfl (rd_assign rfl rfl) ?_
     refine GL_rd (v := .int _ _) (wn_none rfl) rfl (rd_assign rfl rfl) ?_
     refine GL_nil ?_
     refine GW_seq ?_
     refine GW_seq ?_
     refine GW_region ?_
     refine GL_rd (v := .int _ _) (wn_none rfl) rfl (rd_move rfl rfl) ?_
     refine GL_rd (wn_none rfl) rfl (rd_bin rfl rfl rfl bo_lss) ?_
     refine GL_rd (v := .bool _) (wn_none rfl) rfl (rd_move rfl rfl) ?_
     refine GL_split (t := 24) (b := _) rfl ?_ ?_
     ·intro hb4; (try simp only [decide_eq_true_eq, decide_eq_false_iff_not, Bool.not_eq_true', Bool.not_eq_false', Bool.not_eq_eq_eq_not, Bool.not_true, Bool.not_false, Int.not_lt, Int.not_le] at hb4)
      refine GL_pass (nw_off rfl rfl rfl rfl rfl) rfl ?_
      refine GL_pass (nw_off rfl rfl rfl rfl rfl) rfl ?_
      refine GL_pass (nw_off rfl rfl rfl rfl rfl) rfl ?_
      refine GL_rd (v := .bool _) (wn_none rfl) rfl (rd_pickT rfl rfl rfl) ?_
      refine GL_nil ?_
      refine GW_true rfl ?_
      refine GW_seq ?_
      refine GW_region ?_
      refine GL_rd (v := .int _ _) (wn_none rfl) rfl (rd_assign rfl rfl) ?_
      refine GL_nil ?_
      refine GW_ret ?_
      have ec : textsC l n = _ := texts_bad (i := i) (by omega) (by omega) hok (by omega)
      exact ⟨_, res1 Try.results124 (rv_tmp (v := .int _ _) rfl rfl), by rw [ec], hp⟩
     ·intro hb4; (try simp only [decide_eq_true_eq, decide_eq_false_iff_not, Bool.not_eq_true', Bool.not_eq_false', Bool.not_eq_eq_eq_not, Bool.not_true, Bool.not_false, Int.not_lt, Int.not_le] at hb4)
      refine GL_rd (v := .int _ _) (wn_on rfl rfl rfl rfl) rfl (rd_move rfl rfl) ?_
      refine GL_rd (v := .int _ _) (wn_on rfl rfl rfl rfl) rfl (rd_move rfl rfl) ?_
      refine GL_rd (wn_on rfl rfl rfl rfl) rfl (rd_bin rfl rfl rfl bo_geq) ?_
      refine GL_rd (v := .bool _) (wn_none rfl) rfl (rd_pickF rfl rfl rfl) ?_
      refine GL_nil ?_
      refine GW_cond rfl (fun hb5 => ?_) (fun hb5 => ?_)
      ·(try simp only [decide_eq_true_eq, decide_eq_false_iff_not, Bool.not_eq_true', Bool.not_eq_false', Bool.not_eq_eq_eq_not, Bool.not_true, Bool.not_false, Int.not_lt, Int.not_le] at hb5)
       refine GW_seq ?_
       refine GW_region ?_
       refine GL_rd (v := .int _ _) (wn_none rfl) rfl (rd_assign rfl rfl) ?_
       refine GL_nil ?_
       refine GW_ret ?_
       have ec : textsC l n = _ := texts_bad (i := i) (by omega) (by omega) hok (by omega)
       exact ⟨_, res1 Try.results124 (rv_tmp (v := .int _ _) rfl rfl), by rw [ec], hp⟩
      ·(try simp only [decide_eq_true_eq, decide_eq_false_iff_not, Bool.not_eq_true', Bool.not_eq_false', Bool.not_eq_eq_eq_not, Bool.not_true, Bool.not_false, Int.not_lt, Int.not_le] at hb5)
       refine GW_skip ?_
       refine GW_seq ?_
       refine GW_region ?_
       refine GL_rd (v := .slice _ _ _) (wn_none rfl) rfl (rd_move rfl rfl) ?_
       refine GL_rd (v := .int _ _) (wn_none rfl) rfl (rd_move rfl rfl) ?_
       refine GL_rd (wn_none rfl) rfl (rd_sliceS (lo := 0) (hi := i) rfl rfl Try.underlying32 ts3 at_none (at_some rfl rfl) (by omega) (by have := (Sl.cap hI).1; omega)) ?_
       refine GL_rd (v := .int _ _) (wn_none rfl) rfl (rd_move rfl rfl) ?_
       refine GL_call (wn_none rfl) rfl rfl (sl_ContainsI _ i (l.take i) (intAt l i) _ (by rw [List.map_take]; exact (Sl.cut1 (hI.keep hp.mod) i (by omega)))) rfl ?_
       rintro _ w ⟨rfl, hk⟩
       have hp := hp.comp hk
       refine GL_nil ?_
       refine GW_cond rfl (fun hb6 => ?_) (fun hb6 => ?_)
       ·(try simp only [decide_eq_true_eq, decide_eq_false_iff_not, Bool.not_eq_true', Bool.not_eq_false', Bool.not_eq_eq_eq_not, Bool.not_true, Bool.not_false, Int.not_lt, Int.not_le] at hb6)
        have hd : intAt l i ∈ l.take i := hb6
        refine GW_seq ?_
        refine GW_region ?_
        refine GL_rd (v := .int _ _) (wn_none rfl) rfl (rd_assign rfl rfl) ?_
        refine GL_nil ?_
        refine GW_ret ?_
        have ec : textsC l n = _ := texts_dup (i := i) (by omega) (by omega) hok (by omega) hd
        exact ⟨_, res1 Try.results124 (rv_tmp (v := .int _ _) rfl rfl), by rw [ec], hp⟩
       ·(try simp only [decide_eq_true_eq, decide_eq_false_iff_not, Bool.not_eq_true', Bool.not_eq_false', Bool.not_eq_eq_eq_not, Bool.not_true, Bool.not_false, Int.not_lt, Int.not_le] at hb6)
        have hoki := txB_yes (n := n) (by omega) hb6
        refine GW_skip ?_
        refine GW_region ?_
        refine GL_rd (wn_none rfl) rfl (rd_bin rfl rfl rfl (bo_add64 (by omega))) ?_
        refine GL_rd (v := .int _ _) (wn_none rfl) rfl (rd_move rfl rfl) ?_
        refine GL_nil ?_
        exact ihL0 (i + 1) _ _ (by simp only []; omega) ⟨_, slots5 rfl rfl rfl rfl rfl, hp, by omega, fun j hj => by rcases Nat.lt_succ_iff_lt_or_eq.1 hj with h | h; exact hok j h; subst h; exact hoki⟩
    ·(try simp only [decide_eq_true_eq, decide_eq_false_iff_not, Bool.not_eq_true', Bool.not_eq_false', Bool.not_eq_eq_eq_not, Bool.not_true, Bool.not_false, Int.not_lt, Int.not_le] at hb3)
     refine GW_exit ?_
     refine GW_seq ?_
     refine GW_region ?_
     refine GL_rd (v := .int _ _) (wn_none rfl) rfl (rd_assign rfl rfl) ?_
     refine GL_nil ?_
     refine GW_ret ?_
     obtain rfl : m = i := by omega
     have ec : textsC l n = 0 := texts_ok (by omega) (by rw [hlm]; exact hok)
     exact ⟨_, res1 Try.results124 (rv_tmp (v := .int _ _) rfl rfl), by rw [ec], hp⟩
   ·refine ⟨_, slots5 rfl rfl rfl rfl rfl, hp, Nat.zero_le _, fun j hj => absurd hj (by omega)⟩
theorem ref_btexts (tv : Value) (m : Nat) (l : List Int) (n : Int) (w0 : World) (hI : Sl w0 tv 1 m (l.map (Value.int .i64))) : Does Try.prog 127 #[tv, .int .i64 n] w0 fun v w' => v = .int .i64 (textsC l (min n 40)) ∧ Hp w0 [] w' [] := by
 obtain ⟨A, c, rfl⟩ := sl_shape hI
 have hlm : l.length = m := by have := hI.len; rw [List.length_map] at this; omega
 have hmle := hI.le
 refine does_of (l := [.slice A m c, .int .i64 n]) Try.func127 (by kernel_rfl) rfl Try.ntmps127 rfl rfl ?_
 have hp := Hp.refl w0 []
 refine GW_seq ?_
 refine GW_region ?_
 refine GL_rd (v := .int _ _) (wn_none rfl) rfl (rd_assign rfl rfl) ?_
 refine GL_nil ?_
 refine GW_seq ?_
 refine GW_seq ?_
 refine GW_region ?_
 refine GL_rd (v := .slice _ _ _) (wn_none rfl) rfl (rd_move rfl rfl) ?_
 refine GL_rd (wn_none rfl) rfl (rd_len rfl rfl Try.underlying32) ?_
 refine GL_rd (wn_none rfl) rfl (rd_bin rfl rfl rfl bo_eql) ?_
 refine GL_rd (v := .bool _) (wn_none rfl) rfl (rd_move rfl rfl) ?_
 refine GL_split (t := 10) (b := _) rfl ?_ ?_
 ·intro hb; (try simp only [decide_eq_true_eq, decide_eq_false_iff_not, Bool.not_eq_true', Bool.not_eq_false', Bool.not_eq_eq_eq_not, Bool.not_true, Bool.not_false, Int.not_lt, Int.not_le] at hb)
  refine GL_pass (nw_off rfl rfl rfl rfl rfl) rfl ?_
  refine GL_pass (nw_off rfl rfl rfl rfl rfl) rfl ?_
  refine GL_pass (nw_off rfl rfl rfl rfl rfl) rfl ?_
  refine GL_rd (v := .bool _) (wn_none rfl) rfl (rd_pickT rfl rfl rfl) ?_
  refine GL_nil ?_
  refine GW_true rfl ?_
  refine GW_seq ?_
  refine GW_region ?_
  refine GL_rd (v := .int _ _) (wn_none rfl) rfl (rd_assign rfl rfl) ?_
  refine GL_nil ?_
  refine GW_ret ?_
  have ec : textsC l (min n 40) = _ := texts_long (by omega)
  exact ⟨_, res1 Try.results127 (rv_tmp (v := .int _ _) rfl rfl), by rw [ec], hp⟩
 ·intro hb; (try simp only [decide_eq_true_eq, decide_eq_false_iff_not, Bool.not_eq_true', Bool.not_eq_false', Bool.not_eq_eq_eq_not, Bool.not_true, Bool.not_false, Int.not_lt, Int.not_le] at hb)
  refine GL_rd (v := .slice _ _ _) (wn_on rfl rfl rfl rfl) rfl (rd_move rfl rfl) ?_
  refine GL_rd (wn_on rfl rfl rfl rfl) rfl (rd_len rfl rfl Try.underlying32) ?_
  refine GL_rd (wn_on rfl rfl rfl rfl) rfl (rd_bin rfl rfl rfl bo_gtr) ?_
  refine GL_rd (v := .bool _) (wn_none rfl) rfl (rd_pickF rfl rfl rfl) ?_
  refine GL_nil ?_
  refine GW_cond rfl (fun hb2 => ?_) (fun hb2 => ?_)
  ·(try simp only [decide_eq_true_eq, decide_eq_false_iff_not, Bool.not_eq_true', Bool.not_eq_false', Bool.not_eq_eq_eq_not, Bool.not_true, Bool.not_false, Int.not_lt, Int.not_le] at hb2)
   refine GW_seq ?_
   refine GW_region ?_
   refine GL_rd (v := .int _ _) (wn_none rfl) rfl (rd_assign rfl rfl) ?_
   refine GL_nil ?_
   refine GW_ret ?_
   have ec : textsC l (min n 40) = _ := texts_long (by omega)
   exact ⟨_, res1 Try.results127 (rv_tmp (v := .int _ _) rfl rfl), by rw [ec], hp⟩
  ·(try simp only [decide_eq_true_eq, decide_eq_false_iff_not, Bool.not_eq_true', Bool.not_eq_false', Bool.not_eq_eq_eq_not, Bool.not_true, Bool.not_false, Int.not_lt, Int.not_le] at hb2)
   refine GW_skip ?_
   refine GW_seq ?_
   refine GW_seq ?_
   refine GW_region ?_
   refine GL_rd (v := .int _ _) (wn_none rfl) rfl (rd_assign rfl rfl) ?_
   refine GL_nil ?_
   refine GW_block ?_
   refine GW_loop ?_
   refine Lp_ind (α := Nat) (fun a_0 f_0 w' => match a_0 with | i => ∃ fz, f_0 = (upd (upd (upd fz 0 (.slice A m c)) 1 (.int .i64 n)) 5 (.int .i64 (i : Int))) ∧ Hp w0 [] w' [] ∧ (i ≤ m) ∧ (∀ j, j < i → txB l (min n 40) j = true)) (fun a_0 => match a_0 with | i => m - i) ?_ 0 _ _ ?_
   ·rintro i f wz ⟨fz, rfl, hp, hi0, hok⟩ ihL0
    refine Lp_round ?_
    refine GW_seq ?_
    refine GW_seq ?_
    refine GW_region ?_
    refine GL_rd (v := .int _ _) (wn_none rfl) rfl (rd_move rfl rfl) ?_
    refine GL_rd (v := .slice _ _ _) (wn_none rfl) rfl (rd_move rfl rfl) ?_
    refine GL_rd (wn_none rfl) rfl (rd_len rfl rfl Try.underlying32) ?_
    refine GL_rd (wn_none rfl) rfl (rd_bin rfl rfl rfl bo_lss) ?_
    refine GL_nil ?_
    refine GW_cond rfl (fun hb3 => ?_) (fun hb3 => ?_)
    ·(try simp only [decide_eq_true_eq, decide_eq_false_iff_not, Bool.not_eq_true', Bool.not_eq_false', Bool.not_eq_eq_eq_not, Bool.not_true, Bool.not_false, Int.not_lt, Int.not_le] at hb3)
     obtain ⟨gA, bA, rfl⟩ := hI.addr (by rw [List.length_map]; omega)
     refine GW_skip ?_
     refine GW_seq ?_
     refine GW_block ?_
     refine GW_seq ?_
     refine GW_seq ?_
     refine GW_region ?_
     refine GL_rd (v := .slice _ _ _) (wn_none rfl) rfl (rd_move rfl rfl) ?_
     refine GL_rd (v := .int _ _) (wn_none rfl) rfl (rd_move rfl rfl) ?_
     refine GL_rd (wn_none rfl) rfl (rd_indexS (j := i) rfl rfl rfl Try.underlying32 ts3 rfl (by omega) _ rfl) ?_
     refine GL_rd (wn_none rfl) rfl (rd_load rfl rfl Try.underlying3 rfl ((hI.keep hp.mod).get _ _ (intAt_cell (i := i) (by omega)))) ?_
     refine GL_rd (wn_none rfl) rfl (rd_bin rfl rfl rfl bo_lss) ?_
     refine GL_rd (v := .bool _) (wn_none rfl) rfl (rd_move rfl rfl) ?_
     refine GL_split (t := 26) (b := _) rfl ?_ ?_
     ·intro hb4; (try simp only [decide_eq_true_eq, decide_eq_false_iff_not, Bool.not_eq_true', Bool.not_eq_false', Bool.not_eq_eq_eq_not, Bool.not_true, Bool.not_false, Int.not_lt, Int.not_le] at hb4)
      refine GL_pass (nw_off rfl rfl rfl rfl rfl) rfl ?_
      refine GL_pass (nw_off rfl rfl rfl rfl rfl) rfl ?_
      refine GL_pass (nw_off rfl rfl rfl rfl rfl) rfl ?_
      refine GL_pass (nw_off rfl rfl rfl rfl rfl) rfl ?_
      refine GL_pass (nw_off rfl rfl rfl rfl rfl) rfl ?_
      refine GL_pass (nw_off rfl rfl rfl rfl rfl) rfl ?_
      refine GL_rd (v := .bool _) (wn_none rfl) rfl (rd_pickT rfl rfl rfl) ?_
      refine GL_rd (v := .bool _) (wn_none rfl) rfl (rd_move rfl rfl) ?_
      refine GL_pass (nw_off rfl rfl rfl rfl rfl) rfl ?_
      refine GL_pass (nw_off rfl rfl rfl rfl rfl) rfl ?_
      refine GL_pass (nw_off rfl rfl rfl rfl rfl) rfl ?_
      refine GL_pass (nw_off rfl rfl rfl rfl rfl) rfl ?_
      refine GL_pass (nw_off rfl rfl rfl rfl rfl) rfl ?_
      refine GL_rd (v := .bool _) (wn_none rfl) rfl (rd_pickT rfl rfl rfl) ?_
      refine GL_nil ?_
      refine GW_true rfl ?_
      refine GW_seq ?_
      refine GW_region ?_
      refine GL_rd (v := .int _ _) (wn_none rfl) rfl (rd_assign rfl rfl) ?_
      refine GL_nil ?_
      refine GW_ret ?_
      have ec : textsC l (min n 40) = _ := texts_bad (i := i) (by omega) (by omega) hok (by omega)
      exact ⟨_, res1 Try.results127 (rv_tmp (v := .int _ _) rfl rfl), by rw [ec], hp⟩
     ·intro hb4; (try simp only [decide_eq_true_eq, decide_eq_false_iff_not, Bool.not_eq_true', Bool.not_eq_false', Bool.not_eq_eq_eq_not, Bool.not_true, Bool.not_false, Int.not_lt, Int.not_le] at hb4)
      refine GL_rd (v := .slice _ _ _) (wn_on rfl rfl rfl rfl) rfl (rd_move rfl rfl) ?_
      refine GL_rd (v := .int _ _) (wn_on rfl rfl rfl rfl) rfl (rd_move rfl rfl) ?_
      refine GL_rd (wn_on rfl rfl rfl rfl) rfl (rd_indexS (j := i) rfl rfl rfl Try.underlying32 ts3 rfl (by omega) _ rfl) ?_
      refine GL_rd (wn_on rfl rfl rfl rfl) rfl (rd_load rfl rfl Try.underlying3 rfl ((hI.keep hp.mod).get _ _ (intAt_cell (i := i) (by omega)))) ?_
      refine GL_rd (v := .int _ _) (wn_on rfl rfl rfl rfl) rfl (rd_move rfl rfl) ?_
      refine GL_rd (wn_on rfl rfl rfl rfl) rfl (rd_bin rfl rfl rfl bo_geq) ?_
      refine GL_rd (v := .bool _) (wn_none rfl) rfl (rd_pickF rfl rfl rfl) ?_
      refine GL_rd (v := .bool _) (wn_none rfl) rfl (rd_move rfl rfl) ?_
      refine GL_split (t := 34) (b := _) rfl ?_ ?_
      ·intro hb5; (try simp only [decide_eq_true_eq, decide_eq_false_iff_not, Bool.not_eq_true', Bool.not_eq_false', Bool.not_eq_eq_eq_not, Bool.not_true, Bool.not_false, Int.not_lt, Int.not_le] at hb5)
       refine GL_pass (nw_off rfl rfl rfl rfl rfl) rfl ?_
       refine GL_pass (nw_off rfl rfl rfl rfl rfl) rfl ?_
       refine GL_pass (nw_off rfl rfl rfl rfl rfl) rfl ?_
       refine GL_pass (nw_off rfl rfl rfl rfl rfl) rfl ?_
       refine GL_pass (nw_off rfl rfl rfl rfl rfl) rfl ?_
       refine GL_rd (v := .bool _) (wn_none rfl) rfl (rd_pickT rfl rfl rfl) ?_
       refine GL_nil ?_
       refine GW_true rfl ?_
       refine GW_seq ?_
       refine GW_region ?_
       refine GL_rd (v := .int _ _) (wn_none rfl) rfl (rd_assign rfl rfl) ?_
       refine GL_nil ?_
       refine GW_ret ?_
       have ec : textsC l (min n 40) = _ := texts_bad (i := i) (by omega) (by omega) hok (by omega)
       exact ⟨_, res1 Try.results127 (rv_tmp (v := .int _ _) rfl rfl), by rw [ec], hp⟩
      ·intro hb5; (try simp only [decide_eq_true_eq, decide_eq_false_iff_not, Bool.not_eq_true', Bool.not_eq_false', Bool.not_eq_eq_eq_not, Bool.not_true, Bool.not_false, Int.not_lt, Int.not_le] at hb5)
       refine GL_rd (v := .slice _ _ _) (wn_on rfl rfl rfl rfl) rfl (rd_move rfl rfl) ?_
       refine GL_rd (v := .int _ _) (wn_on rfl rfl rfl rfl) rfl (rd_move rfl rfl) ?_
       refine GL_rd (wn_on rfl rfl rfl rfl) rfl (rd_indexS (j := i) rfl rfl rfl Try.underlying32 ts3 rfl (by omega) _ rfl) ?_
       refine GL_rd (wn_on rfl rfl rfl rfl) rfl (rd_load rfl rfl Try.underlying3 rfl ((hI.keep hp.mod).get _ _ (intAt_cell (i := i) (by omega)))) ?_
       refine GL_rd (wn_on rfl rfl rfl rfl) rfl (rd_bin rfl rfl rfl bo_gtr) ?_
       refine GL_rd (v := .bool _) (wn_none rfl) rfl (rd_pickF rfl rfl rfl) ?_
       refine GL_nil ?_
       refine GW_cond rfl (fun hb6 => ?_) (fun hb6 => ?_)
       ·(try simp only [decide_eq_true_eq, decide_eq_false_iff_not, Bool.not_eq_true', Bool.not_eq_false', Bool.not_eq_eq_eq_not, Bool.not_true, Bool.not_false, Int.not_lt, Int.not_le] at hb6)
        refine GW_seq ?_
        refine GW_region ?_
        refine GL_rd (v := .int _ _) (wn_none rfl) rfl (rd_assign rfl rfl) ?_
        refine GL_nil ?_
        refine GW_ret ?_
        have ec : textsC l (min n 40) = _ := texts_bad (i := i) (by omega) (by omega) hok (by omega)
        exact ⟨_, res1 Try.results127 (rv_tmp (v := .int _ _) rfl rfl), by rw [ec], hp⟩
       ·(try simp only [decide_eq_true_eq, decide_eq_false_iff_not, Bool.not_eq_true', Bool.not_eq_false', Bool.not_eq_eq_eq_not, Bool.not_true, Bool.not_false, Int.not_lt, Int.not_le] at hb6)
        refine GW_skip ?_
        refine GW_seq ?_
        refine GW_region ?_
        refine GL_rd (v := .int _ _) (wn_none rfl) rfl (rd_assign rfl rfl) ?_
        refine GL_nil ?_
        refine GW_block ?_
        refine GW_loop ?_
        refine Lp_ind (α := Nat) (fun a_0 f_0 w' => match a_0 with | j => ∃ fz, f_0 = (upd (upd (upd (upd fz 0 (.slice (some ⟨gA, bA, none⟩) m c)) 5 (.int .i64 (i : Int))) 6 (.int .i64 (j : Int))) 1 (.int .i64 n)) ∧ Hp w0 [] w' [] ∧ (j ≤ i) ∧ (∀ q, q < j → q < l.length → ¬ intAt l q = intAt l i)) (fun a_0 => match a_0 with | j => i - j) ?_ 0 _ _ ?_
        ·rintro j f wz ⟨fz, rfl, hp, hj0, hin⟩ ihL1
         refine Lp_round ?_
         refine GW_seq ?_
         refine GW_seq ?_
         refine GW_region ?_
         refine GL_rd (v := .int _ _) (wn_none rfl) rfl (rd_move rfl rfl) ?_
         refine GL_rd (v := .int _ _) (wn_none rfl) rfl (rd_move rfl rfl) ?_
         refine GL_rd (wn_none rfl) rfl (rd_bin rfl rfl rfl bo_lss) ?_
         refine GL_nil ?_
         refine GW_cond rfl (fun hb7 => ?_) (fun hb7 => ?_)
         ·(try simp only [decide_eq_true_eq, decide_eq_false_iff_not, Bool.not_eq_true', Bool.not_eq_false', Bool.not_eq_eq_eq_not, Bool.not_true, Bool.not_false, Int.not_lt, Int.not_le] at hb7)
          refine GW_skip ?_
          refine GW_seq ?_
          refine GW_block ?_
          refine GW_seq ?_
          refine GW_drawnK 9 (.one 0 true (.one 1 true (.one 2 true (.one 3 true (.one 4 true (.one 5 true (.one 6 true (.one 7 true (.one 8 true .nil))))))))) mixed (by kernel_rfl) hp (fun _ h => h) fun w hp => ?_
          have hpS := hp
          refine GO_rdT (v := .slice _ _ _) rfl (wn_none rfl) rfl (fun w => (rd_move rfl rfl)) ?_
          refine GO_rdT (v := .int _ _) rfl (wn_none rfl) rfl (fun w => (rd_move rfl rfl)) ?_
          refine GO_rdT rfl (wn_none rfl) rfl (fun w => (rd_indexS (j := j) rfl rfl rfl Try.underlying32 ts3 rfl (by omega) _ rfl)) ?_
          refine GO_rd rfl rfl (wn_none rfl) rfl hpS (fun w hp => (rd_load rfl rfl Try.underlying3 rfl ((hI.keep hp.mod).get _ _ (intAt_cell (i := j) (by omega))))) ?_
          refine GO_rdT (v := .slice _ _ _) rfl (wn_none rfl) rfl (fun w => (rd_move rfl rfl)) ?_
          refine GO_rdT (v := .int _ _) rfl (wn_none rfl) rfl (fun w => (rd_move rfl rfl)) ?_
          refine GO_rdT rfl (wn_none rfl) rfl (fun w => (rd_indexS (j := i) rfl rfl rfl Try.underlying32 ts3 rfl (by omega) _ rfl)) ?_
          refine GO_rd rfl rfl (wn_none rfl) rfl hpS (fun w hp => (rd_load rfl rfl Try.underlying3 rfl ((hI.keep hp.mod).get _ _ (intAt_cell (i := i) (by omega))))) ?_
          refine GO_rd rfl rfl (wn_none rfl) rfl hpS (fun w hp => (rd_bin rfl rfl rfl bo_eql)) ?_
          refine GO_nil ?_
          refine GW_cond rfl (fun hb8 => ?_) (fun hb8 => ?_)
          ·(try simp only [decide_eq_true_eq, decide_eq_false_iff_not, Bool.not_eq_true', Bool.not_eq_false', Bool.not_eq_eq_eq_not, Bool.not_true, Bool.not_false, Int.not_lt, Int.not_le] at hb8)
           have hd : intAt l i ∈ l.take i := mem_take_int (j := j) (by omega) (by omega) hb8
           refine GW_seq ?_
           refine GW_region ?_
           refine GL_rd (v := .int _ _) (wn_none rfl) rfl (rd_assign rfl rfl) ?_
           refine GL_nil ?_
           refine GW_ret ?_
           have ec : textsC l (min n 40) = _ := texts_dup (i := i) (by omega) (by omega) hok (by omega) hd
           exact ⟨_, res1 Try.results127 (rv_tmp (v := .int _ _) rfl rfl), by rw [ec], hp⟩
          ·(try simp only [decide_eq_true_eq, decide_eq_false_iff_not, Bool.not_eq_true', Bool.not_eq_false', Bool.not_eq_eq_eq_not, Bool.not_true, Bool.not_false, Int.not_lt, Int.not_le] at hb8)
           have hne := hb8
           refine GW_skip ?_
           refine GW_region ?_
           refine GL_rd (v := .int _ _) (wn_none rfl) rfl (rd_move rfl rfl) ?_
           refine GL_rd (wn_none rfl) rfl (rd_bin rfl rfl rfl (bo_add64 (by omega))) ?_
           refine GL_rd (v := .int _ _) (wn_none rfl) rfl (rd_assign rfl rfl) ?_
           refine GL_nil ?_
           exact ihL1 (j + 1) _ _ (by simp only []; omega) ⟨_, slots4 rfl rfl rfl rfl, hp, by omega, fun q hq hl => by rcases Nat.lt_succ_iff_lt_or_eq.1 hq with h | h; exact hin q h hl; subst h; exact hne⟩
         ·(try simp only [decide_eq_true_eq, decide_eq_false_iff_not, Bool.not_eq_true', Bool.not_eq_false', Bool.not_eq_eq_eq_not, Bool.not_true, Bool.not_false, Int.not_lt, Int.not_le] at hb7)
          have hoki := txB_yes (l := l) (n := min n 40) (i := i) (by omega) (no_take_int (fun q hq hl => hin q (by omega) hl))
          refine GW_exit ?_
          refine GW_region ?_
          refine GL_rd (v := .int _ _) (wn_none rfl) rfl (rd_move rfl rfl) ?_
          refine GL_rd (wn_none rfl) rfl (rd_bin rfl rfl rfl (bo_add64 (by omega))) ?_
          refine GL_rd (v := .int _ _) (wn_none rfl) rfl (rd_assign rfl rfl) ?_
          refine GL_nil ?_
          exact ihL0 (i + 1) _ _ (by simp only []; omega) ⟨_, slots3 rfl rfl rfl, hp, by omega, fun j hj => by rcases Nat.lt_succ_iff_lt_or_eq.1 hj with h | h; exact hok j h; subst h; exact hoki⟩
        ·refine ⟨_, slots4 rfl rfl rfl rfl, hp, Nat.zero_le _, fun q hq => absurd hq (by omega)⟩
    ·(try simp only [decide_eq_true_eq, decide_eq_false_iff_not, Bool.not_eq_true', Bool.not_eq_false', Bool.not_eq_eq_eq_not, Bool.not_true, Bool.not_false, Int.not_lt, Int.not_le] at hb3)
     refine GW_exit ?_
     refine GW_seq ?_
     refine GW_region ?_
     refine GL_rd (v := .int _ _) (wn_none rfl) rfl (rd_assign rfl rfl) ?_
     refine GL_nil ?_
     refine GW_ret ?_
     obtain rfl : m = i := by omega
     have ec : textsC l (min n 40) = 0 := texts_ok (by omega) (by rw [hlm]; exact hok)
     exact ⟨_, res1 Try.results127 (rv_tmp (v := .int _ _) rfl rfl), by rw [ec], hp⟩
   ·refine ⟨_, slots3 rfl rfl rfl, hp, Nat.zero_le _, fun j hj => absurd hj (by omega)⟩
theorem bi_Check (c : Clp) (hv tv : Value) (mh mt : Nat) (m k : Int) (w0 : World) (hH : Sl w0 hv 1 mh (c.holds.map Value.string)) (hT : Sl w0 tv 1 mt (c.texts.map (Value.int .i64))) (hz : ∀ x ∈ c.holds, x.size ≤ 4294967296) : Does Try.prog 63 #[.agg ⟨clipC c hv tv⟩, .int .i64 m, .int .i64 k] w0 fun v w' => v = .int .i64 (clpC c m k) ∧ Hp w0 [] w' [] := by
 refine does_of (l := [.agg ⟨clipC c hv tv⟩, .int .i64 m, .int .i64 k]) Try.func63 (by kernel_rfl) rfl Try.ntmps63 rfl rfl ?_
 have hp := Hp.refl w0 []
 refine GW_seq ?_
 refine GW_region ?_
 refine GL_box (wn_none rfl) rfl rfl rfl rfl hp ?_
 intro g w hp
 refine GL_rd (v := .int _ _) (wn_none rfl) rfl (rd_assign rfl rfl) ?_
 refine GL_nil ?_
 refine GW_seq ?_
 refine GW_block ?_
 refine GW_seq ?_
 refine GW_region ?_
 refine GL_rd (wn_none rfl) rfl (rd_field rfl rfl fa83_1 _ rfl) ?_
 refine GL_rd (wn_none rfl) rfl (rd_load rfl rfl Try.underlying3 rfl ((cell_of_cells (hp.get 0 rfl) _).trans (clip_cls _ _ _))) ?_
 refine GL_rd (wn_none rfl) rfl (rd_bin rfl rfl rfl bo_lss) ?_
 refine GL_rd (v := .bool _) (wn_none rfl) rfl (rd_move rfl rfl) ?_
 refine GL_split (t := 12) (b := _) rfl ?_ ?_
 ·intro hb; (try simp only [decide_eq_true_eq, decide_eq_false_iff_not, Bool.not_eq_true', Bool.not_eq_false', Bool.not_eq_eq_eq_not, Bool.not_true, Bool.not_false, Int.not_lt, Int.not_le] at hb)
  refine GL_pass (nw_off rfl rfl rfl rfl rfl) rfl ?_
  refine GL_pass (nw_off rfl rfl rfl rfl rfl) rfl ?_
  refine GL_pass (nw_off rfl rfl rfl rfl rfl) rfl ?_
  refine GL_pass (nw_off rfl rfl rfl rfl rfl) rfl ?_
  refine GL_rd (v := .bool _) (wn_none rfl) rfl (rd_pickT rfl rfl rfl) ?_
  refine GL_rd (v := .bool _) (wn_none rfl) rfl (rd_move rfl rfl) ?_
  refine GL_pass (nw_off rfl rfl rfl rfl rfl) rfl ?_
  refine GL_pass (nw_off rfl rfl rfl rfl rfl) rfl ?_
  refine GL_pass (nw_off rfl rfl rfl rfl rfl) rfl ?_
  refine GL_rd (v := .bool _) (wn_none rfl) rfl (rd_pickT rfl rfl rfl) ?_
  refine GL_rd (v := .bool _) (wn_none rfl) rfl (rd_assign rfl rfl) ?_
  refine GL_nil ?_
  refine GW_true rfl ?_
  refine GW_seq ?_
  refine GW_region ?_
  refine GL_rd (v := .int _ _) (wn_none rfl) rfl (rd_assign rfl rfl) ?_
  refine GL_nil ?_
  refine GW_ret ?_
  have ec : clpC c m k = _ := clpC_1 (by omega)
  exact ⟨_, res1 Try.results63 (rv_tmp (v := .int _ _) rfl rfl), by rw [ec], hp.mods⟩
 ·intro hb; (try simp only [decide_eq_true_eq, decide_eq_false_iff_not, Bool.not_eq_true', Bool.not_eq_false', Bool.not_eq_eq_eq_not, Bool.not_true, Bool.not_false, Int.not_lt, Int.not_le] at hb)
  refine GL_rd (wn_on rfl rfl rfl rfl) rfl (rd_field rfl rfl fa83_1 _ rfl) ?_
  refine GL_rd (wn_on rfl rfl rfl rfl) rfl (rd_load rfl rfl Try.underlying3 rfl ((cell_of_cells (hp.get 0 rfl) _).trans (clip_cls _ _ _))) ?_
  refine GL_rd (v := .int _ _) (wn_on rfl rfl rfl rfl) rfl (rd_move rfl rfl) ?_
  refine GL_rd (wn_on rfl rfl rfl rfl) rfl (rd_bin rfl rfl rfl bo_geq) ?_
  refine GL_rd (v := .bool _) (wn_none rfl) rfl (rd_pickF rfl rfl rfl) ?_
  refine GL_rd (v := .bool _) (wn_none rfl) rfl (rd_move rfl rfl) ?_
  refine GL_split (t := 18) (b := _) rfl ?_ ?_
  ·intro hb2; (try simp only [decide_eq_true_eq, decide_eq_false_iff_not, Bool.not_eq_true', Bool.not_eq_false', Bool.not_eq_eq_eq_not, Bool.not_true, Bool.not_false, Int.not_lt, Int.not_le] at hb2)
   refine GL_pass (nw_off rfl rfl rfl rfl rfl) rfl ?_
   refine GL_pass (nw_off rfl rfl rfl rfl rfl) rfl ?_
   refine GL_pass (nw_off rfl rfl rfl rfl rfl) rfl ?_
   refine GL_rd (v := .bool _) (wn_none rfl) rfl (rd_pickT rfl rfl rfl) ?_
   refine GL_rd (v := .bool _) (wn_none rfl) rfl (rd_assign rfl rfl) ?_
   refine GL_nil ?_
   refine GW_true rfl ?_
   refine GW_seq ?_
   refine GW_region ?_
   refine GL_rd (v := .int _ _) (wn_none rfl) rfl (rd_assign rfl rfl) ?_
   refine GL_nil ?_
   refine GW_ret ?_
   have ec : clpC c m k = _ := clpC_1 (by omega)
   exact ⟨_, res1 Try.results63 (rv_tmp (v := .int _ _) rfl rfl), by rw [ec], hp.mods⟩
  ·intro hb2; (try simp only [decide_eq_true_eq, decide_eq_false_iff_not, Bool.not_eq_true', Bool.not_eq_false', Bool.not_eq_eq_eq_not, Bool.not_true, Bool.not_false, Int.not_lt, Int.not_le] at hb2)
   refine GL_rd (wn_on rfl rfl rfl rfl) rfl (rd_field rfl rfl fa83_1 _ rfl) ?_
   refine GL_rd (wn_on rfl rfl rfl rfl) rfl (rd_load rfl rfl Try.underlying3 rfl ((cell_of_cells (hp.get 0 rfl) _).trans (clip_cls _ _ _))) ?_
   refine GL_rd (wn_on rfl rfl rfl rfl) rfl (rd_bin rfl rfl rfl bo_geq) ?_
   refine GL_rd (v := .bool _) (wn_none rfl) rfl (rd_pickF rfl rfl rfl) ?_
   refine GL_rd (v := .bool _) (wn_none rfl) rfl (rd_assign rfl rfl) ?_
   refine GL_nil ?_
   refine GW_cond rfl (fun hb3 => ?_) (fun hb3 => ?_)
   ·(try simp only [decide_eq_true_eq, decide_eq_false_iff_not, Bool.not_eq_true', Bool.not_eq_false', Bool.not_eq_eq_eq_not, Bool.not_true, Bool.not_false, Int.not_lt, Int.not_le] at hb3)
    refine GW_seq ?_
    refine GW_region ?_
    refine GL_rd (v := .int _ _) (wn_none rfl) rfl (rd_assign rfl rfl) ?_
    refine GL_nil ?_
    refine GW_ret ?_
    have ec : clpC c m k = _ := clpC_1 (by omega)
    exact ⟨_, res1 Try.results63 (rv_tmp (v := .int _ _) rfl rfl), by rw [ec], hp.mods⟩
   ·(try simp only [decide_eq_true_eq, decide_eq_false_iff_not, Bool.not_eq_true', Bool.not_eq_false', Bool.not_eq_eq_eq_not, Bool.not_true, Bool.not_false, Int.not_lt, Int.not_le] at hb3)
    refine GW_seq ?_
    refine GW_region ?_
    refine GL_rd (wn_none rfl) rfl (rd_field rfl rfl fa83_2 _ rfl) ?_
    refine GL_rd (wn_none rfl) rfl (rd_load rfl rfl Try.underlying3 rfl ((cell_of_cells (hp.get 0 rfl) _).trans (clip_made _ _ _))) ?_
    refine GL_rd (wn_none rfl) rfl (rd_bin rfl rfl rfl bo_lss) ?_
    refine GL_rd (v := .bool _) (wn_none rfl) rfl (rd_move rfl rfl) ?_
    refine GL_split (t := 27) (b := _) rfl ?_ ?_
    ·intro hb4; (try simp only [decide_eq_true_eq, decide_eq_false_iff_not, Bool.not_eq_true', Bool.not_eq_false', Bool.not_eq_eq_eq_not, Bool.not_true, Bool.not_false, Int.not_lt, Int.not_le] at hb4)
     refine GL_pass (nw_off rfl rfl rfl rfl rfl) rfl ?_
     refine GL_pass (nw_off rfl rfl rfl rfl rfl) rfl ?_
     refine GL_pass (nw_off rfl rfl rfl rfl rfl) rfl ?_
     refine GL_rd (v := .bool _) (wn_none rfl) rfl (rd_pickT rfl rfl rfl) ?_
     refine GL_rd (v := .bool _) (wn_none rfl) rfl (rd_move rfl rfl) ?_
     refine GL_pass (nw_off rfl rfl rfl rfl rfl) rfl ?_
     refine GL_pass (nw_off rfl rfl rfl rfl rfl) rfl ?_
     refine GL_pass (nw_off rfl rfl rfl rfl rfl) rfl ?_
     refine GL_rd (v := .bool _) (wn_none rfl) rfl (rd_pickT rfl rfl rfl) ?_
     refine GL_rd (v := .bool _) (wn_none rfl) rfl (rd_move rfl rfl) ?_
     refine GL_pass (nw_off rfl rfl rfl rfl rfl) rfl ?_
     refine GL_pass (nw_off rfl rfl rfl rfl rfl) rfl ?_
     refine GL_pass (nw_off rfl rfl rfl rfl rfl) rfl ?_
     refine GL_rd (v := .bool _) (wn_none rfl) rfl (rd_pickT rfl rfl rfl) ?_
     refine GL_rd (v := .bool _) (wn_none rfl) rfl (rd_move rfl rfl) ?_
     refine GL_pass (nw_off rfl rfl rfl rfl rfl) rfl ?_
     refine GL_pass (nw_off rfl rfl rfl rfl rfl) rfl ?_
     refine GL_pass (nw_off rfl rfl rfl rfl rfl) rfl ?_
     refine GL_pass (nw_off rfl rfl rfl rfl rfl) rfl ?_
     refine GL_pass (nw_undef rfl rfl rfl rfl) rfl ?_
     refine GL_pass (nw_undef rfl rfl rfl rfl) rfl ?_
     refine GL_pass (nw_undef rfl rfl rfl rfl) rfl ?_
     refine GL_pass (nw_off rfl rfl rfl rfl rfl) rfl ?_
     refine GL_rd (v := .bool _) (wn_none rfl) rfl (rd_pickT rfl rfl rfl) ?_
     refine GL_rd (v := .bool _) (wn_none rfl) rfl (rd_assign rfl rfl) ?_
     refine GL_nil ?_
     refine GW_true rfl ?_
     refine GW_seq ?_
     refine GW_region ?_
     refine GL_rd (v := .int _ _) (wn_none rfl) rfl (rd_assign rfl rfl) ?_
     refine GL_nil ?_
     refine GW_ret ?_
     have hT2 : ¬ clpT c := by rintro ⟨q1, q2, q3, q4, q5⟩; rcases q5 with q5 | q5 <;> first | omega | simp_all
     have ec : clpC c m k = _ := clpC_2 (by omega) hT2
     exact ⟨_, res1 Try.results63 (rv_tmp (v := .int _ _) rfl rfl), by rw [ec], hp.mods⟩
    ·intro hb4; (try simp only [decide_eq_true_eq, decide_eq_false_iff_not, Bool.not_eq_true', Bool.not_eq_false', Bool.not_eq_eq_eq_not, Bool.not_true, Bool.not_false, Int.not_lt, Int.not_le] at hb4)
     refine GL_rd (wn_on rfl rfl rfl rfl) rfl (rd_field rfl rfl fa83_2 _ rfl) ?_
     refine GL_rd (wn_on rfl rfl rfl rfl) rfl (rd_load rfl rfl Try.underlying3 rfl ((cell_of_cells (hp.get 0 rfl) _).trans (clip_made _ _ _))) ?_
     refine GL_rd (wn_on rfl rfl rfl rfl) rfl (rd_bin rfl rfl rfl bo_gtr) ?_
     refine GL_rd (v := .bool _) (wn_none rfl) rfl (rd_pickF rfl rfl rfl) ?_
     refine GL_rd (v := .bool _) (wn_none rfl) rfl (rd_move rfl rfl) ?_
     refine GL_split (t := 32) (b := _) rfl ?_ ?_
     ·intro hb5; (try simp only [decide_eq_true_eq, decide_eq_false_iff_not, Bool.not_eq_true', Bool.not_eq_false', Bool.not_eq_eq_eq_not, Bool.not_true, Bool.not_false, Int.not_lt, Int.not_le] at hb5)
      refine GL_pass (nw_off rfl rfl rfl rfl rfl) rfl ?_
      refine GL_pass (nw_off rfl rfl rfl rfl rfl) rfl ?_
      refine GL_pass (nw_off rfl rfl rfl rfl rfl) rfl ?_
      refine GL_rd (v := .bool _) (wn_none rfl) rfl (rd_pickT rfl rfl rfl) ?_
      refine GL_rd (v := .bool _) (wn_none rfl) rfl (rd_move rfl rfl) ?_
      refine GL_pass (nw_off rfl rfl rfl rfl rfl) rfl ?_
      refine GL_pass (nw_off rfl rfl rfl rfl rfl) rfl ?_
      refine GL_pass (nw_off rfl rfl rfl rfl rfl) rfl ?_
      refine GL_rd (v := .bool _) (wn_none rfl) rfl (rd_pickT rfl rfl rfl) ?_
      refine GL_rd (v := .bool _) (wn_none rfl) rfl (rd_move rfl rfl) ?_
      refine GL_pass (nw_off rfl rfl rfl rfl rfl) rfl ?_
      refine GL_pass (nw_off rfl rfl rfl rfl rfl) rfl ?_
      refine GL_pass (nw_off rfl rfl rfl rfl rfl) rfl ?_
      refine GL_pass (nw_off rfl rfl rfl rfl rfl) rfl ?_
      refine GL_pass (nw_undef rfl rfl rfl rfl) rfl ?_
      refine GL_pass (nw_undef rfl rfl rfl rfl) rfl ?_
      refine GL_pass (nw_undef rfl rfl rfl rfl) rfl ?_
      refine GL_pass (nw_off rfl rfl rfl rfl rfl) rfl ?_
      refine GL_rd (v := .bool _) (wn_none rfl) rfl (rd_pickT rfl rfl rfl) ?_
      refine GL_rd (v := .bool _) (wn_none rfl) rfl (rd_assign rfl rfl) ?_
      refine GL_nil ?_
      refine GW_true rfl ?_
      refine GW_seq ?_
      refine GW_region ?_
      refine GL_rd (v := .int _ _) (wn_none rfl) rfl (rd_assign rfl rfl) ?_
      refine GL_nil ?_
      refine GW_ret ?_
      have hT2 : ¬ clpT c := by rintro ⟨q1, q2, q3, q4, q5⟩; rcases q5 with q5 | q5 <;> first | omega | simp_all
      have ec : clpC c m k = _ := clpC_2 (by omega) hT2
      exact ⟨_, res1 Try.results63 (rv_tmp (v := .int _ _) rfl rfl), by rw [ec], hp.mods⟩
     ·intro hb5; (try simp only [decide_eq_true_eq, decide_eq_false_iff_not, Bool.not_eq_true', Bool.not_eq_false', Bool.not_eq_eq_eq_not, Bool.not_true, Bool.not_false, Int.not_lt, Int.not_le] at hb5)
      refine GL_rd (wn_on rfl rfl rfl rfl) rfl (rd_field rfl rfl fa83_4 _ rfl) ?_
      refine GL_rd (wn_on rfl rfl rfl rfl) rfl (rd_load rfl rfl Try.underlying3 rfl ((cell_of_cells (hp.get 0 rfl) _).trans (clip_event _ _ _))) ?_
      refine GL_rd (wn_on rfl rfl rfl rfl) rfl (rd_bin rfl rfl rfl bo_lss) ?_
      refine GL_rd (v := .bool _) (wn_none rfl) rfl (rd_pickF rfl rfl rfl) ?_
      refine GL_rd (v := .bool _) (wn_none rfl) rfl (rd_move rfl rfl) ?_
      refine GL_split (t := 37) (b := _) rfl ?_ ?_
      ·intro hb6; (try simp only [decide_eq_true_eq, decide_eq_false_iff_not, Bool.not_eq_true', Bool.not_eq_false', Bool.not_eq_eq_eq_not, Bool.not_true, Bool.not_false, Int.not_lt, Int.not_le] at hb6)
       refine GL_pass (nw_off rfl rfl rfl rfl rfl) rfl ?_
       refine GL_pass (nw_off rfl rfl rfl rfl rfl) rfl ?_
       refine GL_pass (nw_off rfl rfl rfl rfl rfl) rfl ?_
       refine GL_rd (v := .bool _) (wn_none rfl) rfl (rd_pickT rfl rfl rfl) ?_
       refine GL_rd (v := .bool _) (wn_none rfl) rfl (rd_move rfl rfl) ?_
       refine GL_pass (nw_off rfl rfl rfl rfl rfl) rfl ?_
       refine GL_pass (nw_off rfl rfl rfl rfl rfl) rfl ?_
       refine GL_pass (nw_off rfl rfl rfl rfl rfl) rfl ?_
       refine GL_pass (nw_off rfl rfl rfl rfl rfl) rfl ?_
       refine GL_pass (nw_undef rfl rfl rfl rfl) rfl ?_
       refine GL_pass (nw_undef rfl rfl rfl rfl) rfl ?_
       refine GL_pass (nw_undef rfl rfl rfl rfl) rfl ?_
       refine GL_pass (nw_off rfl rfl rfl rfl rfl) rfl ?_
       refine GL_rd (v := .bool _) (wn_none rfl) rfl (rd_pickT rfl rfl rfl) ?_
       refine GL_rd (v := .bool _) (wn_none rfl) rfl (rd_assign rfl rfl) ?_
       refine GL_nil ?_
       refine GW_true rfl ?_
       refine GW_seq ?_
       refine GW_region ?_
       refine GL_rd (v := .int _ _) (wn_none rfl) rfl (rd_assign rfl rfl) ?_
       refine GL_nil ?_
       refine GW_ret ?_
       have hT2 : ¬ clpT c := by rintro ⟨q1, q2, q3, q4, q5⟩; rcases q5 with q5 | q5 <;> first | omega | simp_all
       have ec : clpC c m k = _ := clpC_2 (by omega) hT2
       exact ⟨_, res1 Try.results63 (rv_tmp (v := .int _ _) rfl rfl), by rw [ec], hp.mods⟩
      ·intro hb6; (try simp only [decide_eq_true_eq, decide_eq_false_iff_not, Bool.not_eq_true', Bool.not_eq_false', Bool.not_eq_eq_eq_not, Bool.not_true, Bool.not_false, Int.not_lt, Int.not_le] at hb6)
       refine GL_rd (wn_on rfl rfl rfl rfl) rfl (rd_field rfl rfl fa83_4 _ rfl) ?_
       refine GL_rd (wn_on rfl rfl rfl rfl) rfl (rd_load rfl rfl Try.underlying3 rfl ((cell_of_cells (hp.get 0 rfl) _).trans (clip_event _ _ _))) ?_
       refine GL_rd (wn_on rfl rfl rfl rfl) rfl (rd_bin rfl rfl rfl bo_gtr) ?_
       refine GL_rd (v := .bool _) (wn_none rfl) rfl (rd_pickF rfl rfl rfl) ?_
       refine GL_rd (v := .bool _) (wn_none rfl) rfl (rd_move rfl rfl) ?_
       refine GL_split (t := 42) (b := _) rfl ?_ ?_
       ·intro hb7; (try simp only [decide_eq_true_eq, decide_eq_false_iff_not, Bool.not_eq_true', Bool.not_eq_false', Bool.not_eq_eq_eq_not, Bool.not_true, Bool.not_false, Int.not_lt, Int.not_le] at hb7)
        refine GL_pass (nw_off rfl rfl rfl rfl rfl) rfl ?_
        refine GL_pass (nw_off rfl rfl rfl rfl rfl) rfl ?_
        refine GL_pass (nw_off rfl rfl rfl rfl rfl) rfl ?_
        refine GL_pass (nw_off rfl rfl rfl rfl rfl) rfl ?_
        refine GL_pass (nw_undef rfl rfl rfl rfl) rfl ?_
        refine GL_pass (nw_undef rfl rfl rfl rfl) rfl ?_
        refine GL_pass (nw_undef rfl rfl rfl rfl) rfl ?_
        refine GL_pass (nw_off rfl rfl rfl rfl rfl) rfl ?_
        refine GL_rd (v := .bool _) (wn_none rfl) rfl (rd_pickT rfl rfl rfl) ?_
        refine GL_rd (v := .bool _) (wn_none rfl) rfl (rd_assign rfl rfl) ?_
        refine GL_nil ?_
        refine GW_true rfl ?_
        refine GW_seq ?_
        refine GW_region ?_
        refine GL_rd (v := .int _ _) (wn_none rfl) rfl (rd_assign rfl rfl) ?_
        refine GL_nil ?_
        refine GW_ret ?_
        have hT2 : ¬ clpT c := by rintro ⟨q1, q2, q3, q4, q5⟩; rcases q5 with q5 | q5 <;> first | omega | simp_all
        have ec : clpC c m k = _ := clpC_2 (by omega) hT2
        exact ⟨_, res1 Try.results63 (rv_tmp (v := .int _ _) rfl rfl), by rw [ec], hp.mods⟩
       ·intro hb7; (try simp only [decide_eq_true_eq, decide_eq_false_iff_not, Bool.not_eq_true', Bool.not_eq_false', Bool.not_eq_eq_eq_not, Bool.not_true, Bool.not_false, Int.not_lt, Int.not_le] at hb7)
        refine GL_rd (wn_on rfl rfl rfl rfl) rfl (rd_field rfl rfl fa83_3 _ rfl) ?_
        refine GL_rd (wn_on rfl rfl rfl rfl) rfl (rd_load rfl rfl Try.underlying4 rfl ((cell_of_cells (hp.get 0 rfl) _).trans (clip_fired _ _ _))) ?_
        refine GL_rd (wn_on rfl rfl rfl rfl) rfl (rd_not rfl rfl) ?_
        refine GL_rd (v := .bool _) (wn_on rfl rfl rfl rfl) rfl (rd_move rfl rfl) ?_
        refine GL_split (t := 46) (b := _) rfl ?_ ?_
        ·intro hb8; (try simp only [decide_eq_true_eq, decide_eq_false_iff_not, Bool.not_eq_true', Bool.not_eq_false', Bool.not_eq_eq_eq_not, Bool.not_true, Bool.not_false, Int.not_lt, Int.not_le] at hb8)
         refine GL_rd (wn_on rfl rfl rfl rfl) rfl (rd_field rfl rfl fa83_4 _ rfl) ?_
         refine GL_rd (wn_on rfl rfl rfl rfl) rfl (rd_load rfl rfl Try.underlying3 rfl ((cell_of_cells (hp.get 0 rfl) _).trans (clip_event _ _ _))) ?_
         refine GL_rd (wn_on rfl rfl rfl rfl) rfl (rd_bin rfl rfl rfl bo_neq) ?_
         refine GL_rd (v := .bool _) (wn_on rfl rfl rfl rfl) rfl (rd_pickT rfl rfl rfl) ?_
         refine GL_rd (v := .bool _) (wn_none rfl) rfl (rd_pickF rfl rfl rfl) ?_
         refine GL_rd (v := .bool _) (wn_none rfl) rfl (rd_assign rfl rfl) ?_
         refine GL_nil ?_
         refine GW_cond rfl (fun hb9 => ?_) (fun hb9 => ?_)
         ·(try simp only [decide_eq_true_eq, decide_eq_false_iff_not, Bool.not_eq_true', Bool.not_eq_false', Bool.not_eq_eq_eq_not, Bool.not_true, Bool.not_false, Int.not_lt, Int.not_le] at hb9)
          refine GW_seq ?_
          refine GW_region ?_
          refine GL_rd (v := .int _ _) (wn_none rfl) rfl (rd_assign rfl rfl) ?_
          refine GL_nil ?_
          refine GW_ret ?_
          have hT2 : ¬ clpT c := by rintro ⟨q1, q2, q3, q4, q5⟩; rcases q5 with q5 | q5 <;> first | omega | simp_all
          have ec : clpC c m k = _ := clpC_2 (by omega) hT2
          exact ⟨_, res1 Try.results63 (rv_tmp (v := .int _ _) rfl rfl), by rw [ec], hp.mods⟩
         ·(try simp only [decide_eq_true_eq, decide_eq_false_iff_not, Bool.not_eq_true', Bool.not_eq_false', Bool.not_eq_eq_eq_not, Bool.not_true, Bool.not_false, Int.not_lt, Int.not_le] at hb9)
          refine GW_seq ?_
          refine GW_region ?_
          refine GL_rd (wn_none rfl) rfl (rd_field rfl rfl fa83_6 _ rfl) ?_
          refine GL_rd (wn_none rfl) rfl (rd_load rfl rfl Try.underlying9 rfl ((cell_of_cells (hp.get 0 rfl) _).trans (clip_note _ _ _))) ?_
          refine GL_rd (wn_none rfl) rfl (rd_lenS rfl rfl Try.underlying9) ?_
          refine GL_rd (wn_none rfl) rfl (rd_bin rfl rfl rfl bo_gtr) ?_
          refine GL_rd (v := .bool _) (wn_none rfl) rfl (rd_assign rfl rfl) ?_
          refine GL_nil ?_
          refine GW_cond rfl (fun hb10 => ?_) (fun hb10 => ?_)
          ·(try simp only [decide_eq_true_eq, decide_eq_false_iff_not, Bool.not_eq_true', Bool.not_eq_false', Bool.not_eq_eq_eq_not, Bool.not_true, Bool.not_false, Int.not_lt, Int.not_le] at hb10)
           refine GW_seq ?_
           refine GW_region ?_
           refine GL_rd (v := .int _ _) (wn_none rfl) rfl (rd_assign rfl rfl) ?_
           refine GL_nil ?_
           refine GW_ret ?_
           have hT1 : clpT c := ⟨by omega, by omega, by omega, by omega, by first | exact .inr (by omega) | (left; simp_all)⟩
           have ec : clpC c m k = _ := clpC_3 (by omega) hT1 (by omega)
           exact ⟨_, res1 Try.results63 (rv_tmp (v := .int _ _) rfl rfl), by rw [ec], hp.mods⟩
          ·(try simp only [decide_eq_true_eq, decide_eq_false_iff_not, Bool.not_eq_true', Bool.not_eq_false', Bool.not_eq_eq_eq_not, Bool.not_true, Bool.not_false, Int.not_lt, Int.not_le] at hb10)
           refine GW_skip ?_
           refine GW_seq ?_
           refine GW_seq ?_
           refine GW_region ?_
           refine GL_rd (wn_none rfl) rfl (rd_field rfl rfl fa83_5 _ rfl) ?_
           refine GL_rd (wn_none rfl) rfl (rd_load rfl rfl Try.underlying40 rfl ((cell_of_cells (hp.get 0 rfl) _).trans (clip_holds _ _ _))) ?_
           refine GL_call (wn_none rfl) rfl rfl (bi_holds _ mh c.holds _ (hH.keep hp.mod) hz) rfl ?_
           rintro _ w ⟨rfl, hk⟩
           have hp := hp.comp hk
           refine GL_rd (v := .int _ _) (wn_none rfl) rfl (rd_assign rfl rfl) ?_
           refine GL_nil ?_
           refine GW_seq ?_
           refine GW_region ?_
           refine GL_rd (v := .int _ _) (wn_none rfl) rfl (rd_move rfl rfl) ?_
           refine GL_rd (wn_none rfl) rfl (rd_bin rfl rfl rfl bo_neq) ?_
           refine GL_nil ?_
           refine GW_cond rfl (fun hb11 => ?_) (fun hb11 => ?_)
           ·(try simp only [decide_eq_true_eq, decide_eq_false_iff_not, Bool.not_eq_true', Bool.not_eq_false', Bool.not_eq_eq_eq_not, Bool.not_true, Bool.not_false, Int.not_lt, Int.not_le] at hb11)
            have hh := hb11
            refine GW_seq ?_
            refine GW_region ?_
            refine GL_rd (v := .int _ _) (wn_none rfl) rfl (rd_move rfl rfl) ?_
            refine GL_rd (v := .int _ _) (wn_none rfl) rfl (rd_assign rfl rfl) ?_
            refine GL_nil ?_
            refine GW_ret ?_
            have hT1 : clpT c := ⟨by omega, by omega, by omega, by omega, by first | exact .inr (by omega) | (left; simp_all)⟩
            have ec : clpC c m k = _ := clpC_4 (by omega) hT1 (by omega) hh
            exact ⟨_, res1 Try.results63 (rv_tmp (v := .int _ _) rfl rfl), by rw [ec], hp.mods⟩
           ·(try simp only [decide_eq_true_eq, decide_eq_false_iff_not, Bool.not_eq_true', Bool.not_eq_false', Bool.not_eq_eq_eq_not, Bool.not_true, Bool.not_false, Int.not_lt, Int.not_le] at hb11)
            have hh := hb11
            refine GW_skip ?_
            refine GW_seq ?_
            refine GW_region ?_
            refine GL_rd (wn_none rfl) rfl (rd_field rfl rfl fa83_7 _ rfl) ?_
            refine GL_rd (wn_none rfl) rfl (rd_load rfl rfl Try.underlying32 rfl ((cell_of_cells (hp.get 0 rfl) _).trans (clip_texts _ _ _))) ?_
            refine GL_rd (v := .int _ _) (wn_none rfl) rfl (rd_move rfl rfl) ?_
            refine GL_rd (wn_none rfl) rfl (rd_min rfl rfl rfl) ?_
            refine GL_call (wn_none rfl) rfl rfl (bi_texts _ mt c.texts (min k 40) _ (hT.keep hp.mod)) rfl ?_
            rintro _ w ⟨rfl, hk⟩
            have hp := hp.comp hk
            refine GL_rd (v := .int _ _) (wn_none rfl) rfl (rd_assign rfl rfl) ?_
            refine GL_nil ?_
            refine GW_ret ?_
            have hT1 : clpT c := ⟨by omega, by omega, by omega, by omega, by first | exact .inr (by omega) | (left; simp_all)⟩
            have ec : clpC c m k = _ := clpC_5 (by omega) hT1 (by omega) hh
            exact ⟨_, res1 Try.results63 (rv_tmp (v := .int _ _) rfl rfl), by rw [ec], hp.mods⟩
        ·intro hb8; (try simp only [decide_eq_true_eq, decide_eq_false_iff_not, Bool.not_eq_true', Bool.not_eq_false', Bool.not_eq_eq_eq_not, Bool.not_true, Bool.not_false, Int.not_lt, Int.not_le] at hb8)
         refine GL_pass (nw_off rfl rfl rfl rfl rfl) rfl ?_
         refine GL_pass (nw_off rfl rfl rfl rfl rfl) rfl ?_
         refine GL_pass (nw_off rfl rfl rfl rfl rfl) rfl ?_
         refine GL_rd (v := .bool _) (wn_on rfl rfl rfl rfl) rfl (rd_pickF rfl rfl rfl) ?_
         refine GL_rd (v := .bool _) (wn_none rfl) rfl (rd_pickF rfl rfl rfl) ?_
         refine GL_rd (v := .bool _) (wn_none rfl) rfl (rd_assign rfl rfl) ?_
         refine GL_nil ?_
         refine GW_false rfl ?_
         refine GW_seq ?_
         refine GW_region ?_
         refine GL_rd (wn_none rfl) rfl (rd_field rfl rfl fa83_6 _ rfl) ?_
         refine GL_rd (wn_none rfl) rfl (rd_load rfl rfl Try.underlying9 rfl ((cell_of_cells (hp.get 0 rfl) _).trans (clip_note _ _ _))) ?_
         refine GL_rd (wn_none rfl) rfl (rd_lenS rfl rfl Try.underlying9) ?_
         refine GL_rd (wn_none rfl) rfl (rd_bin rfl rfl rfl bo_gtr) ?_
         refine GL_rd (v := .bool _) (wn_none rfl) rfl (rd_assign rfl rfl) ?_
         refine GL_nil ?_
         refine GW_cond rfl (fun hb12 => ?_) (fun hb12 => ?_)
         ·(try simp only [decide_eq_true_eq, decide_eq_false_iff_not, Bool.not_eq_true', Bool.not_eq_false', Bool.not_eq_eq_eq_not, Bool.not_true, Bool.not_false, Int.not_lt, Int.not_le] at hb12)
          refine GW_seq ?_
          refine GW_region ?_
          refine GL_rd (v := .int _ _) (wn_none rfl) rfl (rd_assign rfl rfl) ?_
          refine GL_nil ?_
          refine GW_ret ?_
          have hT1 : clpT c := ⟨by omega, by omega, by omega, by omega, by first | exact .inr (by omega) | (left; simp_all)⟩
          have ec : clpC c m k = _ := clpC_3 (by omega) hT1 (by omega)
          exact ⟨_, res1 Try.results63 (rv_tmp (v := .int _ _) rfl rfl), by rw [ec], hp.mods⟩
         ·(try simp only [decide_eq_true_eq, decide_eq_false_iff_not, Bool.not_eq_true', Bool.not_eq_false', Bool.not_eq_eq_eq_not, Bool.not_true, Bool.not_false, Int.not_lt, Int.not_le] at hb12)
          refine GW_skip ?_
          refine GW_seq ?_
          refine GW_seq ?_
          refine GW_region ?_
          refine GL_rd (wn_none rfl) rfl (rd_field rfl rfl fa83_5 _ rfl) ?_
          refine GL_rd (wn_none rfl) rfl (rd_load rfl rfl Try.underlying40 rfl ((cell_of_cells (hp.get 0 rfl) _).trans (clip_holds _ _ _))) ?_
          refine GL_call (wn_none rfl) rfl rfl (bi_holds _ mh c.holds _ (hH.keep hp.mod) hz) rfl ?_
          rintro _ w ⟨rfl, hk⟩
          have hp := hp.comp hk
          refine GL_rd (v := .int _ _) (wn_none rfl) rfl (rd_assign rfl rfl) ?_
          refine GL_nil ?_
          refine GW_seq ?_
          refine GW_region ?_
          refine GL_rd (v := .int _ _) (wn_none rfl) rfl (rd_move rfl rfl) ?_
          refine GL_rd (wn_none rfl) rfl (rd_bin rfl rfl rfl bo_neq) ?_
          refine GL_nil ?_
          refine GW_cond rfl (fun hb13 => ?_) (fun hb13 => ?_)
          ·(try simp only [decide_eq_true_eq, decide_eq_false_iff_not, Bool.not_eq_true', Bool.not_eq_false', Bool.not_eq_eq_eq_not, Bool.not_true, Bool.not_false, Int.not_lt, Int.not_le] at hb13)
           have hh := hb13
           refine GW_seq ?_
           refine GW_region ?_
           refine GL_rd (v := .int _ _) (wn_none rfl) rfl (rd_move rfl rfl) ?_
           refine GL_rd (v := .int _ _) (wn_none rfl) rfl (rd_assign rfl rfl) ?_
           refine GL_nil ?_
           refine GW_ret ?_
           have hT1 : clpT c := ⟨by omega, by omega, by omega, by omega, by first | exact .inr (by omega) | (left; simp_all)⟩
           have ec : clpC c m k = _ := clpC_4 (by omega) hT1 (by omega) hh
           exact ⟨_, res1 Try.results63 (rv_tmp (v := .int _ _) rfl rfl), by rw [ec], hp.mods⟩
          ·(try simp only [decide_eq_true_eq, decide_eq_false_iff_not, Bool.not_eq_true', Bool.not_eq_false', Bool.not_eq_eq_eq_not, Bool.not_true, Bool.not_false, Int.not_lt, Int.not_le] at hb13)
           have hh := hb13
           refine GW_skip ?_
           refine GW_seq ?_
           refine GW_region ?_
           refine GL_rd (wn_none rfl) rfl (rd_field rfl rfl fa83_7 _ rfl) ?_
           refine GL_rd (wn_none rfl) rfl (rd_load rfl rfl Try.underlying32 rfl ((cell_of_cells (hp.get 0 rfl) _).trans (clip_texts _ _ _))) ?_
           refine GL_rd (v := .int _ _) (wn_none rfl) rfl (rd_move rfl rfl) ?_
           refine GL_rd (wn_none rfl) rfl (rd_min rfl rfl rfl) ?_
           refine GL_call (wn_none rfl) rfl rfl (bi_texts _ mt c.texts (min k 40) _ (hT.keep hp.mod)) rfl ?_
           rintro _ w ⟨rfl, hk⟩
           have hp := hp.comp hk
           refine GL_rd (v := .int _ _) (wn_none rfl) rfl (rd_assign rfl rfl) ?_
           refine GL_nil ?_
           refine GW_ret ?_
           have hT1 : clpT c := ⟨by omega, by omega, by omega, by omega, by first | exact .inr (by omega) | (left; simp_all)⟩
           have ec : clpC c m k = _ := clpC_5 (by omega) hT1 (by omega) hh
           exact ⟨_, res1 Try.results63 (rv_tmp (v := .int _ _) rfl rfl), by rw [ec], hp.mods⟩
theorem ref_bcounted (n : Int) (w0 : World) : Does Try.prog 125 #[.int .i64 n] w0 fun v w' => v = .bool (decide (0 ≤ n ∧ n ≤ 1099511627776)) ∧ Hp w0 [] w' [] := by
 refine does_of (l := [.int .i64 n]) Try.func125 (by kernel_rfl) rfl Try.ntmps125 rfl rfl ?_
 have hp := Hp.refl w0 []
 refine GW_seq ?_
 refine GW_region ?_
 refine GL_rd (v := .bool _) (wn_none rfl) rfl (rd_assign rfl rfl) ?_
 refine GL_nil ?_
 refine GW_seq ?_
 refine GW_region ?_
 refine GL_rd (v := .int _ _) (wn_none rfl) rfl (rd_move rfl rfl) ?_
 refine GL_rd (wn_none rfl) rfl (rd_bin rfl rfl rfl bo_geq) ?_
 refine GL_rd (v := .bool _) (wn_none rfl) rfl (rd_move rfl rfl) ?_
 refine GL_split (t := 5) (b := _) rfl ?_ ?_
 ·intro hb; (try simp only [decide_eq_true_eq, decide_eq_false_iff_not, Bool.not_eq_true', Bool.not_eq_false', Bool.not_eq_eq_eq_not, Bool.not_true, Bool.not_false, Int.not_lt, Int.not_le] at hb)
  have h1 := hb
  refine GL_rd (v := .int _ _) (wn_on rfl rfl rfl rfl) rfl (rd_move rfl rfl) ?_
  refine GL_rd (wn_on rfl rfl rfl rfl) rfl (rd_bin rfl rfl rfl bo_leq) ?_
  refine GL_rd (v := .bool _) (wn_none rfl) rfl (rd_pickT rfl rfl rfl) ?_
  refine GL_rd (v := .bool _) (wn_none rfl) rfl (rd_assign rfl rfl) ?_
  refine GL_nil ?_
  refine GW_ret ?_
  have e : decide (0 ≤ n ∧ n ≤ 1099511627776) = decide (n ≤ 1099511627776) := decide_eq_decide.2 ⟨fun q => q.2, fun q => ⟨h1, q⟩⟩
  exact ⟨_, res1 Try.results125 (rv_tmp (v := .bool _) rfl rfl), by rw [e], hp⟩
 ·intro hb; (try simp only [decide_eq_true_eq, decide_eq_false_iff_not, Bool.not_eq_true', Bool.not_eq_false', Bool.not_eq_eq_eq_not, Bool.not_true, Bool.not_false, Int.not_lt, Int.not_le] at hb)
  have h1 := hb
  refine GL_pass (nw_off rfl rfl rfl rfl rfl) rfl ?_
  refine GL_pass (nw_off rfl rfl rfl rfl rfl) rfl ?_
  refine GL_rd (v := .bool _) (wn_none rfl) rfl (rd_pickF rfl rfl rfl) ?_
  refine GL_rd (v := .bool _) (wn_none rfl) rfl (rd_assign rfl rfl) ?_
  refine GL_nil ?_
  refine GW_ret ?_
  have e : decide (0 ≤ n ∧ n ≤ 1099511627776) = false := decide_eq_false (by omega)
  exact ⟨_, res1 Try.results125 (rv_tmp (v := .bool _) rfl rfl), by rw [e], hp⟩
theorem ref_bCheck (c : Clp) (hv tv : Value) (mh mt : Nat) (m k : Int) (w0 : World) (hH : Sl w0 hv 1 mh (c.holds.map Value.string)) (hT : Sl w0 tv 1 mt (c.texts.map (Value.int .i64))) (hz : ∀ x ∈ c.holds, x.size ≤ 4294967296) : Does Try.prog 64 #[.agg ⟨clipC c hv tv⟩, .int .i64 m, .int .i64 k] w0 fun v w' => v = .int .i64 (clpC c m k) ∧ Hp w0 [] w' [] := by
 refine does_of (l := [.agg ⟨clipC c hv tv⟩, .int .i64 m, .int .i64 k]) Try.func64 (by kernel_rfl) rfl Try.ntmps64 rfl rfl ?_
 have hp := Hp.refl w0 []
 refine GW_seq ?_
 refine GW_region ?_
 refine GL_box (wn_none rfl) rfl rfl rfl rfl hp ?_
 intro g w hp
 refine GL_rd (v := .int _ _) (wn_none rfl) rfl (rd_assign rfl rfl) ?_
 refine GL_nil ?_
 refine GW_seq ?_
 refine GW_seq ?_
 refine GW_region ?_
 refine GL_rd (wn_none rfl) rfl (rd_field rfl rfl fa83_1 _ rfl) ?_
 refine GL_rd (wn_none rfl) rfl (rd_load rfl rfl Try.underlying3 rfl ((cell_of_cells (hp.get 0 rfl) _).trans (clip_cls _ _ _))) ?_
 refine GL_rd (wn_none rfl) rfl (rd_bin rfl rfl rfl bo_lss) ?_
 refine GL_rd (v := .bool _) (wn_none rfl) rfl (rd_move rfl rfl) ?_
 refine GL_split (t := 11) (b := _) rfl ?_ ?_
 ·intro hb; (try simp only [decide_eq_true_eq, decide_eq_false_iff_not, Bool.not_eq_true', Bool.not_eq_false', Bool.not_eq_eq_eq_not, Bool.not_true, Bool.not_false, Int.not_lt, Int.not_le] at hb)
  refine GL_pass (nw_off rfl rfl rfl rfl rfl) rfl ?_
  refine GL_pass (nw_off rfl rfl rfl rfl rfl) rfl ?_
  refine GL_pass (nw_off rfl rfl rfl rfl rfl) rfl ?_
  refine GL_pass (nw_off rfl rfl rfl rfl rfl) rfl ?_
  refine GL_rd (v := .bool _) (wn_none rfl) rfl (rd_pickT rfl rfl rfl) ?_
  refine GL_rd (v := .bool _) (wn_none rfl) rfl (rd_move rfl rfl) ?_
  refine GL_pass (nw_off rfl rfl rfl rfl rfl) rfl ?_
  refine GL_pass (nw_off rfl rfl rfl rfl rfl) rfl ?_
  refine GL_pass (nw_off rfl rfl rfl rfl rfl) rfl ?_
  refine GL_rd (v := .bool _) (wn_none rfl) rfl (rd_pickT rfl rfl rfl) ?_
  refine GL_nil ?_
  refine GW_true rfl ?_
  refine GW_seq ?_
  refine GW_region ?_
  refine GL_rd (v := .int _ _) (wn_none rfl) rfl (rd_assign rfl rfl) ?_
  refine GL_nil ?_
  refine GW_ret ?_
  have ec : clpC c m k = _ := clpC_1 (by omega)
  exact ⟨_, res1 Try.results64 (rv_tmp (v := .int _ _) rfl rfl), by rw [ec], hp.mods⟩
 ·intro hb; (try simp only [decide_eq_true_eq, decide_eq_false_iff_not, Bool.not_eq_true', Bool.not_eq_false', Bool.not_eq_eq_eq_not, Bool.not_true, Bool.not_false, Int.not_lt, Int.not_le] at hb)
  refine GL_rd (wn_on rfl rfl rfl rfl) rfl (rd_field rfl rfl fa83_1 _ rfl) ?_
  refine GL_rd (wn_on rfl rfl rfl rfl) rfl (rd_load rfl rfl Try.underlying3 rfl ((cell_of_cells (hp.get 0 rfl) _).trans (clip_cls _ _ _))) ?_
  refine GL_rd (v := .int _ _) (wn_on rfl rfl rfl rfl) rfl (rd_move rfl rfl) ?_
  refine GL_rd (wn_on rfl rfl rfl rfl) rfl (rd_bin rfl rfl rfl bo_geq) ?_
  refine GL_rd (v := .bool _) (wn_none rfl) rfl (rd_pickF rfl rfl rfl) ?_
  refine GL_rd (v := .bool _) (wn_none rfl) rfl (rd_move rfl rfl) ?_
  refine GL_split (t := 17) (b := _) rfl ?_ ?_
  ·intro hb2; (try simp only [decide_eq_true_eq, decide_eq_false_iff_not, Bool.not_eq_true', Bool.not_eq_false', Bool.not_eq_eq_eq_not, Bool.not_true, Bool.not_false, Int.not_lt, Int.not_le] at hb2)
   refine GL_pass (nw_off rfl rfl rfl rfl rfl) rfl ?_
   refine GL_pass (nw_off rfl rfl rfl rfl rfl) rfl ?_
   refine GL_pass (nw_off rfl rfl rfl rfl rfl) rfl ?_
   refine GL_rd (v := .bool _) (wn_none rfl) rfl (rd_pickT rfl rfl rfl) ?_
   refine GL_nil ?_
   refine GW_true rfl ?_
   refine GW_seq ?_
   refine GW_region ?_
   refine GL_rd (v := .int _ _) (wn_none rfl) rfl (rd_assign rfl rfl) ?_
   refine GL_nil ?_
   refine GW_ret ?_
   have ec : clpC c m k = _ := clpC_1 (by omega)
   exact ⟨_, res1 Try.results64 (rv_tmp (v := .int _ _) rfl rfl), by rw [ec], hp.mods⟩
  ·intro hb2; (try simp only [decide_eq_true_eq, decide_eq_false_iff_not, Bool.not_eq_true', Bool.not_eq_false', Bool.not_eq_eq_eq_not, Bool.not_true, Bool.not_false, Int.not_lt, Int.not_le] at hb2)
   refine GL_rd (wn_on rfl rfl rfl rfl) rfl (rd_field rfl rfl fa83_1 _ rfl) ?_
   refine GL_rd (wn_on rfl rfl rfl rfl) rfl (rd_load rfl rfl Try.underlying3 rfl ((cell_of_cells (hp.get 0 rfl) _).trans (clip_cls _ _ _))) ?_
   refine GL_rd (wn_on rfl rfl rfl rfl) rfl (rd_bin rfl rfl rfl bo_gtr) ?_
   refine GL_rd (v := .bool _) (wn_none rfl) rfl (rd_pickF rfl rfl rfl) ?_
   refine GL_nil ?_
   refine GW_cond rfl (fun hb3 => ?_) (fun hb3 => ?_)
   ·(try simp only [decide_eq_true_eq, decide_eq_false_iff_not, Bool.not_eq_true', Bool.not_eq_false', Bool.not_eq_eq_eq_not, Bool.not_true, Bool.not_false, Int.not_lt, Int.not_le] at hb3)
    refine GW_seq ?_
    refine GW_region ?_
    refine GL_rd (v := .int _ _) (wn_none rfl) rfl (rd_assign rfl rfl) ?_
    refine GL_nil ?_
    refine GW_ret ?_
    have ec : clpC c m k = _ := clpC_1 (by omega)
    exact ⟨_, res1 Try.results64 (rv_tmp (v := .int _ _) rfl rfl), by rw [ec], hp.mods⟩
   ·(try simp only [decide_eq_true_eq, decide_eq_false_iff_not, Bool.not_eq_true', Bool.not_eq_false', Bool.not_eq_eq_eq_not, Bool.not_true, Bool.not_false, Int.not_lt, Int.not_le] at hb3)
    refine GW_skip ?_
    refine GW_seq ?_
    refine GW_seq ?_
    refine GW_region ?_
    refine GL_rd (wn_none rfl) rfl (rd_field rfl rfl fa83_2 _ rfl) ?_
    refine GL_rd (wn_none rfl) rfl (rd_load rfl rfl Try.underlying3 rfl ((cell_of_cells (hp.get 0 rfl) _).trans (clip_made _ _ _))) ?_
    refine GL_call (wn_none rfl) rfl rfl (ref_bcounted c.made _) rfl ?_
    rintro _ w ⟨rfl, hk⟩
    have hp := hp.comp hk
    refine GL_rd (wn_none rfl) rfl (rd_not rfl rfl) ?_
    refine GL_rd (v := .bool _) (wn_none rfl) rfl (rd_move rfl rfl) ?_
    refine GL_split (t := 26) (b := _) rfl ?_ ?_
    ·intro hb4; (try simp only [decide_eq_true_eq, decide_eq_false_iff_not, Bool.not_eq_true', Bool.not_eq_false', Bool.not_eq_eq_eq_not, Bool.not_true, Bool.not_false, Int.not_lt, Int.not_le] at hb4)
     refine GL_pass (nw_off rfl rfl rfl rfl rfl) rfl ?_
     refine GL_pass (nw_off rfl rfl rfl rfl rfl) rfl ?_
     refine GL_pass (nw_off rfl rfl rfl rfl rfl) rfl ?_
     refine GL_pass (nw_off rfl rfl rfl rfl rfl) rfl ?_
     refine GL_rd (v := .bool _) (wn_none rfl) rfl (rd_pickT rfl rfl rfl) ?_
     refine GL_rd (v := .bool _) (wn_none rfl) rfl (rd_move rfl rfl) ?_
     refine GL_pass (nw_off rfl rfl rfl rfl rfl) rfl ?_
     refine GL_pass (nw_off rfl rfl rfl rfl rfl) rfl ?_
     refine GL_pass (nw_off rfl rfl rfl rfl rfl) rfl ?_
     refine GL_pass (nw_off rfl rfl rfl rfl rfl) rfl ?_
     refine GL_pass (nw_undef rfl rfl rfl rfl) rfl ?_
     refine GL_pass (nw_undef rfl rfl rfl rfl) rfl ?_
     refine GL_pass (nw_undef rfl rfl rfl rfl) rfl ?_
     refine GL_pass (nw_off rfl rfl rfl rfl rfl) rfl ?_
     refine GL_rd (v := .bool _) (wn_none rfl) rfl (rd_pickT rfl rfl rfl) ?_
     refine GL_nil ?_
     refine GW_true rfl ?_
     refine GW_seq ?_
     refine GW_region ?_
     refine GL_rd (v := .int _ _) (wn_none rfl) rfl (rd_assign rfl rfl) ?_
     refine GL_nil ?_
     refine GW_ret ?_
     have hT2 : ¬ clpT c := by rintro ⟨q1, q2, q3, q4, q5⟩; rcases q5 with q5 | q5 <;> first | omega | simp_all
     have ec : clpC c m k = _ := clpC_2 (by omega) hT2
     exact ⟨_, res1 Try.results64 (rv_tmp (v := .int _ _) rfl rfl), by rw [ec], hp.mods⟩
    ·intro hb4; (try simp only [decide_eq_true_eq, decide_eq_false_iff_not, Bool.not_eq_true', Bool.not_eq_false', Bool.not_eq_eq_eq_not, Bool.not_true, Bool.not_false, Int.not_lt, Int.not_le] at hb4)
     refine GL_rd (wn_on rfl rfl rfl rfl) rfl (rd_field rfl rfl fa83_4 _ rfl) ?_
     refine GL_rd (wn_on rfl rfl rfl rfl) rfl (rd_load rfl rfl Try.underlying3 rfl ((cell_of_cells (hp.get 0 rfl) _).trans (clip_event _ _ _))) ?_
     refine GL_call (wn_on rfl rfl rfl rfl) rfl rfl (ref_bcounted c.event _) rfl ?_
     rintro _ w ⟨rfl, hk⟩
     have hp := hp.comp hk
     refine GL_rd (wn_on rfl rfl rfl rfl) rfl (rd_not rfl rfl) ?_
     refine GL_rd (v := .bool _) (wn_none rfl) rfl (rd_pickF rfl rfl rfl) ?_
     refine GL_rd (v := .bool _) (wn_none rfl) rfl (rd_move rfl rfl) ?_
     refine GL_split (t := 32) (b := _) rfl ?_ ?_
     ·intro hb5; (try simp only [decide_eq_true_eq, decide_eq_false_iff_not, Bool.not_eq_true', Bool.not_eq_false', Bool.not_eq_eq_eq_not, Bool.not_true, Bool.not_false, Int.not_lt, Int.not_le] at hb5)
      refine GL_pass (nw_off rfl rfl rfl rfl rfl) rfl ?_
      refine GL_pass (nw_off rfl rfl rfl rfl rfl) rfl ?_
      refine GL_pass (nw_off rfl rfl rfl rfl rfl) rfl ?_
      refine GL_pass (nw_off rfl rfl rfl rfl rfl) rfl ?_
      refine GL_pass (nw_undef rfl rfl rfl rfl) rfl ?_
      refine GL_pass (nw_undef rfl rfl rfl rfl) rfl ?_
      refine GL_pass (nw_undef rfl rfl rfl rfl) rfl ?_
      refine GL_pass (nw_off rfl rfl rfl rfl rfl) rfl ?_
      refine GL_rd (v := .bool _) (wn_none rfl) rfl (rd_pickT rfl rfl rfl) ?_
      refine GL_nil ?_
      refine GW_true rfl ?_
      refine GW_seq ?_
      refine GW_region ?_
      refine GL_rd (v := .int _ _) (wn_none rfl) rfl (rd_assign rfl rfl) ?_
      refine GL_nil ?_
      refine GW_ret ?_
      have hT2 : ¬ clpT c := by rintro ⟨q1, q2, q3, q4, q5⟩; rcases q5 with q5 | q5 <;> first | omega | simp_all
      have ec : clpC c m k = _ := clpC_2 (by omega) hT2
      exact ⟨_, res1 Try.results64 (rv_tmp (v := .int _ _) rfl rfl), by rw [ec], hp.mods⟩
     ·intro hb5; (try simp only [decide_eq_true_eq, decide_eq_false_iff_not, Bool.not_eq_true', Bool.not_eq_false', Bool.not_eq_eq_eq_not, Bool.not_true, Bool.not_false, Int.not_lt, Int.not_le] at hb5)
      refine GL_rd (wn_on rfl rfl rfl rfl) rfl (rd_field rfl rfl fa83_3 _ rfl) ?_
      refine GL_rd (wn_on rfl rfl rfl rfl) rfl (rd_load rfl rfl Try.underlying4 rfl ((cell_of_cells (hp.get 0 rfl) _).trans (clip_fired _ _ _))) ?_
      refine GL_rd (wn_on rfl rfl rfl rfl) rfl (rd_not rfl rfl) ?_
      refine GL_rd (v := .bool _) (wn_on rfl rfl rfl rfl) rfl (rd_move rfl rfl) ?_
      refine GL_split (t := 36) (b := _) rfl ?_ ?_
      ·intro hb6; (try simp only [decide_eq_true_eq, decide_eq_false_iff_not, Bool.not_eq_true', Bool.not_eq_false', Bool.not_eq_eq_eq_not, Bool.not_true, Bool.not_false, Int.not_lt, Int.not_le] at hb6)
       refine GL_rd (wn_on rfl rfl rfl rfl) rfl (rd_field rfl rfl fa83_4 _ rfl) ?_
       refine GL_rd (wn_on rfl rfl rfl rfl) rfl (rd_load rfl rfl Try.underlying3 rfl ((cell_of_cells (hp.get 0 rfl) _).trans (clip_event _ _ _))) ?_
       refine GL_rd (wn_on rfl rfl rfl rfl) rfl (rd_bin rfl rfl rfl bo_gtr) ?_
       refine GL_rd (v := .bool _) (wn_on rfl rfl rfl rfl) rfl (rd_pickT rfl rfl rfl) ?_
       refine GL_rd (v := .bool _) (wn_none rfl) rfl (rd_pickF rfl rfl rfl) ?_
       refine GL_nil ?_
       refine GW_cond rfl (fun hb7 => ?_) (fun hb7 => ?_)
       ·(try simp only [decide_eq_true_eq, decide_eq_false_iff_not, Bool.not_eq_true', Bool.not_eq_false', Bool.not_eq_eq_eq_not, Bool.not_true, Bool.not_false, Int.not_lt, Int.not_le] at hb7)
        refine GW_seq ?_
        refine GW_region ?_
        refine GL_rd (v := .int _ _) (wn_none rfl) rfl (rd_assign rfl rfl) ?_
        refine GL_nil ?_
        refine GW_ret ?_
        have hT2 : ¬ clpT c := by rintro ⟨q1, q2, q3, q4, q5⟩; rcases q5 with q5 | q5 <;> first | omega | simp_all
        have ec : clpC c m k = _ := clpC_2 (by omega) hT2
        exact ⟨_, res1 Try.results64 (rv_tmp (v := .int _ _) rfl rfl), by rw [ec], hp.mods⟩
       ·(try simp only [decide_eq_true_eq, decide_eq_false_iff_not, Bool.not_eq_true', Bool.not_eq_false', Bool.not_eq_eq_eq_not, Bool.not_true, Bool.not_false, Int.not_lt, Int.not_le] at hb7)
        refine GW_skip ?_
        refine GW_seq ?_
        refine GW_seq ?_
        refine GW_region ?_
        refine GL_rd (wn_none rfl) rfl (rd_field rfl rfl fa83_6 _ rfl) ?_
        refine GL_rd (wn_none rfl) rfl (rd_load rfl rfl Try.underlying9 rfl ((cell_of_cells (hp.get 0 rfl) _).trans (clip_note _ _ _))) ?_
        refine GL_rd (wn_none rfl) rfl (rd_lenS rfl rfl Try.underlying9) ?_
        refine GL_rd (wn_none rfl) rfl (rd_bin rfl rfl rfl bo_gtr) ?_
        refine GL_nil ?_
        refine GW_cond rfl (fun hb8 => ?_) (fun hb8 => ?_)
        ·(try simp only [decide_eq_true_eq, decide_eq_false_iff_not, Bool.not_eq_true', Bool.not_eq_false', Bool.not_eq_eq_eq_not, Bool.not_true, Bool.not_false, Int.not_lt, Int.not_le] at hb8)
         refine GW_seq ?_
         refine GW_region ?_
         refine GL_rd (v := .int _ _) (wn_none rfl) rfl (rd_assign rfl rfl) ?_
         refine GL_nil ?_
         refine GW_ret ?_
         have hT1 : clpT c := ⟨by omega, by omega, by omega, by omega, by first | exact .inr (by omega) | (left; simp_all)⟩
         have ec : clpC c m k = _ := clpC_3 (by omega) hT1 (by omega)
         exact ⟨_, res1 Try.results64 (rv_tmp (v := .int _ _) rfl rfl), by rw [ec], hp.mods⟩
        ·(try simp only [decide_eq_true_eq, decide_eq_false_iff_not, Bool.not_eq_true', Bool.not_eq_false', Bool.not_eq_eq_eq_not, Bool.not_true, Bool.not_false, Int.not_lt, Int.not_le] at hb8)
         refine GW_skip ?_
         refine GW_seq ?_
         refine GW_seq ?_
         refine GW_region ?_
         refine GL_rd (wn_none rfl) rfl (rd_field rfl rfl fa83_5 _ rfl) ?_
         refine GL_rd (wn_none rfl) rfl (rd_load rfl rfl Try.underlying40 rfl ((cell_of_cells (hp.get 0 rfl) _).trans (clip_holds _ _ _))) ?_
         refine GL_call (wn_none rfl) rfl rfl (ref_bholds _ mh c.holds _ (hH.keep hp.mod) hz) rfl ?_
         rintro _ w ⟨rfl, hk⟩
         have hp := hp.comp hk
         refine GL_rd (v := .int _ _) (wn_none rfl) rfl (rd_assign rfl rfl) ?_
         refine GL_nil ?_
         refine GW_seq ?_
         refine GW_region ?_
         refine GL_rd (v := .int _ _) (wn_none rfl) rfl (rd_move rfl rfl) ?_
         refine GL_rd (wn_none rfl) rfl (rd_bin rfl rfl rfl bo_neq) ?_
         refine GL_nil ?_
         refine GW_cond rfl (fun hb9 => ?_) (fun hb9 => ?_)
         ·(try simp only [decide_eq_true_eq, decide_eq_false_iff_not, Bool.not_eq_true', Bool.not_eq_false', Bool.not_eq_eq_eq_not, Bool.not_true, Bool.not_false, Int.not_lt, Int.not_le] at hb9)
          have hh := hb9
          refine GW_seq ?_
          refine GW_region ?_
          refine GL_rd (v := .int _ _) (wn_none rfl) rfl (rd_move rfl rfl) ?_
          refine GL_rd (v := .int _ _) (wn_none rfl) rfl (rd_assign rfl rfl) ?_
          refine GL_nil ?_
          refine GW_ret ?_
          have hT1 : clpT c := ⟨by omega, by omega, by omega, by omega, by first | exact .inr (by omega) | (left; simp_all)⟩
          have ec : clpC c m k = _ := clpC_4 (by omega) hT1 (by omega) hh
          exact ⟨_, res1 Try.results64 (rv_tmp (v := .int _ _) rfl rfl), by rw [ec], hp.mods⟩
         ·(try simp only [decide_eq_true_eq, decide_eq_false_iff_not, Bool.not_eq_true', Bool.not_eq_false', Bool.not_eq_eq_eq_not, Bool.not_true, Bool.not_false, Int.not_lt, Int.not_le] at hb9)
          have hh := hb9
          refine GW_skip ?_
          refine GW_seq ?_
          refine GW_region ?_
          refine GL_rd (wn_none rfl) rfl (rd_field rfl rfl fa83_7 _ rfl) ?_
          refine GL_rd (wn_none rfl) rfl (rd_load rfl rfl Try.underlying32 rfl ((cell_of_cells (hp.get 0 rfl) _).trans (clip_texts _ _ _))) ?_
          refine GL_rd (v := .int _ _) (wn_none rfl) rfl (rd_move rfl rfl) ?_
          refine GL_call (wn_none rfl) rfl rfl (ref_btexts _ mt c.texts k _ (hT.keep hp.mod)) rfl ?_
          rintro _ w ⟨rfl, hk⟩
          have hp := hp.comp hk
          refine GL_rd (v := .int _ _) (wn_none rfl) rfl (rd_assign rfl rfl) ?_
          refine GL_nil ?_
          refine GW_ret ?_
          have hT1 : clpT c := ⟨by omega, by omega, by omega, by omega, by first | exact .inr (by omega) | (left; simp_all)⟩
          have ec : clpC c m k = _ := clpC_5 (by omega) hT1 (by omega) hh
          exact ⟨_, res1 Try.results64 (rv_tmp (v := .int _ _) rfl rfl), by rw [ec], hp.mods⟩
      ·intro hb6; (try simp only [decide_eq_true_eq, decide_eq_false_iff_not, Bool.not_eq_true', Bool.not_eq_false', Bool.not_eq_eq_eq_not, Bool.not_true, Bool.not_false, Int.not_lt, Int.not_le] at hb6)
       refine GL_pass (nw_off rfl rfl rfl rfl rfl) rfl ?_
       refine GL_pass (nw_off rfl rfl rfl rfl rfl) rfl ?_
       refine GL_pass (nw_off rfl rfl rfl rfl rfl) rfl ?_
       refine GL_rd (v := .bool _) (wn_on rfl rfl rfl rfl) rfl (rd_pickF rfl rfl rfl) ?_
       refine GL_rd (v := .bool _) (wn_none rfl) rfl (rd_pickF rfl rfl rfl) ?_
       refine GL_nil ?_
       refine GW_false rfl ?_
       refine GW_skip ?_
       refine GW_seq ?_
       refine GW_seq ?_
       refine GW_region ?_
       refine GL_rd (wn_none rfl) rfl (rd_field rfl rfl fa83_6 _ rfl) ?_
       refine GL_rd (wn_none rfl) rfl (rd_load rfl rfl Try.underlying9 rfl ((cell_of_cells (hp.get 0 rfl) _).trans (clip_note _ _ _))) ?_
       refine GL_rd (wn_none rfl) rfl (rd_lenS rfl rfl Try.underlying9) ?_
       refine GL_rd (wn_none rfl) rfl (rd_bin rfl rfl rfl bo_gtr) ?_
       refine GL_nil ?_
       refine GW_cond rfl (fun hb10 => ?_) (fun hb10 => ?_)
       ·(try simp only [decide_eq_true_eq, decide_eq_false_iff_not, Bool.not_eq_true', Bool.not_eq_false', Bool.not_eq_eq_eq_not, Bool.not_true, Bool.not_false, Int.not_lt, Int.not_le] at hb10)
        refine GW_seq ?_
        refine GW_region ?_
        refine GL_rd (v := .int _ _) (wn_none rfl) rfl (rd_assign rfl rfl) ?_
        refine GL_nil ?_
        refine GW_ret ?_
        have hT1 : clpT c := ⟨by omega, by omega, by omega, by omega, by first | exact .inr (by omega) | (left; simp_all)⟩
        have ec : clpC c m k = _ := clpC_3 (by omega) hT1 (by omega)
        exact ⟨_, res1 Try.results64 (rv_tmp (v := .int _ _) rfl rfl), by rw [ec], hp.mods⟩
       ·(try simp only [decide_eq_true_eq, decide_eq_false_iff_not, Bool.not_eq_true', Bool.not_eq_false', Bool.not_eq_eq_eq_not, Bool.not_true, Bool.not_false, Int.not_lt, Int.not_le] at hb10)
        refine GW_skip ?_
        refine GW_seq ?_
        refine GW_seq ?_
        refine GW_region ?_
        refine GL_rd (wn_none rfl) rfl (rd_field rfl rfl fa83_5 _ rfl) ?_
        refine GL_rd (wn_none rfl) rfl (rd_load rfl rfl Try.underlying40 rfl ((cell_of_cells (hp.get 0 rfl) _).trans (clip_holds _ _ _))) ?_
        refine GL_call (wn_none rfl) rfl rfl (ref_bholds _ mh c.holds _ (hH.keep hp.mod) hz) rfl ?_
        rintro _ w ⟨rfl, hk⟩
        have hp := hp.comp hk
        refine GL_rd (v := .int _ _) (wn_none rfl) rfl (rd_assign rfl rfl) ?_
        refine GL_nil ?_
        refine GW_seq ?_
        refine GW_region ?_
        refine GL_rd (v := .int _ _) (wn_none rfl) rfl (rd_move rfl rfl) ?_
        refine GL_rd (wn_none rfl) rfl (rd_bin rfl rfl rfl bo_neq) ?_
        refine GL_nil ?_
        refine GW_cond rfl (fun hb11 => ?_) (fun hb11 => ?_)
        ·(try simp only [decide_eq_true_eq, decide_eq_false_iff_not, Bool.not_eq_true', Bool.not_eq_false', Bool.not_eq_eq_eq_not, Bool.not_true, Bool.not_false, Int.not_lt, Int.not_le] at hb11)
         have hh := hb11
         refine GW_seq ?_
         refine GW_region ?_
         refine GL_rd (v := .int _ _) (wn_none rfl) rfl (rd_move rfl rfl) ?_
         refine GL_rd (v := .int _ _) (wn_none rfl) rfl (rd_assign rfl rfl) ?_
         refine GL_nil ?_
         refine GW_ret ?_
         have hT1 : clpT c := ⟨by omega, by omega, by omega, by omega, by first | exact .inr (by omega) | (left; simp_all)⟩
         have ec : clpC c m k = _ := clpC_4 (by omega) hT1 (by omega) hh
         exact ⟨_, res1 Try.results64 (rv_tmp (v := .int _ _) rfl rfl), by rw [ec], hp.mods⟩
        ·(try simp only [decide_eq_true_eq, decide_eq_false_iff_not, Bool.not_eq_true', Bool.not_eq_false', Bool.not_eq_eq_eq_not, Bool.not_true, Bool.not_false, Int.not_lt, Int.not_le] at hb11)
         have hh := hb11
         refine GW_skip ?_
         refine GW_seq ?_
         refine GW_region ?_
         refine GL_rd (wn_none rfl) rfl (rd_field rfl rfl fa83_7 _ rfl) ?_
         refine GL_rd (wn_none rfl) rfl (rd_load rfl rfl Try.underlying32 rfl ((cell_of_cells (hp.get 0 rfl) _).trans (clip_texts _ _ _))) ?_
         refine GL_rd (v := .int _ _) (wn_none rfl) rfl (rd_move rfl rfl) ?_
         refine GL_call (wn_none rfl) rfl rfl (ref_btexts _ mt c.texts k _ (hT.keep hp.mod)) rfl ?_
         rintro _ w ⟨rfl, hk⟩
         have hp := hp.comp hk
         refine GL_rd (v := .int _ _) (wn_none rfl) rfl (rd_assign rfl rfl) ?_
         refine GL_nil ?_
         refine GW_ret ?_
         have hT1 : clpT c := ⟨by omega, by omega, by omega, by omega, by first | exact .inr (by omega) | (left; simp_all)⟩
         have ec : clpC c m k = _ := clpC_5 (by omega) hT1 (by omega) hh
         exact ⟨_, res1 Try.results64 (rv_tmp (v := .int _ _) rfl rfl), by rw [ec], hp.mods⟩
theorem ref_bSaid (name note : ByteArray) (made : Int) (lv : Value) (m : Nat) (l : List A32) (w0 : World) (hA : Sl w0 lv 32 m (l.flatMap adC)) (hs : name.size ≤ 65535 ∧ note.size ≤ 65535) (hm : m ≤ 65535) : Does Try.prog 131 #[.string name, .int .i64 made, .string note, lv] w0 fun v w' => Hp w0 [] w' [.row 5 1 v (clSaid name made note l).length (bys (clSaid name made note l))] := by
 obtain ⟨A, c, rfl⟩ := sl_shape hA
 have hlm : l.length = m := Sl.ads hA
 obtain ⟨hs1, hs2⟩ := hs
 refine does_of (l := [.string name, .int .i64 made, .string note, .slice A m c]) Try.func131 (by kernel_rfl) rfl Try.ntmps131 rfl rfl ?_
 have hp := Hp.refl w0 []
 refine GW_seq ?_
 refine GW_region ?_
 refine GL_rd (v := .slice _ _ _) (wn_none rfl) rfl (rd_assign rfl rfl) ?_
 refine GL_nil ?_
 refine GW_seq ?_
 refine GW_region ?_
 refine GL_lit (L := (bys [99, 108, 105, 112])) (wn_none rfl) rfl rfl Try.underlying39 ts5 tz5 rfl (by kernel_rfl) rfl rfl hp ?_
 intro g w hp
 refine GL_convB (i := 0) (wn_none rfl) rfl rfl rfl Try.underlying39 Try.underlying5 hp rfl ?_
 intro w hp
 refine GL_rd (v := .slice _ _ _) (wn_none rfl) rfl (rd_assign rfl rfl) ?_
 refine GL_nil ?_
 refine GW_seq ?_
 refine GW_region ?_
 refine GL_rd (v := .slice _ _ _) (wn_none rfl) rfl (rd_move rfl rfl) ?_
 refine GL_rd (v := .string _) (wn_none rfl) rfl (rd_move rfl rfl) ?_
 refine GL_rd (wn_none rfl) rfl (rd_lenS rfl rfl Try.underlying9) ?_
 refine GL_rd (wn_none rfl) rfl (rd_convE (q := (name.size : Int)) rfl rfl Try.underlying160 Try.underlying3 (by simp) (IntWalk.u64_in _ (by omega))) ?_
 refine GL_call (wn_none rfl) rfl rfl (ref_Put 2 name.size 2 _ (by omega) (by decide) rfl) rfl ?_
 intro q1 w hk
 have hp := hp.comp hk
 refine GL_appendFull (wn_none rfl) rfl rfl rfl rfl Try.underlying39 ti5 rfl (by decide) hp (Sl.blk (hp.get 1 rfl) 1 _ rfl (by simp [maxLen])) (Sl.row (hp.get 0 rfl)) (by omega) (by decide) (by omega) (by omega) (by omega) ?_
 intro v w hp
 obtain ⟨Av, cv, rfl⟩ := row_shape (hp.get 0 rfl)
 rw [← bys_append] at hp
 refine GL_rd (v := .slice _ _ _) (wn_none rfl) rfl (rd_assign rfl rfl) ?_
 refine GL_nil ?_
 refine GW_seq ?_
 refine GW_region ?_
 refine GL_rd (v := .slice _ _ _) (wn_none rfl) rfl (rd_move rfl rfl) ?_
 refine GL_rd (v := .string _) (wn_none rfl) rfl (rd_move rfl rfl) ?_
 refine GL_appendS (i := 0) (wn_none rfl) rfl rfl rfl rfl Try.underlying39 Try.underlying9 ti5 hp rfl (by omega) ?_
 intro v2 w hp
 obtain ⟨Av2, cv2, rfl⟩ := row_shape (hp.get 0 rfl)
 refine GL_rd (v := .slice _ _ _) (wn_none rfl) rfl (rd_assign rfl rfl) ?_
 refine GL_nil ?_
 refine GW_seq ?_
 refine GW_region ?_
 refine GL_rd (v := .slice _ _ _) (wn_none rfl) rfl (rd_move rfl rfl) ?_
 refine GL_rd (v := .string _) (wn_none rfl) rfl (rd_move rfl rfl) ?_
 refine GL_rd (wn_none rfl) rfl (rd_lenS rfl rfl Try.underlying9) ?_
 refine GL_rd (wn_none rfl) rfl (rd_convE (q := (note.size : Int)) rfl rfl Try.underlying160 Try.underlying3 (by simp) (IntWalk.u64_in _ (by omega))) ?_
 refine GL_call (wn_none rfl) rfl rfl (ref_Put 2 note.size 2 _ (by omega) (by decide) rfl) rfl ?_
 intro q2 w hk
 have hp := hp.comp hk
 refine GL_append (i := 1) (wn_none rfl) rfl rfl rfl rfl Try.underlying39 ti5 rfl (by decide) hp rfl (Sl.row (hp.get 0 rfl)) (bys_one _) (by omega) (by omega) ?_
 intro v3 w hp
 obtain ⟨Av3, cv3, rfl⟩ := row_shape (hp.get 1 rfl)
 rw [← bys_append] at hp
 refine GL_rd (v := .slice _ _ _) (wn_none rfl) rfl (rd_assign rfl rfl) ?_
 refine GL_nil ?_
 refine GW_seq ?_
 refine GW_region ?_
 refine GL_rd (v := .slice _ _ _) (wn_none rfl) rfl (rd_move rfl rfl) ?_
 refine GL_rd (v := .string _) (wn_none rfl) rfl (rd_move rfl rfl) ?_
 refine GL_appendS (i := 1) (wn_none rfl) rfl rfl rfl rfl Try.underlying39 Try.underlying9 ti5 hp rfl (by omega) ?_
 intro v4 w hp
 obtain ⟨Av4, cv4, rfl⟩ := row_shape (hp.get 1 rfl)
 refine GL_rd (v := .slice _ _ _) (wn_none rfl) rfl (rd_assign rfl rfl) ?_
 refine GL_nil ?_
 refine GW_seq ?_
 refine GW_region ?_
 refine GL_rd (v := .slice _ _ _) (wn_none rfl) rfl (rd_move rfl rfl) ?_
 refine GL_rd (v := .int _ _) (wn_none rfl) rfl (rd_move rfl rfl) ?_
 refine GL_rd (wn_none rfl) rfl (rd_convE (q := (u64N made : Int)) rfl rfl Try.underlying160 Try.underlying3 (by simp) (u64_wrapN _)) ?_
 refine GL_call (wn_none rfl) rfl rfl (ref_Put 8 (u64N made) 8 _ (u64N_lt _) (by decide) rfl) rfl ?_
 intro q3 w hk
 have hp := hp.comp hk
 refine GL_append (i := 2) (wn_none rfl) rfl rfl rfl rfl Try.underlying39 ti5 rfl (by decide) hp rfl (Sl.row (hp.get 0 rfl)) (bys_one _) (by omega) (by omega) ?_
 intro v5 w hp
 obtain ⟨Av5, cv5, rfl⟩ := row_shape (hp.get 2 rfl)
 rw [← bys_append] at hp
 refine GL_rd (v := .slice _ _ _) (wn_none rfl) rfl (rd_assign rfl rfl) ?_
 refine GL_nil ?_
 refine GW_seq ?_
 refine GW_seq ?_
 refine GW_region ?_
 refine GL_rd (v := .int _ _) (wn_none rfl) rfl (rd_assign rfl rfl) ?_
 refine GL_nil ?_
 refine GW_block ?_
 refine GW_loop ?_
 refine Lp_ind (α := Nat × Nat × Option Addr × Nat × List UInt8) (fun a_0 f_0 w' => match a_0 with | (i, n, A2, c2, xs) => ∃ fz, f_0 = (upd (upd (upd fz 3 (.slice A m c)) 9 (.slice A2 n c2)) 10 (.int .i64 (i : Int))) ∧ Hp w0 [] w' [.row 5 1 (.slice A2 n c2) n (bys xs)] ∧ (i ≤ m) ∧ (n = (4 + 2 + name.size + 2 + note.size + 8) + 32 * i) ∧ (xs = ([99, 108, 105, 112] ++ putL name.size 2 ++ name.data.toList ++ putL note.size 2 ++ note.data.toList ++ putL (u64N made) 8) ++ laidA (l.take i))) (fun a_0 => match a_0 with | (i, n, A2, c2, xs) => m - i) ?_ (0, (4 + 2 + name.size + 2 + note.size + 8), Av5, cv5, ([99, 108, 105, 112] ++ putL name.size 2 ++ name.data.toList ++ putL note.size 2 ++ note.data.toList ++ putL (u64N made) 8)) _ _ ?_
 ·rintro ⟨i, n, A2, c2, xs⟩ f wz ⟨fz, rfl, hp, hi0, hn, hx⟩ ihL0
  refine Lp_round ?_
  refine GW_seq ?_
  refine GW_seq ?_
  refine GW_region ?_
  refine GL_rd (v := .int _ _) (wn_none rfl) rfl (rd_move rfl rfl) ?_
  refine GL_rd (v := .slice _ _ _) (wn_none rfl) rfl (rd_move rfl rfl) ?_
  refine GL_rd (wn_none rfl) rfl (rd_len rfl rfl Try.underlying84) ?_
  refine GL_rd (wn_none rfl) rfl (rd_bin rfl rfl rfl bo_lss) ?_
  refine GL_nil ?_
  refine GW_cond rfl (fun hb => ?_) (fun hb => ?_)
  ·(try simp only [decide_eq_true_eq, decide_eq_false_iff_not, Bool.not_eq_true', Bool.not_eq_false', Bool.not_eq_eq_eq_not, Bool.not_true, Bool.not_false, Int.not_lt, Int.not_le] at hb)
   obtain ⟨gA, bA, rfl⟩ := hA.addr (by rw [flat_length adC_len]; omega)
   refine GW_skip ?_
   refine GW_seq ?_
   refine GW_block ?_
   refine GW_seq ?_
   refine GW_region ?_
   refine GL_rd (v := .int _ _) (wn_none rfl) rfl (rd_assign rfl rfl) ?_
   refine GL_nil ?_
   refine GW_block ?_
   refine GW_loop ?_
   refine Lp_ind (α := Nat × Nat × Option Addr × Nat × List UInt8) (fun a_0 f_0 w' => match a_0 with | (j, n, A2, c2, xs) => ∃ fz, f_0 = (upd (upd (upd (upd fz 3 (.slice (some ⟨gA, bA, none⟩) m c)) 9 (.slice A2 n c2)) 10 (.int .i64 (i : Int))) 11 (.int .i64 (j : Int))) ∧ Hp w0 [] w' [.row 5 1 (.slice A2 n c2) n (bys xs)] ∧ (j ≤ 32) ∧ (n = (4 + 2 + name.size + 2 + note.size + 8) + 32 * i + j) ∧ (xs = ([99, 108, 105, 112] ++ putL name.size 2 ++ name.data.toList ++ putL note.size 2 ++ note.data.toList ++ putL (u64N made) 8) ++ laidA (l.take i) ++ (adAt l i).1.take j)) (fun a_0 => match a_0 with | (j, n, A2, c2, xs) => 32 - j) ?_ (0, n, A2, c2, xs) _ _ ?_
   ·rintro ⟨j, n, A2, c2, xs⟩ f wz ⟨fz, rfl, hp, hj0, hn, hx⟩ ihL1
    refine Lp_round ?_
    refine GW_seq ?_
    refine GW_seq ?_
    refine GW_region ?_
    refine GL_rd (v := .int _ _) (wn_none rfl) rfl (rd_move rfl rfl) ?_
    refine GL_rd (wn_none rfl) rfl (rd_bin rfl rfl rfl bo_lss) ?_
    refine GL_nil ?_
    refine GW_cond rfl (fun hb2 => ?_) (fun hb2 => ?_)
    ·(try simp only [decide_eq_true_eq, decide_eq_false_iff_not, Bool.not_eq_true', Bool.not_eq_false', Bool.not_eq_eq_eq_not, Bool.not_true, Bool.not_false, Int.not_lt, Int.not_le] at hb2)
     refine GW_skip ?_
     refine GW_seq ?_
     refine GW_block ?_
     refine GW_region ?_
     refine GL_rd (v := .slice _ _ _) (wn_none rfl) rfl (rd_move rfl rfl) ?_
     refine GL_rd (v := .slice _ _ _) (wn_none rfl) rfl (rd_move rfl rfl) ?_
     refine GL_rd (v := .int _ _) (wn_none rfl) rfl (rd_move rfl rfl) ?_
     refine GL_rd (v := .int _ _) (wn_none rfl) rfl (rd_move rfl rfl) ?_
     refine GL_rd (wn_none rfl) rfl (rd_indexS (j := i) rfl rfl rfl Try.underlying84 ts57 rfl (by omega) _ rfl) ?_
     refine GL_rd (wn_none rfl) rfl (rd_indexA (j := j) rfl rfl rfl Try.underlying57 ts5 rfl (by omega) _ rfl) ?_
     refine GL_rd (wn_none rfl) rfl (rd_load rfl rfl Try.underlying5 rfl ((hA.keep hp.mod).adB i (by omega) j (by omega))) ?_
     refine GL_lit (L := (bys [(adAt l i).1.getD j 0])) (wn_none rfl) rfl rfl Try.underlying39 ts5 tz5 rfl (by kernel_rfl) rfl rfl hp ?_
     intro g2 w hp
     refine GL_append (i := 1) (wn_none rfl) rfl rfl rfl rfl Try.underlying39 ti5 rfl (by decide) hp rfl (Sl.row (hp.get 0 rfl)) (bys_one _) (by omega) (by omega) ?_
     intro v6 w hp
     obtain ⟨Av6, cv6, rfl⟩ := row_shape (hp.get 1 rfl)
     rw [← bys_append] at hp
     refine GL_rd (v := .slice _ _ _) (wn_none rfl) rfl (rd_assign rfl rfl) ?_
     refine GL_nil ?_
     refine GW_region ?_
     refine GL_rd (v := .int _ _) (wn_none rfl) rfl (rd_move rfl rfl) ?_
     refine GL_rd (wn_none rfl) rfl (rd_bin rfl rfl rfl (bo_add64 (by omega))) ?_
     refine GL_rd (v := .int _ _) (wn_none rfl) rfl (rd_assign rfl rfl) ?_
     refine GL_nil ?_
     have hp := ((hp.front 1 rfl).take 1)
     exact ihL1 (j + 1, _, _, _, _) _ _ (by simp only []; omega) ⟨_, slots4 rfl rfl rfl rfl, hp, by omega, by omega, by rw [hx, List.append_assoc, List.take_succ_eq_append_getD (by rw [(adAt l i).2]; omega)]⟩
    ·(try simp only [decide_eq_true_eq, decide_eq_false_iff_not, Bool.not_eq_true', Bool.not_eq_false', Bool.not_eq_eq_eq_not, Bool.not_true, Bool.not_false, Int.not_lt, Int.not_le] at hb2)
     obtain rfl : j = 32 := by omega
     refine GW_exit ?_
     refine GW_region ?_
     refine GL_rd (v := .int _ _) (wn_none rfl) rfl (rd_move rfl rfl) ?_
     refine GL_rd (wn_none rfl) rfl (rd_bin rfl rfl rfl (bo_add64 (by omega))) ?_
     refine GL_rd (v := .int _ _) (wn_none rfl) rfl (rd_assign rfl rfl) ?_
     refine GL_nil ?_
     exact ihL0 (i + 1, _, _, _, _) _ _ (by simp only []; omega) ⟨_, slots3 rfl rfl rfl, hp, by omega, by omega, by rw [hx, laidA_succ (by omega), List.take_of_length_le (l := (adAt l i).1) (by rw [(adAt l i).2]; omega), List.append_assoc]⟩
   ·refine ⟨_, slots4 rfl rfl rfl rfl, hp, Nat.zero_le _, by omega, by rw [hx, List.take_zero, List.append_nil]⟩
  ·(try simp only [decide_eq_true_eq, decide_eq_false_iff_not, Bool.not_eq_true', Bool.not_eq_false', Bool.not_eq_eq_eq_not, Bool.not_true, Bool.not_false, Int.not_lt, Int.not_le] at hb)
   obtain rfl : i = m := by omega
   refine GW_exit ?_
   refine GW_seq ?_
   refine GW_region ?_
   refine GL_rd (v := .slice _ _ _) (wn_none rfl) rfl (rd_move rfl rfl) ?_
   refine GL_rd (v := .slice _ _ _) (wn_none rfl) rfl (rd_assign rfl rfl) ?_
   refine GL_nil ?_
   refine GW_ret ?_
   have e : xs = clSaid name made note l := by rw [hx, List.take_of_length_le (by omega)]; simp only [clSaid, List.append_assoc]
   subst e
   have en := row_n (hp.get 0 rfl)
   subst en
   have hp := ((hp.front 0 rfl).take 1)
   exact ⟨_, res1 Try.results131 (rv_tmp (v := .slice _ _ _) rfl rfl), hp⟩
 ·have hp := ((hp.front 2 rfl).take 1)
  refine ⟨_, slots3 rfl rfl rfl, hp, Nat.zero_le _, by omega, by simp [laidA]⟩
theorem ref_bAddress (name note : ByteArray) (made : Int) (lv : Value) (m : Nat) (l : List A32) (w0 : World) (hA : Sl w0 lv 32 m (l.flatMap adC)) (hs : name.size ≤ 65535 ∧ note.size ≤ 65535) (hm : m ≤ 65535) : Does Try.prog 66 #[.string name, .int .i64 made, .string note, lv] w0 fun v w' => v = .agg ⟨bys (clAdr name made note l)⟩ ∧ Hp w0 [] w' [] := by
 have hlm : l.length = m := by have := hA.len; rw [flat_length adC_len] at this; omega
 have hcl := clSaid_length name made note l
 refine does_of (l := [.string name, .int .i64 made, .string note, lv]) Try.func66 (by kernel_rfl) rfl Try.ntmps66 rfl rfl ?_
 have hp := Hp.refl w0 []
 refine GW_seq ?_
 refine GW_region ?_
 refine GL_alloc (wn_none rfl) rfl rfl tz57 rfl hp ?_
 intro g w hp
 refine GL_nil ?_
 refine GW_seq ?_
 refine GW_region ?_
 refine GL_rd (v := .string _) (wn_none rfl) rfl (rd_move rfl rfl) ?_
 refine GL_rd (v := .int _ _) (wn_none rfl) rfl (rd_move rfl rfl) ?_
 refine GL_rd (v := .string _) (wn_none rfl) rfl (rd_move rfl rfl) ?_
 refine GL_rd (v := lv) (wn_none rfl) rfl (rd_move rfl rfl) ?_
 refine GL_call (wn_none rfl) rfl rfl (ref_bSaid name note made _ m l _ (hA.keep hp.mod) hs hm) rfl ?_
 intro vs w hk
 have hp := hp.comp hk
 refine GL_call (wn_none rfl) rfl rfl (ref_Sum _ _ (clSaid name made note l) _ (Sl.row (hp.get 0 rfl)) (by omega)) rfl ?_
 rintro _ w ⟨rfl, hk⟩
 have hp := hp.comp hk
 refine GL_store (i := 1) (wn_none rfl) rfl rfl rfl rfl ts57 rfl (by rw [bys_length]; first | exact a32_len _ | rfl | simp [*]) (bys_one _) hp rfl (by first | exact Nat.le_of_ble_eq_true rfl | (simp only [bys_length, a32_len]; omega)) (splice_all _ _ (by first | (rw [bys_length, List.length_replicate]; first | exact a32_len _) | (rw [bys_length]; first | exact a32_len _) | (rw [bys_length]; rfl) | simp [bys_length, a32_len, *])) ?_
 intro w hp
 refine GL_nil ?_
 refine GW_ret ?_
 exact ⟨_, res1 Try.results66 (rv_cell rfl rfl Try.underlying57 rfl ts57 (by rw [bys_length]; exact clAdr_length _ _ _ _) (hp.get 1 rfl)), rfl, hp.mods⟩
theorem ref_bcut (l : List UInt8) (p n : Nat) (w0 : World) (hl : l.length = 256) (hn : p + n ≤ 256) : Does Try.prog 135 #[.agg ⟨bys l⟩, .int .i64 (p : Int), .int .i64 (n : Int)] w0 fun v w' => Hp w0 [] w' [.row 5 1 v n (bys ((l.drop p).take n))] := by
 refine does_of (l := [.agg ⟨bys l⟩, .int .i64 (p : Int), .int .i64 (n : Int)]) Try.func135 (by kernel_rfl) rfl Try.ntmps135 rfl rfl ?_
 have hp := Hp.refl w0 []
 refine GW_seq ?_
 refine GW_region ?_
 refine GL_box (wn_none rfl) rfl rfl rfl rfl hp ?_
 intro g w hp
 refine GL_rd (v := .slice _ _ _) (wn_none rfl) rfl (rd_assign rfl rfl) ?_
 refine GL_nil ?_
 refine GW_seq ?_
 refine GW_region ?_
 refine GL_rd (v := .slice _ _ _) (wn_none rfl) rfl (rd_assign rfl rfl) ?_
 refine GL_nil ?_
 refine GW_seq ?_
 refine GW_seq ?_
 refine GW_region ?_
 refine GL_rd (v := .int _ _) (wn_none rfl) rfl (rd_move rfl rfl) ?_
 refine GL_rd (v := .int _ _) (wn_none rfl) rfl (rd_assign rfl rfl) ?_
 refine GL_nil ?_
 refine GW_block ?_
 refine GW_loop ?_
 refine Lp_ind (α := Nat × Value) (fun a_0 f_0 w' => match a_0 with | (k, v) => ∃ fz, f_0 = (upd (upd (upd (upd (upd fz 1 (.int .i64 (p : Int))) 2 (.int .i64 (n : Int))) 3 (.pointer (some ⟨g, 0, none⟩))) 7 (v)) 8 (.int .i64 ((p + k : Nat) : Int))) ∧ Hp w0 [] w' [.row 5 1 v k (bys ((l.drop p).take k)), cells g 44 (bys l)] ∧ (k ≤ n)) (fun a_0 => match a_0 with | (k, v) => n - k) ?_ (0, .slice none 0 0) _ _ ?_
 ·rintro ⟨k, v⟩ f wz ⟨fz, rfl, hp, hk0⟩ ihL0
  refine Lp_round ?_
  refine GW_seq ?_
  refine GW_seq ?_
  refine GW_region ?_
  refine GL_rd (v := .int _ _) (wn_none rfl) rfl (rd_move rfl rfl) ?_
  refine GL_rd (v := .int _ _) (wn_none rfl) rfl (rd_move rfl rfl) ?_
  refine GL_rd (v := .int _ _) (wn_none rfl) rfl (rd_move rfl rfl) ?_
  refine GL_rd (wn_none rfl) rfl (rd_bin rfl rfl rfl (bo_add64 (by omega))) ?_
  refine GL_rd (wn_none rfl) rfl (rd_bin rfl rfl rfl bo_lss) ?_
  refine GL_nil ?_
  refine GW_cond rfl (fun hb => ?_) (fun hb => ?_)
  ·(try simp only [decide_eq_true_eq, decide_eq_false_iff_not, Bool.not_eq_true', Bool.not_eq_false', Bool.not_eq_eq_eq_not, Bool.not_true, Bool.not_false, Int.not_lt, Int.not_le] at hb)
   refine GW_skip ?_
   refine GW_seq ?_
   refine GW_block ?_
   refine GW_region ?_
   refine GL_rd (v := v) (wn_none rfl) rfl (rd_move rfl rfl) ?_
   refine GL_rd (v := .int _ _) (wn_none rfl) rfl (rd_move rfl rfl) ?_
   refine GL_rd (wn_none rfl) rfl (rd_indexA (j := (p + k)) rfl rfl rfl Try.underlying44 ts5 rfl (by omega) _ rfl) ?_
   refine GL_rd (wn_none rfl) rfl (rd_load rfl rfl Try.underlying5 rfl ((cell_of_cells (hp.get 1 rfl) _).trans (byte_at1 hl (by omega)))) ?_
   refine GL_lit (L := (bys [l.getD (p + k) 0])) (wn_none rfl) rfl rfl Try.underlying39 ts5 tz5 rfl (by kernel_rfl) rfl rfl hp ?_
   intro g2 w hp
   refine GL_append (i := 1) (wn_none rfl) rfl rfl rfl rfl Try.underlying39 ti5 rfl (by decide) hp rfl (Sl.row (hp.get 0 rfl)) (bys_one _) (by omega) (by omega) ?_
   intro v w hp
   rw [← bys_append] at hp
   refine GL_rd (v := v) (wn_none rfl) rfl (rd_assign rfl rfl) ?_
   refine GL_nil ?_
   refine GW_region ?_
   refine GL_rd (v := .int _ _) (wn_none rfl) rfl (rd_move rfl rfl) ?_
   refine GL_rd (wn_none rfl) rfl (rd_bin rfl rfl rfl (bo_add64 (by omega))) ?_
   refine GL_rd (v := .int _ _) (wn_none rfl) rfl (rd_assign rfl rfl) ?_
   refine GL_nil ?_
   rw [cut_step (by omega)] at hp
   have hp := (((hp.front 2 rfl).front 2 rfl).take 2)
   exact ihL0 (k + 1, _) _ _ (by simp only []; omega) ⟨_, slots5 rfl rfl rfl rfl rfl, hp, by omega⟩
  ·(try simp only [decide_eq_true_eq, decide_eq_false_iff_not, Bool.not_eq_true', Bool.not_eq_false', Bool.not_eq_eq_eq_not, Bool.not_true, Bool.not_false, Int.not_lt, Int.not_le] at hb)
   obtain rfl : k = n := by omega
   refine GW_exit ?_
   refine GW_seq ?_
   refine GW_region ?_
   refine GL_rd (v := v) (wn_none rfl) rfl (rd_move rfl rfl) ?_
   refine GL_rd (v := v) (wn_none rfl) rfl (rd_assign rfl rfl) ?_
   refine GL_nil ?_
   refine GW_ret ?_
   have hp := ((hp.front 0 rfl).take 1)
   exact ⟨_, res1 Try.results135 (rv_tmp (v := v) rfl rfl), hp⟩
 ·have hp := hp.nilRow 5 1
  refine ⟨_, slots5 rfl rfl rfl rfl rfl, hp, Nat.zero_le _⟩
theorem sl_CloneS (sv : Value) (m : Nat) (l : List ByteArray) (w0 : World) (hI : Sl w0 sv 1 m (l.map Value.string)) (hm : m ≤ 65535) : Does Try.prog 137 #[sv] w0 fun v w' => Hp w0 [] w' [.row 9 1 v m (l.map Value.string)] := by
 obtain ⟨A, c, rfl⟩ := sl_shape hI
 have hlm : l.length = m := by have := hI.len; rw [List.length_map] at this; omega
 have hmle := hI.le
 refine does_of (l := [.slice A m c]) Try.func137 (by kernel_rfl) rfl Try.ntmps137 rfl rfl ?_
 have hp := Hp.refl w0 []
 refine GW_seq ?_
 refine GW_region ?_
 refine GL_rd (v := .slice _ _ _) (wn_none rfl) rfl (rd_assign rfl rfl) ?_
 refine GL_nil ?_
 refine GW_seq ?_
 refine GW_seq ?_
 refine GW_region ?_
 refine GL_rd (v := .slice _ _ _) (wn_none rfl) rfl (rd_move rfl rfl) ?_
 refine GL_rd (wn_none rfl) rfl (rd_bin rfl rfl rfl (bo_slnil Try.underlying40)) ?_
 refine GL_nil ?_
 refine GW_cond rfl (fun hb => ?_) (fun hb => ?_)
 ·(try simp only [decide_eq_true_eq, decide_eq_false_iff_not, Bool.not_eq_true', Bool.not_eq_false', Bool.not_eq_eq_eq_not, Bool.not_true, Bool.not_false, Int.not_lt, Int.not_le] at hb)
  have hnil := hb
  refine GW_seq ?_
  refine GW_region ?_
  refine GL_rd (v := .slice _ _ _) (wn_none rfl) rfl (rd_assign rfl rfl) ?_
  refine GL_nil ?_
  refine GW_ret ?_
  obtain rfl : A = none := Option.isNone_iff_eq_none.1 hnil
  have e0 := sl_none hI
  obtain rfl : m = 0 := by have := congrArg List.length e0; rw [List.length_map] at this; simp at this; rw [this] at hlm; exact hlm.symm
  have hp := hp.mods.nilRow 9 1
  exact ⟨_, res1 Try.results137 (rv_tmp (v := .slice _ _ _) rfl rfl), by rw [e0]; exact hp⟩
 ·(try simp only [decide_eq_true_eq, decide_eq_false_iff_not, Bool.not_eq_true', Bool.not_eq_false', Bool.not_eq_eq_eq_not, Bool.not_true, Bool.not_false, Int.not_lt, Int.not_le] at hb)
  refine GW_skip ?_
  refine GW_seq ?_
  refine GW_region ?_
  refine GL_lit (L := []) (wn_none rfl) rfl rfl Try.underlying40 ts9 tz9 rfl (by kernel_rfl) rfl rfl hp ?_
  intro g w hp
  refine GL_rd (v := .slice _ _ _) (wn_none rfl) rfl (rd_move rfl rfl) ?_
  refine GL_append (i := 0) (wn_none rfl) rfl rfl rfl rfl Try.underlying40 ti9 rfl (by decide) hp rfl (hI.keep hp.mod) (strs_one _) (by omega) (by omega) ?_
  intro v w hp
  refine GL_rd (v := v) (wn_none rfl) rfl (rd_assign rfl rfl) ?_
  refine GL_nil ?_
  refine GW_ret ?_
  have hp := ((hp.front 0 rfl).take 1)
  rw [Nat.zero_add, List.nil_append] at hp
  exact ⟨_, res1 Try.results137 (rv_tmp (v := v) rfl rfl), hp⟩
theorem sl_CloneI (sv : Value) (m : Nat) (l : List Int) (w0 : World) (hI : Sl w0 sv 1 m (l.map (Value.int .i64))) (hm : m ≤ 65535) : Does Try.prog 138 #[sv] w0 fun v w' => Hp w0 [] w' [.row 3 1 v m (l.map (Value.int .i64))] := by
 obtain ⟨A, c, rfl⟩ := sl_shape hI
 have hlm : l.length = m := by have := hI.len; rw [List.length_map] at this; omega
 have hmle := hI.le
 refine does_of (l := [.slice A m c]) Try.func138 (by kernel_rfl) rfl Try.ntmps138 rfl rfl ?_
 have hp := Hp.refl w0 []
 refine GW_seq ?_
 refine GW_region ?_
 refine GL_rd (v := .slice _ _ _) (wn_none rfl) rfl (rd_assign rfl rfl) ?_
 refine GL_nil ?_
 refine GW_seq ?_
 refine GW_seq ?_
 refine GW_region ?_
 refine GL_rd (v := .slice _ _ _) (wn_none rfl) rfl (rd_move rfl rfl) ?_
 refine GL_rd (wn_none rfl) rfl (rd_bin rfl rfl rfl (bo_slnil Try.underlying32)) ?_
 refine GL_nil ?_
 refine GW_cond rfl (fun hb => ?_) (fun hb => ?_)
 ·(try simp only [decide_eq_true_eq, decide_eq_false_iff_not, Bool.not_eq_true', Bool.not_eq_false', Bool.not_eq_eq_eq_not, Bool.not_true, Bool.not_false, Int.not_lt, Int.not_le] at hb)
  have hnil := hb
  refine GW_seq ?_
  refine GW_region ?_
  refine GL_rd (v := .slice _ _ _) (wn_none rfl) rfl (rd_assign rfl rfl) ?_
  refine GL_nil ?_
  refine GW_ret ?_
  obtain rfl : A = none := Option.isNone_iff_eq_none.1 hnil
  have e0 := sl_none hI
  obtain rfl : m = 0 := by have := congrArg List.length e0; rw [List.length_map] at this; simp at this; rw [this] at hlm; exact hlm.symm
  have hp := hp.mods.nilRow 3 1
  exact ⟨_, res1 Try.results138 (rv_tmp (v := .slice _ _ _) rfl rfl), by rw [e0]; exact hp⟩
 ·(try simp only [decide_eq_true_eq, decide_eq_false_iff_not, Bool.not_eq_true', Bool.not_eq_false', Bool.not_eq_eq_eq_not, Bool.not_true, Bool.not_false, Int.not_lt, Int.not_le] at hb)
  refine GW_skip ?_
  refine GW_seq ?_
  refine GW_region ?_
  refine GL_lit (L := []) (wn_none rfl) rfl rfl Try.underlying32 ts3 tz3 rfl (by kernel_rfl) rfl rfl hp ?_
  intro g w hp
  refine GL_rd (v := .slice _ _ _) (wn_none rfl) rfl (rd_move rfl rfl) ?_
  refine GL_append (i := 0) (wn_none rfl) rfl rfl rfl rfl Try.underlying32 ti3 rfl (by decide) hp rfl (hI.keep hp.mod) (ints_one _ _) (by omega) (by omega) ?_
  intro v w hp
  refine GL_rd (v := v) (wn_none rfl) rfl (rd_assign rfl rfl) ?_
  refine GL_nil ?_
  refine GW_ret ?_
  have hp := ((hp.front 0 rfl).take 1)
  rw [Nat.zero_add, List.nil_append] at hp
  exact ⟨_, res1 Try.results138 (rv_tmp (v := v) rfl rfl), hp⟩
set_option maxHeartbeats 1000000 in
theorem bi_Address (name note : ByteArray) (made : Int) (lv : Value) (m : Nat) (l : List A32) (w0 : World) (hA : Sl w0 lv 32 m (l.flatMap adC)) (hs : name.size ≤ 65535 ∧ note.size ≤ 65535) (hm : m ≤ 65535) : Does Try.prog 65 #[.string name, .int .i64 made, .string note, lv] w0 fun v w' => v = .agg ⟨bys (clAdr name made note l)⟩ ∧ Hp w0 [] w' [] := by
 obtain ⟨A, c, rfl⟩ := sl_shape hA
 have hlm : l.length = m := Sl.ads hA
 obtain ⟨hs1, hs2⟩ := hs
 have hbl := fun i => snB_le (name := name) (note := note) ⟨hs1, hs2⟩ i
 have hnl := fun i => nmAt_le (name := name) (note := note) i ⟨hs1, hs2⟩
 refine does_of (l := [.string name, .int .i64 made, .string note, .slice A m c]) Try.func65 (by kernel_rfl) rfl Try.ntmps65 rfl rfl ?_
 have hp := Hp.refl w0 []
 refine GW_seq ?_
 refine GW_region ?_
 refine GL_alloc (wn_none rfl) rfl rfl tz57 rfl hp ?_
 intro g w hp
 refine GL_nil ?_
 refine GW_seq ?_
 refine GW_region ?_
 refine GL_call (wn_none rfl) rfl rfl (dig_New _) rfl ?_
 rintro _ w ⟨gh, rfl, hk⟩
 have hp := hp.comp hk
 refine GL_rd (v := .pointer (some ⟨_, _, none⟩)) (wn_none rfl) rfl (rd_assign rfl rfl) ?_
 refine GL_nil ?_
 refine GW_seq ?_
 refine GW_region ?_
 refine GL_rd (v := .pointer (some ⟨_, _, none⟩)) (wn_none rfl) rfl (rd_move rfl rfl) ?_
 refine GL_lit (L := (bys [99, 108, 105, 112])) (wn_none rfl) rfl rfl Try.underlying39 ts5 tz5 rfl (by kernel_rfl) rfl rfl hp ?_
 intro g2 w hp
 refine GL_convB (i := 0) (wn_none rfl) rfl rfl rfl Try.underlying39 Try.underlying5 hp rfl ?_
 intro w hp
 have hp := (((((hp.front 3 rfl).front 1 rfl).front 3 rfl).front 3 rfl).take 4)
 refine GL_call (wn_none rfl) rfl rfl (dig_Add gh [] _ _ _ [99, 108, 105, 112] _ (hp.ownsT 2) (fun w' h => Sl.blk (hp.stays 2 2 rfl (by decide) h) 1 _ rfl (by simp [maxLen])) (by decide)) rfl ?_
 rintro _ w ⟨rv2, hk⟩
 have hp := hp.turnsT 2 hk
 refine GL_nil ?_
 refine GW_seq ?_
 refine GW_seq ?_
 refine GW_region ?_
 refine GL_rd (v := .string _) (wn_none rfl) rfl (rd_move rfl rfl) ?_
 refine GL_rd (v := .string _) (wn_none rfl) rfl (rd_move rfl rfl) ?_
 refine GL_rd (wn_none rfl) rfl (rd_buildA (L := [.string name, .string note]) rfl tz167 Try.underlying167 ts9 (by kernel_rfl)) ?_
 refine GL_rd (v := .int _ _) (wn_none rfl) rfl (rd_move rfl rfl) ?_
 refine GL_nil ?_
 refine GW_block ?_
 refine GW_loop ?_
 refine Lp_ind (α := Nat × Value) (fun a_0 f_0 w' => match a_0 with | (i, rv) => ∃ fz, f_0 = (upd (upd (upd (upd (upd (upd fz 1 (.int .i64 made)) 3 (.slice A m c)) 8 (.pointer (some ⟨g, 0, none⟩))) 9 (.pointer (some ⟨gh, 0, none⟩))) 21 (.agg ⟨[.string name, .string note]⟩)) 22 (.int .i64 (i : Int))) ∧ Hp w0 [] w' [cells gh 223 (hsC (snB name note i) rv), .row 5 1 rv (hrB (snB name note i)).length (bys (hrB (snB name note i))), cells g 57 (List.replicate 32 (.int .u8 0))] ∧ (i ≤ 2)) (fun a_0 => match a_0 with | (i, rv) => 2 - i) ?_ (0, rv2) _ _ ?_
 ·rintro ⟨i, rv⟩ f wz ⟨fz, rfl, hp, hi0⟩ ihL0
  refine Lp_round ?_
  refine GW_seq ?_
  refine GW_region ?_
  refine GL_rd (wn_none rfl) rfl (rd_bin rfl rfl rfl bo_lss) ?_
  refine GL_nil ?_
  refine GW_seq ?_
  refine GW_cond rfl (fun hb => ?_) (fun hb => ?_)
  ·(try simp only [decide_eq_true_eq, decide_eq_false_iff_not, Bool.not_eq_true', Bool.not_eq_false', Bool.not_eq_eq_eq_not, Bool.not_true, Bool.not_false, Int.not_lt, Int.not_le] at hb)
   refine GW_skip ?_
   refine GW_seq ?_
   refine GW_block ?_
   refine GW_seq ?_
   refine GW_region ?_
   refine GL_rd (wn_none rfl) rfl (rd_indexV (j := i) rfl rfl rfl Try.underlying167 Try.underlying9 rfl ts9 rfl (by omega) (nm_cell (by omega))) ?_
   refine GL_rd (v := .string _) (wn_none rfl) rfl (rd_assign rfl rfl) ?_
   refine GL_nil ?_
   refine GW_seq ?_
   refine GW_region ?_
   refine GL_rd (v := .pointer (some ⟨_, _, none⟩)) (wn_none rfl) rfl (rd_move rfl rfl) ?_
   refine GL_rd (v := .string _) (wn_none rfl) rfl (rd_move rfl rfl) ?_
   refine GL_rd (wn_none rfl) rfl (rd_lenS rfl rfl Try.underlying9) ?_
   refine GL_rd (wn_none rfl) rfl (rd_convE (q := ((nmAt name note i).size : Int)) rfl rfl Try.underlying160 Try.underlying3 (by simp) (IntWalk.u64_in _ (by have := hnl i; omega))) ?_
   have hn1 := hnl i
   have hb1 := hbl i
   refine GL_call (wn_none rfl) rfl rfl (word_Put (nmAt name note i).size 2 _ (by omega) (by decide)) rfl ?_
   rintro _ w ⟨q, rfl, hk⟩
   have hp := hp.comp hk
   have hp := (((((hp.front 3 rfl).front 1 rfl).front 3 rfl).front 3 rfl).take 4)
   refine GL_call (wn_none rfl) rfl rfl (dig_Add gh (snB name note i) _ _ _ (putL (nmAt name note i).size 2) _ (hp.ownsT 2) (fun w' h => Sl.row (hp.stays 2 2 rfl (by decide) h)) (by show (snB name note i).length + 2 ≤ _; omega)) rfl ?_
   rintro _ w ⟨rv2, hk⟩
   have hp := hp.turnsT 2 hk
   refine GL_nil ?_
   refine GW_region ?_
   refine GL_rd (v := .pointer (some ⟨_, _, none⟩)) (wn_none rfl) rfl (rd_move rfl rfl) ?_
   refine GL_rd (v := .string _) (wn_none rfl) rfl (rd_move rfl rfl) ?_
   refine GL_strB (wn_none rfl) rfl rfl rfl Try.underlying9 Try.underlying39 Try.underlying5 hp (by omega) ?_
   intro sb ob sv w hp hsl
   have hp := ((((((hp.front 4 rfl).front 4 rfl).front 2 rfl).front 4 rfl).front 4 rfl).take 5)
   refine GL_call (wn_none rfl) rfl rfl (dig_Add gh ((snB name note i) ++ putL (nmAt name note i).size 2) _ _ _ (nmAt name note i).data.toList _ (hp.ownsT 2) (fun w' h => hsl _ (hp.stays 2 2 rfl (by decide) h)) (by simp only [List.length_append, putL_length]; omega)) rfl ?_
   rintro _ w ⟨rv2, hk⟩
   have hp := hp.turnsT 2 hk
   refine GL_nil ?_
   refine GW_region ?_
   refine GL_rd (wn_none rfl) rfl (rd_bin rfl rfl rfl (bo_add64 (by omega))) ?_
   refine GL_rd (v := .int _ _) (wn_none rfl) rfl (rd_move rfl rfl) ?_
   refine GL_nil ?_
   have hp := ((((hp.front 4 rfl).front 2 rfl).front 2 rfl).take 3)
   exact ihL0 (i + 1, rv2) _ _ (by simp only []; omega) ⟨_, slots6 rfl rfl rfl rfl rfl rfl, hp, by omega⟩
  ·(try simp only [decide_eq_true_eq, decide_eq_false_iff_not, Bool.not_eq_true', Bool.not_eq_false', Bool.not_eq_eq_eq_not, Bool.not_true, Bool.not_false, Int.not_lt, Int.not_le] at hb)
   obtain rfl : i = 2 := by omega
   refine GW_exit ?_
   refine GW_seq ?_
   refine GW_region ?_
   refine GL_rd (v := .pointer (some ⟨_, _, none⟩)) (wn_none rfl) rfl (rd_move rfl rfl) ?_
   refine GL_rd (v := .int _ _) (wn_none rfl) rfl (rd_move rfl rfl) ?_
   refine GL_rd (wn_none rfl) rfl (rd_convE (q := (u64N made : Int)) rfl rfl Try.underlying160 Try.underlying3 (by simp) (u64_wrapN _)) ?_
   refine GL_call (wn_none rfl) rfl rfl (word_Put (u64N made) 8 _ (u64N_lt _) (by decide)) rfl ?_
   rintro _ w ⟨q, rfl, hk⟩
   have hp := hp.comp hk
   have hp := (((((hp.front 3 rfl).front 1 rfl).front 3 rfl).front 3 rfl).take 4)
   refine GL_call (wn_none rfl) rfl rfl (dig_Add gh (snB name note 2) _ _ _ (putL (u64N made) 8) _ (hp.ownsT 2) (fun w' h => Sl.row (hp.stays 2 2 rfl (by decide) h)) (by have := hbl 2; show (snB name note 2).length + 8 ≤ _; omega)) rfl ?_
   rintro _ w ⟨rv2, hk⟩
   have hp := hp.turnsT 2 hk
   refine GL_nil ?_
   refine GW_seq ?_
   refine GW_seq ?_
   refine GW_region ?_
   refine GL_rd (v := .slice _ _ _) (wn_none rfl) rfl (rd_move rfl rfl) ?_
   refine GL_rd (wn_none rfl) rfl (rd_len rfl rfl Try.underlying84) ?_
   refine GL_rd (v := .int _ _) (wn_none rfl) rfl (rd_move rfl rfl) ?_
   refine GL_nil ?_
   refine GW_block ?_
   refine GW_loop ?_
   refine Lp_ind (α := Nat × Value) (fun a_0 f_0 w' => match a_0 with | (i, rv) => ∃ fz, f_0 = (upd (upd (upd (upd (upd (upd fz 3 (.slice A m c)) 8 (.pointer (some ⟨g, 0, none⟩))) 9 (.pointer (some ⟨gh, 0, none⟩))) 41 (.slice A m c)) 42 (.int .i64 (m : Int))) 43 (.int .i64 (i : Int))) ∧ Hp w0 [] w' [cells gh 223 (hsC ((snB name note 2 ++ putL (u64N made) 8) ++ laidA (l.take i)) rv), .row 5 1 rv (hrB ((snB name note 2 ++ putL (u64N made) 8) ++ laidA (l.take i))).length (bys (hrB ((snB name note 2 ++ putL (u64N made) 8) ++ laidA (l.take i)))), cells g 57 (List.replicate 32 (.int .u8 0))] ∧ (i ≤ m)) (fun a_0 => match a_0 with | (i, rv) => m - i) ?_ (0, rv2) _ _ ?_
   ·rintro ⟨i, rv⟩ f wz ⟨fz, rfl, hp, hi0⟩ ihL1
    refine Lp_round ?_
    refine GW_seq ?_
    refine GW_region ?_
    refine GL_rd (wn_none rfl) rfl (rd_bin rfl rfl rfl bo_lss) ?_
    refine GL_nil ?_
    refine GW_seq ?_
    refine GW_cond rfl (fun hb2 => ?_) (fun hb2 => ?_)
    ·(try simp only [decide_eq_true_eq, decide_eq_false_iff_not, Bool.not_eq_true', Bool.not_eq_false', Bool.not_eq_eq_eq_not, Bool.not_true, Bool.not_false, Int.not_lt, Int.not_le] at hb2)
     obtain ⟨gA, bA, rfl⟩ := hA.addr (by rw [flat_length adC_len]; omega)
     refine GW_skip ?_
     refine GW_seq ?_
     refine GW_block ?_
     refine GW_seq ?_
     refine GW_region ?_
     refine GL_rd (wn_none rfl) rfl (rd_indexS (j := i) rfl rfl rfl Try.underlying84 ts57 rfl (by omega) _ rfl) ?_
     refine GL_rd (wn_none rfl) rfl (rd_loadN (L := bys (adAt l i).1) rfl rfl Try.underlying57 rfl ts57 (by rw [bys_length]; exact (adAt l i).2) (fun j u hj => (hA.keep hp.mod).adE i (by omega) hj)) ?_
     refine GL_alloc (wn_none rfl) rfl rfl tz57 rfl hp ?_
     intro g3 w hp
     refine GL_store (i := 0) (wn_none rfl) rfl rfl rfl rfl ts57 rfl (by rw [bys_length]; exact (adAt l i).2) (bys_one _) hp rfl (Nat.le_of_ble_eq_true rfl) (splice_all _ _ (by rw [bys_length, (adAt l i).2]; rfl)) ?_
     intro w hp
     refine GL_nil ?_
     refine GW_region ?_
     refine GL_rd (v := .pointer (some ⟨_, _, none⟩)) (wn_none rfl) rfl (rd_move rfl rfl) ?_
     refine GL_rd (wn_none rfl) rfl (rd_sliceA (lo := 0) (hi := 32) rfl rfl Try.underlying57 ts5 at_none to_none (by decide) (by decide) (by decide) _ rfl) ?_
     have hp := (((((hp.front 3 rfl).front 1 rfl).front 3 rfl).front 3 rfl).take 4)
     refine GL_call (wn_none rfl) rfl rfl (dig_Add gh ((snB name note 2 ++ putL (u64N made) 8) ++ laidA (l.take i)) _ _ _ (adAt l i).1 _ (hp.ownsT 2) (fun w' h => Sl.cells (hp.stays 2 2 rfl (by decide) h) 1 32 32 0 (bys (adAt l i).1) (by rw [List.drop_zero, List.take_of_length_le (by rw [bys_length, (adAt l i).2]; decide)]) (by rw [bys_length, (adAt l i).2]; decide) (by decide) (by decide)) (by have := hbl 2; simp only [List.length_append, putL_length, laidA_length, List.length_take]; omega)) rfl ?_
     rintro _ w ⟨rv2, hk⟩
     have hp := hp.turnsT 2 hk
     refine GL_nil ?_
     refine GW_region ?_
     refine GL_rd (wn_none rfl) rfl (rd_bin rfl rfl rfl (bo_add64 (by omega))) ?_
     refine GL_rd (v := .int _ _) (wn_none rfl) rfl (rd_move rfl rfl) ?_
     refine GL_nil ?_
     rw [List.append_assoc, ← laidA_succ (by omega)] at hp
     have hp := ((((hp.front 3 rfl).front 2 rfl).front 2 rfl).take 3)
     exact ihL1 (i + 1, rv2) _ _ (by simp only []; omega) ⟨_, slots6 rfl rfl rfl rfl rfl rfl, hp, by omega⟩
    ·(try simp only [decide_eq_true_eq, decide_eq_false_iff_not, Bool.not_eq_true', Bool.not_eq_false', Bool.not_eq_eq_eq_not, Bool.not_true, Bool.not_false, Int.not_lt, Int.not_le] at hb2)
     obtain rfl : i = m := by omega
     rw [List.take_of_length_le (by omega), snB_said] at hp
     refine GW_exit ?_
     refine GW_seq ?_
     refine GW_region ?_
     refine GL_rd (v := .pointer (some ⟨_, _, none⟩)) (wn_none rfl) rfl (rd_move rfl rfl) ?_
     have hcl := clSaid_length name made note l
     refine GL_call (wn_none rfl) rfl rfl (dig_Sum gh (clSaid name made note l) rv _ (hp.get 0 rfl) (Sl.row (hp.get 1 rfl)) (by omega)) rfl ?_
     rintro _ w ⟨rfl, hk⟩
     have hp := hp.comp hk
     refine GL_store (i := 2) (wn_none rfl) rfl rfl rfl rfl ts57 rfl (by rw [bys_length]; exact clAdr_length _ _ _ _) (bys_one _) hp rfl (Nat.le_of_ble_eq_true rfl) (splice_all _ _ (by rw [bys_length, sumB_length]; rfl)) ?_
     intro w hp
     refine GL_nil ?_
     refine GW_ret ?_
     exact ⟨_, res1 Try.results65 (rv_cell rfl rfl Try.underlying57 rfl ts57 (by rw [bys_length]; exact clAdr_length _ _ _ _) (hp.get 2 rfl)), rfl, hp.mods⟩
   ·have e0 : (snB name note 2 ++ putL (u64N made) 8) = (snB name note 2 ++ putL (u64N made) 8) ++ laidA (l.take 0) := by simp [laidA]
    rw [e0] at hp
    have hp := ((((hp.front 3 rfl).front 2 rfl).front 2 rfl).take 3)
    refine ⟨_, slots6 rfl rfl rfl rfl rfl rfl, hp, Nat.zero_le _⟩
 ·have hp := ((((hp.front 3 rfl).front 2 rfl).front 2 rfl).take 3)
  refine ⟨_, slots6 rfl rfl rfl rfl rfl rfl, hp, Nat.zero_le _⟩
set_option maxHeartbeats 1000000 in
theorem bi_Put (c : Clp) (hv tv : Value) (mh mt : Nat) (w0 : World) (hH : Sl w0 hv 1 mh (c.holds.map Value.string)) (hT : Sl w0 tv 1 mt (c.texts.map (Value.int .i64))) (hz : ∀ x ∈ c.holds, x.size ≤ 4294967296) (hz2 : c.note.size ≤ 4294967296) : Does Try.prog 61 #[.agg ⟨clipC c hv tv⟩] w0 fun v w' => v = .tuple #[.agg ⟨bys (secC c)⟩, .int .i64 (clpC c 8 40)] ∧ Hp w0 [] w' [] := by
 obtain ⟨A, ch, rfl⟩ := sl_shape hH
 obtain ⟨B, ct, rfl⟩ := sl_shape hT
 obtain rfl : mh = c.holds.length := by have := hH.len; rw [List.length_map] at this; omega
 obtain rfl : mt = c.texts.length := by have := hT.len; rw [List.length_map] at this; omega
 have hpl := pad_le c.note.data.toList 32
 have hal := c.addr.2
 refine does_of (l := [.agg ⟨(clipC c (.slice A c.holds.length ch) (.slice B c.texts.length ct))⟩]) Try.func61 (by kernel_rfl) rfl Try.ntmps61 rfl rfl ?_
 have hp := Hp.refl w0 []
 refine GW_seq ?_
 refine GW_region ?_
 refine GL_box (wn_none rfl) rfl rfl rfl rfl hp ?_
 intro g w hp
 refine GL_alloc (wn_none rfl) rfl rfl tz44 rfl hp ?_
 intro g2 w hp
 refine GL_rd (v := .int _ _) (wn_none rfl) rfl (rd_assign rfl rfl) ?_
 refine GL_nil ?_
 refine GW_seq ?_
 refine GW_seq ?_
 refine GW_region ?_
 refine GL_rd (wn_none rfl) rfl (rd_loadC rfl rfl Try.underlying83 rfl ts83 (hp.get 1 rfl) (clipC_len _ _ _)) ?_
 refine GL_call (wn_none rfl) rfl rfl (bi_Check c _ _ _ _ 8 40 _ (hH.keep hp.mod) (hT.keep hp.mod) hz) rfl ?_
 rintro _ w ⟨rfl, hk⟩
 have hp := hp.comp hk
 refine GL_rd (v := .int _ _) (wn_none rfl) rfl (rd_assign rfl rfl) ?_
 refine GL_nil ?_
 refine GW_seq ?_
 refine GW_region ?_
 refine GL_rd (v := .int _ _) (wn_none rfl) rfl (rd_move rfl rfl) ?_
 refine GL_rd (wn_none rfl) rfl (rd_bin rfl rfl rfl bo_neq) ?_
 refine GL_nil ?_
 refine GW_cond rfl (fun hb => ?_) (fun hb => ?_)
 ·(try simp only [decide_eq_true_eq, decide_eq_false_iff_not, Bool.not_eq_true', Bool.not_eq_false', Bool.not_eq_eq_eq_not, Bool.not_true, Bool.not_false, Int.not_lt, Int.not_le] at hb)
  have hno : ¬ clpC c 8 40 = 0 := hb
  refine GW_seq ?_
  refine GW_region ?_
  refine GL_rd (wn_none rfl) rfl (rd_buildA (L := List.replicate 256 (.int .u8 0)) rfl tz44 Try.underlying44 ts5 (by kernel_rfl)) ?_
  refine GL_rd (v := .int _ _) (wn_none rfl) rfl (rd_move rfl rfl) ?_
  refine GL_store (i := 0) (wn_none rfl) rfl rfl rfl rfl ts44 rfl List.length_replicate (fun u hu => by rw [List.eq_of_mem_replicate hu]; rfl) hp rfl (by rw [List.length_replicate]; decide) (splice_all _ _ rfl) ?_
  intro w hp
  refine GL_rd (v := .int _ _) (wn_none rfl) rfl (rd_assign rfl rfl) ?_
  refine GL_nil ?_
  refine GW_ret ?_
  exact ⟨_, res2 Try.results61 (rv_cell rfl rfl Try.underlying44 rfl ts44 (by first | rw [bys_length, secC_length] | exact List.length_replicate) (hp.get 0 rfl)) (rv_tmp (v := .int _ _) rfl rfl), by rw [secC_no hno, bys_replicate] <;> rfl, hp.mods⟩
 ·(try simp only [decide_eq_true_eq, decide_eq_false_iff_not, Bool.not_eq_true', Bool.not_eq_false', Bool.not_eq_eq_eq_not, Bool.not_true, Bool.not_false, Int.not_lt, Int.not_le] at hb)
  have hok : clpC c 8 40 = 0 := hb
  have hle := clpC_lens hok
  refine GW_skip ?_
  refine GW_seq ?_
  refine GW_region ?_
  refine GL_lit (L := (bys [67, 76, 73, 80])) (wn_none rfl) rfl rfl Try.underlying39 ts5 tz5 rfl (by kernel_rfl) rfl rfl hp ?_
  intro g3 w hp
  refine GL_convB (i := 0) (wn_none rfl) rfl rfl rfl Try.underlying39 Try.underlying5 hp rfl ?_
  intro w hp
  refine GL_rd (wn_none rfl) rfl (rd_field rfl rfl fa83_0 _ rfl) ?_
  refine GL_rd (wn_none rfl) rfl (rd_sliceA (lo := 0) (hi := 32) rfl rfl Try.underlying57 ts5 at_none to_none (by decide) (by decide) (by decide) _ rfl) ?_
  refine GL_appendFull (wn_none rfl) rfl rfl rfl rfl Try.underlying39 ti5 rfl (by decide) hp (Sl.blk (hp.get 0 rfl) 1 _ rfl (by simp [maxLen])) (Sl.cells (hp.get 2 rfl) 1 32 32 0 (bys c.addr.1) (clip_addrC _ _ _) (by rw [clipC_len]; decide) (by decide) (by decide)) (by omega) (by decide) (by omega) (by omega) (by omega) ?_
  intro v w hp
  obtain ⟨Av, cv, rfl⟩ := row_shape (hp.get 0 rfl)
  rw [← bys_append] at hp
  refine GL_rd (v := .slice _ _ _) (wn_none rfl) rfl (rd_assign rfl rfl) ?_
  refine GL_nil ?_
  refine GW_seq ?_
  refine GW_region ?_
  refine GL_rd (v := .slice _ _ _) (wn_none rfl) rfl (rd_move rfl rfl) ?_
  refine GL_rd (wn_none rfl) rfl (rd_field rfl rfl fa83_1 _ rfl) ?_
  refine GL_rd (wn_none rfl) rfl (rd_load rfl rfl Try.underlying3 rfl ((cell_of_cells (hp.get 3 rfl) _).trans (clip_cls _ _ _))) ?_
  refine GL_rd (wn_none rfl) rfl (rd_convE (q := ((kB c.cls).toNat : Int)) rfl rfl Try.underlying5 Try.underlying3 (by simp) (kB_wrap _)) ?_
  refine GL_lit (L := (bys [kB c.cls])) (wn_none rfl) rfl rfl Try.underlying39 ts5 tz5 rfl (by kernel_rfl) rfl rfl hp ?_
  intro g4 w hp
  refine GL_append (i := 1) (wn_none rfl) rfl rfl rfl rfl Try.underlying39 ti5 rfl (by decide) hp rfl (Sl.row (hp.get 0 rfl)) (bys_one _) (by omega) (by omega) ?_
  intro v2 w hp
  obtain ⟨Av2, cv2, rfl⟩ := row_shape (hp.get 1 rfl)
  rw [← bys_append] at hp
  refine GL_rd (v := .slice _ _ _) (wn_none rfl) rfl (rd_assign rfl rfl) ?_
  refine GL_nil ?_
  refine GW_seq ?_
  refine GW_region ?_
  refine GL_rd (v := .slice _ _ _) (wn_none rfl) rfl (rd_move rfl rfl) ?_
  refine GL_rd (wn_none rfl) rfl (rd_field rfl rfl fa83_2 _ rfl) ?_
  refine GL_rd (wn_none rfl) rfl (rd_load rfl rfl Try.underlying3 rfl ((cell_of_cells (hp.get 4 rfl) _).trans (clip_made _ _ _))) ?_
  refine GL_rd (wn_none rfl) rfl (rd_convE (q := (u64N c.made : Int)) rfl rfl Try.underlying160 Try.underlying3 (by simp) (u64_wrapN _)) ?_
  refine GL_call (wn_none rfl) rfl rfl (word_Put (u64N c.made) 6 _ (u64N_lt _) (by decide)) rfl ?_
  rintro _ w ⟨q, rfl, hk⟩
  have hp := hp.comp hk
  refine GL_append (i := 2) (wn_none rfl) rfl rfl rfl rfl Try.underlying39 ti5 rfl (by decide) hp rfl (Sl.row (hp.get 0 rfl)) (bys_one _) (by omega) (by omega) ?_
  intro v3 w hp
  obtain ⟨Av3, cv3, rfl⟩ := row_shape (hp.get 2 rfl)
  rw [← bys_append] at hp
  refine GL_rd (v := .slice _ _ _) (wn_none rfl) rfl (rd_assign rfl rfl) ?_
  refine GL_nil ?_
  refine GW_seq ?_
  refine GW_region ?_
  refine GL_rd (v := .int _ _) (wn_none rfl) rfl (rd_assign rfl rfl) ?_
  refine GL_nil ?_
  refine GW_cut (fun f_0 w' => ∃ (fb : UInt8) (n : Nat) (A2 : Option Addr) (c2 : Nat) (fz : _), f_0 = (upd (upd (upd (upd fz 1 (.pointer (some ⟨g, 0, none⟩))) 2 (.pointer (some ⟨g2, 0, none⟩))) 5 (.slice A2 n c2)) 6 (.int .u8 (fb.toNat : Int))) ∧ Hp w0 [] w' [.row 5 1 (.slice A2 n c2) n (bys ([67, 76, 73, 80] ++ c.addr.1 ++ [kB c.cls] ++ putL (u64N c.made) 6)), cells g2 44 (List.replicate 256 (.int .u8 0)), cells g 83 (clipC c (.slice A c.holds.length ch) (.slice B c.texts.length ct))] ∧ (fb = firB c) ∧ (n = (4 + 32 + 1 + 6))) ?_ ?_
  ·skip
   refine GW_seq ?_
   refine GW_region ?_
   refine GL_rd (wn_none rfl) rfl (rd_field rfl rfl fa83_3 _ rfl) ?_
   refine GL_rd (wn_none rfl) rfl (rd_load rfl rfl Try.underlying4 rfl ((cell_of_cells (hp.get 5 rfl) _).trans (clip_fired _ _ _))) ?_
   refine GL_nil ?_
   refine GW_cond rfl (fun hb2 => ?_) (fun hb2 => ?_)
   ·(try simp only [decide_eq_true_eq, decide_eq_false_iff_not, Bool.not_eq_true', Bool.not_eq_false', Bool.not_eq_eq_eq_not, Bool.not_true, Bool.not_false, Int.not_lt, Int.not_le] at hb2)
    have hf := firB_t hb2
    refine GW_region ?_
    refine GL_rd (v := .int _ _) (wn_none rfl) rfl (rd_assign rfl rfl) ?_
    refine GL_nil ?_
    have hp := ((((hp.front 5 rfl).front 5 rfl).front 4 rfl).take 3)
    exact ⟨1, (4 + 32 + 1 + 6), Av3, cv3, _, slots4 rfl rfl rfl rfl, hp, hf.symm, rfl⟩
   ·(try simp only [decide_eq_true_eq, decide_eq_false_iff_not, Bool.not_eq_true', Bool.not_eq_false', Bool.not_eq_eq_eq_not, Bool.not_true, Bool.not_false, Int.not_lt, Int.not_le] at hb2)
    have hf := firB_f hb2
    refine GW_skip ?_
    have hp := ((((hp.front 5 rfl).front 5 rfl).front 4 rfl).take 3)
    exact ⟨0, (4 + 32 + 1 + 6), Av3, cv3, _, slots4 rfl rfl rfl rfl, hp, hf.symm, rfl⟩
  ·rintro f w ⟨fb, n, A2, c2, fz, rfl, hp, hfb, hn5⟩
   subst hfb hn5
   refine GW_cut (fun f_0 w' => ∃ (n : Nat) (A2 : Option Addr) (c2 : Nat) (fz : _), f_0 = (upd (upd (upd fz 1 (.pointer (some ⟨g, 0, none⟩))) 2 (.pointer (some ⟨g2, 0, none⟩))) 5 (.slice A2 n c2)) ∧ Hp w0 [] w' [.row 5 1 (.slice A2 n c2) n (bys (([67, 76, 73, 80] ++ c.addr.1 ++ [kB c.cls] ++ putL (u64N c.made) 6) ++ [firB c] ++ putL (u64N c.event) 6)), cells g2 44 (List.replicate 256 (.int .u8 0)), cells g 83 (clipC c (.slice A c.holds.length ch) (.slice B c.texts.length ct))] ∧ (n = (4 + 32 + 1 + 6) + 1 + 6)) ?_ ?_
   ·skip
    refine GW_drawnK 10 (.one 0 true (.one 1 true (.one 4 true (.one 5 true (.one 6 true (.one 2 false (.one 3 false (.one 7 false (.one 8 false (.one 9 true .nil)))))))))) mixed (by kernel_rfl) hp (fun _ h => (h.sub (.cons _ (.cons _ (.cons_cons _ .slnil))))) fun w hp => ?_
    have hpS := (hp.sub (.cons _ (.cons _ (.cons_cons _ .slnil))))
    refine GO_rdT (v := .slice _ _ _) rfl (wn_none rfl) rfl (fun w => (rd_move rfl rfl)) ?_
    refine GO_rdT (v := .int _ _) rfl (wn_none rfl) rfl (fun w => (rd_move rfl rfl)) ?_
    refine GO_rdT rfl (wn_none rfl) rfl (fun w => (rd_field rfl rfl fa83_4 _ rfl)) ?_
    refine GO_rd rfl rfl (wn_none rfl) rfl hpS (fun w hp => (rd_load rfl rfl Try.underlying3 rfl ((cell_of_cells (hp.get 0 rfl) _).trans (clip_event _ _ _)))) ?_
    refine GO_rd rfl rfl (wn_none rfl) rfl hpS (fun w hp => (rd_convE (q := (u64N c.event : Int)) rfl rfl Try.underlying160 Try.underlying3 (by simp) (u64_wrapN _))) ?_
    refine GO_of_GL rfl ?_
    refine GL_lit (L := (bys [firB c])) (wn_none rfl) rfl rfl Try.underlying39 ts5 tz5 rfl (by kernel_rfl) rfl rfl hp ?_
    intro g5 w hp
    have hpS2 := (hp.sub (.cons _ (.cons _ (.cons _ (.cons_cons _ .slnil)))))
    refine GL_nil ⟨fun _ => hpS2, ?_⟩
    refine GO_of_GL rfl ?_
    refine GL_append (i := 1) (wn_none rfl) rfl rfl rfl rfl Try.underlying39 ti5 rfl (by decide) hp rfl (Sl.row (hp.get 0 rfl)) (bys_one _) (by omega) (by omega) ?_
    intro v4 w hp
    obtain ⟨Av4, cv4, rfl⟩ := row_shape (hp.get 1 rfl)
    rw [← bys_append] at hp
    have hpS3 := (hp.sub (.cons _ (.cons _ (.cons _ (.cons_cons _ .slnil)))))
    refine GL_nil ⟨fun _ => hpS3, ?_⟩
    refine GO_of_GL rfl ?_
    refine GL_call (wn_none rfl) rfl rfl (word_Put (u64N c.event) 6 _ (u64N_lt _) (by decide)) rfl ?_
    rintro _ w ⟨q, rfl, hk⟩
    have hp := hp.comp hk
    have hpS4 := (hp.sub (.cons _ (.cons _ (.cons _ (.cons _ (.cons_cons _ .slnil))))))
    refine GL_nil ⟨fun _ => hpS4, ?_⟩
    refine GO_of_GL rfl ?_
    refine GL_append (i := 2) (wn_none rfl) rfl rfl rfl rfl Try.underlying39 ti5 rfl (by decide) hp rfl (Sl.row (hp.get 0 rfl)) (bys_one _) (by omega) (by omega) ?_
    intro v5 w hp
    obtain ⟨Av5, cv5, rfl⟩ := row_shape (hp.get 2 rfl)
    rw [← bys_append] at hp
    have hpS5 := (hp.sub (.cons _ (.cons _ (.cons _ (.cons _ (.cons_cons _ .slnil))))))
    refine GL_nil ⟨fun _ => hpS5, ?_⟩
    refine GO_rdT (v := .slice _ _ _) rfl (wn_none rfl) rfl (fun w => (rd_assign rfl rfl)) ?_
    refine GO_nil ?_
    have hp := ((((hp.front 4 rfl).front 4 rfl).front 4 rfl).take 3)
    exact ⟨(4 + 32 + 1 + 6) + 1 + 6, Av5, cv5, _, slots3 rfl rfl rfl, hp, rfl⟩
   ·rintro f w ⟨n, A2, c2, fz, rfl, hp, hn5⟩
    subst hn5
    refine GW_seq ?_
    refine GW_region ?_
    refine GL_rd (wn_none rfl) rfl (rd_field rfl rfl fa83_6 _ rfl) ?_
    refine GL_rd (wn_none rfl) rfl (rd_load rfl rfl Try.underlying9 rfl ((cell_of_cells (hp.get 2 rfl) _).trans (clip_note _ _ _))) ?_
    refine GL_call (wn_none rfl) rfl rfl (word_Pad c.note 32 _ (by omega)) rfl ?_
    rintro _ w ⟨tn, rfl, hk⟩
    have hp := hp.comp hk
    refine GL_rd (v := .tuple _) (wn_none rfl) rfl (rd_move rfl rfl) ?_
    refine GL_rd (v := tn) (wn_none rfl) rfl (rd_extract rfl rfl rfl) ?_
    refine GL_rd (v := .int _ _) (wn_none rfl) rfl (rd_extract rfl rfl rfl) ?_
    refine GL_rd (v := tn) (wn_none rfl) rfl (rd_assign rfl rfl) ?_
    refine GL_rd (v := .int _ _) (wn_none rfl) rfl (rd_assign rfl rfl) ?_
    refine GL_nil ?_
    refine GW_cut (fun f_0 w' => ∃ (n : Nat) (A2 : Option Addr) (c2 : Nat) (fz : _), f_0 = (upd (upd (upd fz 1 (.pointer (some ⟨g, 0, none⟩))) 2 (.pointer (some ⟨g2, 0, none⟩))) 5 (.slice A2 n c2)) ∧ Hp w0 [] w' [.row 5 1 (.slice A2 n c2) n (bys (([67, 76, 73, 80] ++ c.addr.1 ++ [kB c.cls] ++ putL (u64N c.made) 6) ++ [firB c] ++ putL (u64N c.event) 6 ++ padL c.note.data.toList 32 ++ [kB (c.holds.length : Int)])), cells g2 44 (List.replicate 256 (.int .u8 0)), cells g 83 (clipC c (.slice A c.holds.length ch) (.slice B c.texts.length ct))] ∧ (n = ((4 + 32 + 1 + 6) + 1 + 6 + (padL c.note.data.toList 32).length + 1))) ?_ ?_
    ·skip
     refine GW_drawnK 10 (.one 0 true (.one 1 true (.one 3 true (.one 4 true (.one 5 true (.one 6 true (.two 2 7 (.one 7 false (.one 8 false (.one 9 true .nil))) (.one 2 false (.one 8 false (.one 9 true .nil)))))))))) mixed (by kernel_rfl) hp (fun _ h => (h.sub (.cons _ (.cons _ (.cons _ (.cons_cons _ .slnil)))))) fun w hp => ?_
     have hpS6 := (hp.sub (.cons _ (.cons _ (.cons _ (.cons_cons _ .slnil)))))
     refine GO_rdT (v := .slice _ _ _) rfl (wn_none rfl) rfl (fun w => (rd_move rfl rfl)) ?_
     refine GO_rdT (v := tn) rfl (wn_none rfl) rfl (fun w => (rd_move rfl rfl)) ?_
     refine GO_rdT rfl (wn_none rfl) rfl (fun w => (rd_field rfl rfl fa83_5 _ rfl)) ?_
     refine GO_rd (v := .slice A c.holds.length ch) rfl rfl (wn_none rfl) rfl hpS6 (fun w hp => (rd_load rfl rfl Try.underlying40 rfl ((cell_of_cells (hp.get 0 rfl) _).trans (clip_holds _ _ _)))) ?_
     refine GO_rd rfl rfl (wn_none rfl) rfl hpS6 (fun w hp => (rd_len rfl rfl Try.underlying40)) ?_
     refine GO_rd rfl rfl (wn_none rfl) rfl hpS6 (fun w hp => (rd_convE (q := ((kB (c.holds.length : Int)).toNat : Int)) rfl rfl Try.underlying5 Try.underlying3 (by simp) (kB_wrap _))) ?_
     refine GO_two rfl rfl ?_ ?_
     ·skip
      refine GC_of_GL ?_
      refine GL_append (i := 1) (wn_none rfl) rfl rfl rfl rfl Try.underlying39 ti5 rfl (by decide) hp rfl (Sl.row (hp.get 0 rfl)) (bys_one _) (by omega) (by omega) ?_
      intro v6 w hp
      obtain ⟨Av6, cv6, rfl⟩ := row_shape (hp.get 1 rfl)
      rw [← bys_append] at hp
      have hpS7 := (hp.sub (.cons _ (.cons _ (.cons _ (.cons_cons _ .slnil)))))
      refine GL_nil ⟨fun _ => hpS7, ?_⟩
      refine GO_of_GL rfl ?_
      refine GL_lit (L := (bys [kB (c.holds.length : Int)])) (wn_none rfl) rfl rfl Try.underlying39 ts5 tz5 rfl (by kernel_rfl) rfl rfl hp ?_
      intro g6 w hp
      have hpS8 := (hp.sub (.cons _ (.cons _ (.cons _ (.cons _ (.cons_cons _ .slnil))))))
      refine GL_nil ⟨fun _ => hpS8, ?_⟩
      refine GO_of_GL rfl ?_
      refine GL_append (i := 2) (wn_none rfl) rfl rfl rfl rfl Try.underlying39 ti5 rfl (by decide) hp rfl (Sl.row (hp.get 0 rfl)) (bys_one _) (by omega) (by omega) ?_
      intro v7 w hp
      obtain ⟨Av7, cv7, rfl⟩ := row_shape (hp.get 2 rfl)
      rw [← bys_append] at hp
      have hpS9 := (hp.sub (.cons _ (.cons _ (.cons _ (.cons _ (.cons_cons _ .slnil))))))
      refine GL_nil ⟨fun _ => hpS9, ?_⟩
      refine GO_rdT (v := .slice _ _ _) rfl (wn_none rfl) rfl (fun w => (rd_assign rfl rfl)) ?_
      refine GO_nil ?_
      have hp := ((((hp.front 4 rfl).front 4 rfl).front 4 rfl).take 3)
      exact ⟨((4 + 32 + 1 + 6) + 1 + 6 + (padL c.note.data.toList 32).length + 1), Av7, cv7, _, slots3 rfl rfl rfl, hp, rfl⟩
     ·skip
      refine GC_of_GL ?_
      refine GL_lit (L := (bys [kB (c.holds.length : Int)])) (wn_none rfl) rfl rfl Try.underlying39 ts5 tz5 rfl (by kernel_rfl) rfl rfl hp ?_
      intro g7 w hp
      have hpS10 := (hp.sub (.cons _ (.cons _ (.cons _ (.cons _ (.cons_cons _ .slnil))))))
      refine GL_nil ⟨fun _ => hpS10, ?_⟩
      refine GO_of_GL rfl ?_
      refine GL_append (i := 2) (wn_none rfl) rfl rfl rfl rfl Try.underlying39 ti5 rfl (by decide) hp rfl (Sl.row (hp.get 1 rfl)) (bys_one _) (by omega) (by omega) ?_
      intro v8 w hp
      obtain ⟨Av8, cv8, rfl⟩ := row_shape (hp.get 2 rfl)
      rw [← bys_append] at hp
      have hpS11 := (hp.sub (.cons _ (.cons _ (.cons _ (.cons _ (.cons_cons _ .slnil))))))
      refine GL_nil ⟨fun _ => hpS11, ?_⟩
      refine GO_of_GL rfl ?_
      refine GL_append (i := 2) (wn_none rfl) rfl rfl rfl rfl Try.underlying39 ti5 rfl (by decide) hp rfl (Sl.row (hp.get 0 rfl)) (bys_one _) (by omega) (by omega) ?_
      intro v9 w hp
      obtain ⟨Av9, cv9, rfl⟩ := row_shape (hp.get 2 rfl)
      rw [← bys_append] at hp
      have hpS12 := (hp.sub (.cons _ (.cons _ (.cons _ (.cons _ (.cons_cons _ .slnil))))))
      refine GL_nil ⟨fun _ => hpS12, ?_⟩
      refine GO_rdT (v := .slice _ _ _) rfl (wn_none rfl) rfl (fun w => (rd_assign rfl rfl)) ?_
      refine GO_nil ?_
      have hp := ((((hp.front 4 rfl).front 4 rfl).front 4 rfl).take 3)
      exact ⟨((4 + 32 + 1 + 6) + 1 + 6 + (padL c.note.data.toList 32).length + 1), Av9, cv9, _, slots3 rfl rfl rfl, hp, rfl⟩
    ·rintro f w ⟨n, A2, c2, fz, rfl, hp, hn5⟩
     refine GW_seq ?_
     refine GW_seq ?_
     refine GW_region ?_
     refine GL_rd (wn_none rfl) rfl (rd_field rfl rfl fa83_5 _ rfl) ?_
     refine GL_rd (v := .slice A c.holds.length ch) (wn_none rfl) rfl (rd_load rfl rfl Try.underlying40 rfl ((cell_of_cells (hp.get 2 rfl) _).trans (clip_holds _ _ _))) ?_
     refine GL_rd (wn_none rfl) rfl (rd_len rfl rfl Try.underlying40) ?_
     refine GL_rd (v := .int _ _) (wn_none rfl) rfl (rd_move rfl rfl) ?_
     refine GL_nil ?_
     refine GW_block ?_
     refine GW_loop ?_
     refine Lp_ind (α := Nat × Nat × Option Addr × Nat × List UInt8) (fun a_0 f_0 w' => match a_0 with | (i, n, A2, c2, xs) => ∃ fz, f_0 = (upd (upd (upd (upd (upd (upd fz 1 (.pointer (some ⟨g, 0, none⟩))) 2 (.pointer (some ⟨g2, 0, none⟩))) 5 (.slice A2 n c2)) 66 (.slice A c.holds.length ch)) 67 (.int .i64 (c.holds.length : Int))) 68 (.int .i64 (i : Int))) ∧ Hp w0 [] w' [.row 5 1 (.slice A2 n c2) n (bys xs), cells g2 44 (List.replicate 256 (.int .u8 0)), cells g 83 (clipC c (.slice A c.holds.length ch) (.slice B c.texts.length ct))] ∧ (i ≤ c.holds.length) ∧ (n ≤ 83 + 16 * i) ∧ (xs = clpX c ++ holdB (c.holds.take i))) (fun a_0 => match a_0 with | (i, n, A2, c2, xs) => c.holds.length - i) ?_ (0, n, A2, c2, (([67, 76, 73, 80] ++ c.addr.1 ++ [kB c.cls] ++ putL (u64N c.made) 6) ++ [firB c] ++ putL (u64N c.event) 6 ++ padL c.note.data.toList 32 ++ [kB (c.holds.length : Int)])) _ _ ?_
     ·rintro ⟨i, n, A2, c2, xs⟩ f wz ⟨fz, rfl, hp, hi0, hn, hx⟩ ihL0
      refine Lp_round ?_
      refine GW_seq ?_
      refine GW_region ?_
      refine GL_rd (wn_none rfl) rfl (rd_bin rfl rfl rfl bo_lss) ?_
      refine GL_nil ?_
      refine GW_seq ?_
      refine GW_cond rfl (fun hb3 => ?_) (fun hb3 => ?_)
      ·(try simp only [decide_eq_true_eq, decide_eq_false_iff_not, Bool.not_eq_true', Bool.not_eq_false', Bool.not_eq_eq_eq_not, Bool.not_true, Bool.not_false, Int.not_lt, Int.not_le] at hb3)
       obtain ⟨gA, bA, rfl⟩ := hH.addr (by rw [List.length_map]; omega)
       refine GW_skip ?_
       refine GW_seq ?_
       refine GW_block ?_
       refine GW_seq ?_
       refine GW_region ?_
       refine GL_rd (wn_none rfl) rfl (rd_indexS (j := i) rfl rfl rfl Try.underlying40 ts9 rfl (by omega) _ rfl) ?_
       refine GL_rd (wn_none rfl) rfl (rd_load rfl rfl Try.underlying9 rfl ((hH.keep hp.mod).get _ _ (strAt_cell (i := i) (by omega)))) ?_
       refine GL_rd (v := .string _) (wn_none rfl) rfl (rd_assign rfl rfl) ?_
       refine GL_nil ?_
       refine GW_seq ?_
       refine GW_region ?_
       refine GL_rd (v := .string _) (wn_none rfl) rfl (rd_move rfl rfl) ?_
       have hpi := pad_le (strAt c.holds i).data.toList 16
       refine GL_call (wn_none rfl) rfl rfl (word_Pad (strAt c.holds i) 16 _ (by have := hz _ (mem_at (strAt_some (l := c.holds) (i := i) (by omega))); omega)) rfl ?_
       rintro _ w ⟨tn, rfl, hk⟩
       have hp := hp.comp hk
       refine GL_rd (v := .tuple _) (wn_none rfl) rfl (rd_move rfl rfl) ?_
       refine GL_rd (v := tn) (wn_none rfl) rfl (rd_extract rfl rfl rfl) ?_
       refine GL_rd (v := .int _ _) (wn_none rfl) rfl (rd_extract rfl rfl rfl) ?_
       refine GL_rd (v := tn) (wn_none rfl) rfl (rd_assign rfl rfl) ?_
       refine GL_rd (v := .int _ _) (wn_none rfl) rfl (rd_assign rfl rfl) ?_
       refine GL_nil ?_
       refine GW_region ?_
       refine GL_rd (v := .slice _ _ _) (wn_none rfl) rfl (rd_move rfl rfl) ?_
       refine GL_rd (v := tn) (wn_none rfl) rfl (rd_move rfl rfl) ?_
       refine GL_append (i := 1) (wn_none rfl) rfl rfl rfl rfl Try.underlying39 ti5 rfl (by decide) hp rfl (Sl.row (hp.get 0 rfl)) (bys_one _) (by omega) (by omega) ?_
       intro v10 w hp
       obtain ⟨Av10, cv10, rfl⟩ := row_shape (hp.get 1 rfl)
       rw [← bys_append] at hp
       refine GL_rd (v := .slice _ _ _) (wn_none rfl) rfl (rd_assign rfl rfl) ?_
       refine GL_nil ?_
       refine GW_region ?_
       refine GL_rd (wn_none rfl) rfl (rd_bin rfl rfl rfl (bo_add64 (by omega))) ?_
       refine GL_rd (v := .int _ _) (wn_none rfl) rfl (rd_move rfl rfl) ?_
       refine GL_nil ?_
       have hp := ((((hp.front 3 rfl).front 3 rfl).front 3 rfl).take 3)
       exact ihL0 (i + 1, _, _, _, _) _ _ (by simp only []; omega) ⟨_, slots6 rfl rfl rfl rfl rfl rfl, hp, by omega, by have := pad_le (strAt c.holds i).data.toList 16; omega, by rw [hx, List.append_assoc, holdB_succ (by omega)]⟩
      ·(try simp only [decide_eq_true_eq, decide_eq_false_iff_not, Bool.not_eq_true', Bool.not_eq_false', Bool.not_eq_eq_eq_not, Bool.not_true, Bool.not_false, Int.not_lt, Int.not_le] at hb3)
       obtain rfl : i = c.holds.length := by omega
       rw [List.take_of_length_le (Nat.le_refl _)] at hx
       refine GW_exit ?_
       refine GW_seq ?_
       refine GW_region ?_
       refine GL_rd (v := .slice _ _ _) (wn_none rfl) rfl (rd_move rfl rfl) ?_
       refine GL_rd (wn_none rfl) rfl (rd_field rfl rfl fa83_7 _ rfl) ?_
       refine GL_rd (v := .slice B c.texts.length ct) (wn_none rfl) rfl (rd_load rfl rfl Try.underlying32 rfl ((cell_of_cells (hp.get 2 rfl) _).trans (clip_texts _ _ _))) ?_
       refine GL_rd (wn_none rfl) rfl (rd_len rfl rfl Try.underlying32) ?_
       refine GL_rd (wn_none rfl) rfl (rd_convE (q := ((kB (c.texts.length : Int)).toNat : Int)) rfl rfl Try.underlying5 Try.underlying3 (by simp) (kB_wrap _)) ?_
       refine GL_lit (L := (bys [kB (c.texts.length : Int)])) (wn_none rfl) rfl rfl Try.underlying39 ts5 tz5 rfl (by kernel_rfl) rfl rfl hp ?_
       intro g8 w hp
       refine GL_append (i := 1) (wn_none rfl) rfl rfl rfl rfl Try.underlying39 ti5 rfl (by decide) hp rfl (Sl.row (hp.get 0 rfl)) (bys_one _) (by omega) (by omega) ?_
       intro v11 w hp
       obtain ⟨Av11, cv11, rfl⟩ := row_shape (hp.get 1 rfl)
       rw [← bys_append] at hp
       refine GL_rd (v := .slice _ _ _) (wn_none rfl) rfl (rd_assign rfl rfl) ?_
       refine GL_nil ?_
       refine GW_seq ?_
       refine GW_seq ?_
       refine GW_region ?_
       refine GL_rd (wn_none rfl) rfl (rd_field rfl rfl fa83_7 _ rfl) ?_
       refine GL_rd (v := .slice B c.texts.length ct) (wn_none rfl) rfl (rd_load rfl rfl Try.underlying32 rfl ((cell_of_cells (hp.get 3 rfl) _).trans (clip_texts _ _ _))) ?_
       refine GL_rd (wn_none rfl) rfl (rd_len rfl rfl Try.underlying32) ?_
       refine GL_rd (v := .int _ _) (wn_none rfl) rfl (rd_move rfl rfl) ?_
       refine GL_nil ?_
       refine GW_block ?_
       refine GW_loop ?_
       refine Lp_ind (α := Nat × Nat × Option Addr × Nat × List UInt8) (fun a_0 f_0 w' => match a_0 with | (i, n, A2, c2, xs) => ∃ fz, f_0 = (upd (upd (upd (upd (upd (upd fz 1 (.pointer (some ⟨g, 0, none⟩))) 2 (.pointer (some ⟨g2, 0, none⟩))) 5 (.slice A2 n c2)) 89 (.slice B c.texts.length ct)) 90 (.int .i64 (c.texts.length : Int))) 91 (.int .i64 (i : Int))) ∧ Hp w0 [] w' [.row 5 1 (.slice A2 n c2) n (bys xs), cells g2 44 (List.replicate 256 (.int .u8 0)), cells g 83 (clipC c (.slice A c.holds.length ch) (.slice B c.texts.length ct))] ∧ (i ≤ c.texts.length) ∧ (n ≤ 84 + 16 * c.holds.length + i) ∧ (xs = clpX c ++ holdB c.holds ++ [kB (c.texts.length : Int)] ++ textB (c.texts.take i))) (fun a_0 => match a_0 with | (i, n, A2, c2, xs) => c.texts.length - i) ?_ (0, n + 1, Av11, cv11, xs ++ [kB (c.texts.length : Int)]) _ _ ?_
       ·rintro ⟨i, n, A2, c2, xs⟩ f wz ⟨fz, rfl, hp, hi0, hn, hx⟩ ihL1
        refine Lp_round ?_
        refine GW_seq ?_
        refine GW_region ?_
        refine GL_rd (wn_none rfl) rfl (rd_bin rfl rfl rfl bo_lss) ?_
        refine GL_nil ?_
        refine GW_seq ?_
        refine GW_cond rfl (fun hb4 => ?_) (fun hb4 => ?_)
        ·(try simp only [decide_eq_true_eq, decide_eq_false_iff_not, Bool.not_eq_true', Bool.not_eq_false', Bool.not_eq_eq_eq_not, Bool.not_true, Bool.not_false, Int.not_lt, Int.not_le] at hb4)
         obtain ⟨gB, bB, rfl⟩ := hT.addr (by rw [List.length_map]; omega)
         refine GW_skip ?_
         refine GW_seq ?_
         refine GW_block ?_
         refine GW_seq ?_
         refine GW_region ?_
         refine GL_rd (wn_none rfl) rfl (rd_indexS (j := i) rfl rfl rfl Try.underlying32 ts3 rfl (by omega) _ rfl) ?_
         refine GL_rd (wn_none rfl) rfl (rd_load rfl rfl Try.underlying3 rfl ((hT.keep hp.mod).get _ _ (intAt_cell (i := i) (by omega)))) ?_
         refine GL_rd (v := .int _ _) (wn_none rfl) rfl (rd_assign rfl rfl) ?_
         refine GL_nil ?_
         refine GW_region ?_
         refine GL_rd (v := .slice _ _ _) (wn_none rfl) rfl (rd_move rfl rfl) ?_
         refine GL_rd (v := .int _ _) (wn_none rfl) rfl (rd_move rfl rfl) ?_
         refine GL_rd (wn_none rfl) rfl (rd_convE (q := ((kB (intAt c.texts i)).toNat : Int)) rfl rfl Try.underlying5 Try.underlying3 (by simp) (kB_wrap _)) ?_
         refine GL_lit (L := (bys [kB (intAt c.texts i)])) (wn_none rfl) rfl rfl Try.underlying39 ts5 tz5 rfl (by kernel_rfl) rfl rfl hp ?_
         intro g9 w hp
         refine GL_append (i := 1) (wn_none rfl) rfl rfl rfl rfl Try.underlying39 ti5 rfl (by decide) hp rfl (Sl.row (hp.get 0 rfl)) (bys_one _) (by omega) (by omega) ?_
         intro v12 w hp
         obtain ⟨Av12, cv12, rfl⟩ := row_shape (hp.get 1 rfl)
         rw [← bys_append] at hp
         refine GL_rd (v := .slice _ _ _) (wn_none rfl) rfl (rd_assign rfl rfl) ?_
         refine GL_nil ?_
         refine GW_region ?_
         refine GL_rd (wn_none rfl) rfl (rd_bin rfl rfl rfl (bo_add64 (by omega))) ?_
         refine GL_rd (v := .int _ _) (wn_none rfl) rfl (rd_move rfl rfl) ?_
         refine GL_nil ?_
         have hp := ((((hp.front 3 rfl).front 3 rfl).front 3 rfl).take 3)
         exact ihL1 (i + 1, _, _, _, _) _ _ (by simp only []; omega) ⟨_, slots6 rfl rfl rfl rfl rfl rfl, hp, by omega, by omega, by rw [hx, List.append_assoc, textB_succ (by omega)]⟩
        ·(try simp only [decide_eq_true_eq, decide_eq_false_iff_not, Bool.not_eq_true', Bool.not_eq_false', Bool.not_eq_eq_eq_not, Bool.not_true, Bool.not_false, Int.not_lt, Int.not_le] at hb4)
         obtain rfl : i = c.texts.length := by omega
         rw [List.take_of_length_le (Nat.le_refl _)] at hx
         have e : xs = clpB c := hx
         subst e
         refine GW_exit ?_
         refine GW_seq ?_
         refine GW_region ?_
         refine GL_rd (v := .slice _ _ _) (wn_none rfl) rfl (rd_move rfl rfl) ?_
         refine GL_call (wn_none rfl) rfl rfl (word_Whole _ _ (clpB c) _ (Sl.row (hp.get 0 rfl))) rfl ?_
         rintro _ w ⟨rfl, hk⟩
         have hp := hp.comp hk
         refine GL_alloc (wn_none rfl) rfl rfl tz44 rfl hp ?_
         intro g10 w hp
         refine GL_store (i := 0) (wn_none rfl) rfl rfl rfl rfl ts44 rfl (by rw [bys_length, wholeL_length]) (bys_one _) hp rfl (by rw [List.length_replicate]; decide) (splice_all _ _ (by rw [bys_length, wholeL_length, List.length_replicate])) ?_
         intro w hp
         refine GL_nil ?_
         refine GW_seq ?_
         refine GW_region ?_
         refine GL_rd (wn_none rfl) rfl (rd_sliceA (lo := 0) (hi := 252) rfl rfl Try.underlying44 ts5 at_none (at_some rfl rfl) (by decide) (by decide) (by decide) _ rfl) ?_
         refine GL_call (wn_none rfl) rfl rfl (crc_Sealed _ 252 ((wholeL (clpB c)).take 252) _ (Sl.cells (hp.get 0 rfl) 1 252 256 0 (bys ((wholeL (clpB c)).take 252)) (by rw [List.drop_zero, Nat.mul_one]; exact (bys_take _ _).symm) (by rw [bys_length, wholeL_length]; decide) (by decide) (by decide)) (by decide)) rfl ?_
         intro vS w hk
         have hp := hp.comp hk
         refine GL_call (wn_none rfl) rfl rfl (word_Whole _ _ _ _ (Sl.row (hp.get 0 rfl))) rfl ?_
         rintro _ w ⟨rfl, hk⟩
         have hp := hp.comp hk
         refine GL_store (i := 3) (wn_none rfl) rfl rfl rfl rfl ts44 rfl (by rw [bys_length, wholeL_length]) (bys_one _) hp rfl (by rw [List.length_replicate]; decide) ((splice_all _ _ (by rw [bys_length, wholeL_length, List.length_replicate])).trans (by rw [secC_made hok])) ?_
         intro w hp
         refine GL_rd (v := .int _ _) (wn_none rfl) rfl (rd_assign rfl rfl) ?_
         refine GL_nil ?_
         refine GW_ret ?_
         exact ⟨_, res2 Try.results61 (rv_cell rfl rfl Try.underlying44 rfl ts44 (by first | rw [bys_length, secC_length] | exact List.length_replicate) (hp.get 3 rfl)) (rv_tmp (v := .int _ _) rfl rfl), by rw [hok], hp.mods⟩
       ·have hp := ((((hp.front 3 rfl).front 3 rfl).front 3 rfl).take 3)
        refine ⟨_, slots6 rfl rfl rfl rfl rfl rfl, hp, Nat.zero_le _, by omega, by rw [hx]; simp [textB]⟩
     ·have hp := ((((hp.front 2 rfl).front 2 rfl).front 2 rfl).take 3)
      refine ⟨_, slots6 rfl rfl rfl rfl rfl rfl, hp, Nat.zero_le _, by omega, by simp [clpX, holdB]⟩
set_option maxHeartbeats 1000000 in
theorem ref_bPut (c : Clp) (hv tv : Value) (mh mt : Nat) (w0 : World) (hH : Sl w0 hv 1 mh (c.holds.map Value.string)) (hT : Sl w0 tv 1 mt (c.texts.map (Value.int .i64))) (hz : ∀ x ∈ c.holds, x.size ≤ 4294967296) (hz2 : c.note.size ≤ 4294967296) : Does Try.prog 62 #[.agg ⟨clipC c hv tv⟩] w0 fun v w' => v = .tuple #[.agg ⟨bys (secC c)⟩, .int .i64 (clpC c 8 40)] ∧ Hp w0 [] w' [] := by
 obtain ⟨A, ch, rfl⟩ := sl_shape hH
 obtain ⟨B, ct, rfl⟩ := sl_shape hT
 obtain rfl : mh = c.holds.length := by have := hH.len; rw [List.length_map] at this; omega
 obtain rfl : mt = c.texts.length := by have := hT.len; rw [List.length_map] at this; omega
 have hpl := pad_le c.note.data.toList 32
 have hal := c.addr.2
 refine does_of (l := [.agg ⟨(clipC c (.slice A c.holds.length ch) (.slice B c.texts.length ct))⟩]) Try.func62 (by kernel_rfl) rfl Try.ntmps62 rfl rfl ?_
 have hp := Hp.refl w0 []
 refine GW_seq ?_
 refine GW_region ?_
 refine GL_box (wn_none rfl) rfl rfl rfl rfl hp ?_
 intro g w hp
 refine GL_alloc (wn_none rfl) rfl rfl tz44 rfl hp ?_
 intro g2 w hp
 refine GL_rd (v := .int _ _) (wn_none rfl) rfl (rd_assign rfl rfl) ?_
 refine GL_nil ?_
 refine GW_seq ?_
 refine GW_seq ?_
 refine GW_region ?_
 refine GL_rd (wn_none rfl) rfl (rd_loadC rfl rfl Try.underlying83 rfl ts83 (hp.get 1 rfl) (clipC_len _ _ _)) ?_
 refine GL_call (wn_none rfl) rfl rfl (ref_bCheck c _ _ _ _ 8 40 _ (hH.keep hp.mod) (hT.keep hp.mod) hz) rfl ?_
 rintro _ w ⟨rfl, hk⟩
 have hp := hp.comp hk
 refine GL_rd (v := .int _ _) (wn_none rfl) rfl (rd_assign rfl rfl) ?_
 refine GL_nil ?_
 refine GW_seq ?_
 refine GW_region ?_
 refine GL_rd (v := .int _ _) (wn_none rfl) rfl (rd_move rfl rfl) ?_
 refine GL_rd (wn_none rfl) rfl (rd_bin rfl rfl rfl bo_neq) ?_
 refine GL_nil ?_
 refine GW_cond rfl (fun hb => ?_) (fun hb => ?_)
 ·(try simp only [decide_eq_true_eq, decide_eq_false_iff_not, Bool.not_eq_true', Bool.not_eq_false', Bool.not_eq_eq_eq_not, Bool.not_true, Bool.not_false, Int.not_lt, Int.not_le] at hb)
  have hno : ¬ clpC c 8 40 = 0 := hb
  refine GW_seq ?_
  refine GW_region ?_
  refine GL_rd (wn_none rfl) rfl (rd_buildA (L := List.replicate 256 (.int .u8 0)) rfl tz44 Try.underlying44 ts5 (by kernel_rfl)) ?_
  refine GL_rd (v := .int _ _) (wn_none rfl) rfl (rd_move rfl rfl) ?_
  refine GL_store (i := 0) (wn_none rfl) rfl rfl rfl rfl ts44 rfl List.length_replicate (fun u hu => by rw [List.eq_of_mem_replicate hu]; rfl) hp rfl (by rw [List.length_replicate]; decide) (splice_all _ _ rfl) ?_
  intro w hp
  refine GL_rd (v := .int _ _) (wn_none rfl) rfl (rd_assign rfl rfl) ?_
  refine GL_nil ?_
  refine GW_ret ?_
  exact ⟨_, res2 Try.results62 (rv_cell rfl rfl Try.underlying44 rfl ts44 (by first | rw [bys_length, secC_length] | exact List.length_replicate) (hp.get 0 rfl)) (rv_tmp (v := .int _ _) rfl rfl), by rw [secC_no hno, bys_replicate] <;> rfl, hp.mods⟩
 ·(try simp only [decide_eq_true_eq, decide_eq_false_iff_not, Bool.not_eq_true', Bool.not_eq_false', Bool.not_eq_eq_eq_not, Bool.not_true, Bool.not_false, Int.not_lt, Int.not_le] at hb)
  have hok : clpC c 8 40 = 0 := hb
  have hle := clpC_lens hok
  refine GW_skip ?_
  refine GW_seq ?_
  refine GW_region ?_
  refine GL_lit (L := (bys [67, 76, 73, 80])) (wn_none rfl) rfl rfl Try.underlying39 ts5 tz5 rfl (by kernel_rfl) rfl rfl hp ?_
  intro g3 w hp
  refine GL_convB (i := 0) (wn_none rfl) rfl rfl rfl Try.underlying39 Try.underlying5 hp rfl ?_
  intro w hp
  refine GL_rd (v := .slice _ _ _) (wn_none rfl) rfl (rd_assign rfl rfl) ?_
  refine GL_nil ?_
  refine GW_seq ?_
  refine GW_seq ?_
  refine GW_region ?_
  refine GL_rd (v := .int _ _) (wn_none rfl) rfl (rd_assign rfl rfl) ?_
  refine GL_nil ?_
  refine GW_block ?_
  refine GW_loop ?_
  refine Lp_ind (α := Nat × Value × Res) (fun a_0 f_0 w' => match a_0 with | (i, v, r) => ∃ fz, f_0 = (upd (upd (upd (upd fz 1 (.pointer (some ⟨g, 0, none⟩))) 2 (.pointer (some ⟨g2, 0, none⟩))) 5 (v)) 6 (.int .i64 (i : Int))) ∧ Hp w0 [] w' [r, cells g2 44 (List.replicate 256 (.int .u8 0)), cells g 83 (clipC c (.slice A c.holds.length ch) (.slice B c.texts.length ct))] ∧ (i ≤ 32) ∧ ((i = 0 ∧ ∃ g0, v = .slice (some ⟨g0, 0, none⟩) 4 4 ∧ r = .blk g0 (.cells ⟨bys [67, 76, 73, 80]⟩ 5 (4, 4 + 1))) ∨ (1 ≤ i ∧ r = .row 5 1 v (4 + i) (bys ([67, 76, 73, 80] ++ c.addr.1.take i))))) (fun a_0 => match a_0 with | (i, v, r) => 32 - i) ?_ (0, .slice (some ⟨g3, 0, none⟩) 4 4, .blk g3 (.cells ⟨bys [67, 76, 73, 80]⟩ 5 (4, 4 + 1))) _ _ ?_
  ·rintro ⟨i, v, r⟩ f wz ⟨fz, rfl, hp, hi0, hr⟩ ihL0
   refine Lp_round ?_
   refine GW_seq ?_
   refine GW_seq ?_
   refine GW_region ?_
   refine GL_rd (v := .int _ _) (wn_none rfl) rfl (rd_move rfl rfl) ?_
   refine GL_rd (wn_none rfl) rfl (rd_bin rfl rfl rfl bo_lss) ?_
   refine GL_nil ?_
   refine GW_cond rfl (fun hb2 => ?_) (fun hb2 => ?_)
   ·(try simp only [decide_eq_true_eq, decide_eq_false_iff_not, Bool.not_eq_true', Bool.not_eq_false', Bool.not_eq_eq_eq_not, Bool.not_true, Bool.not_false, Int.not_lt, Int.not_le] at hb2)
    refine GW_skip ?_
    refine GW_seq ?_
    refine GW_block ?_
    rcases hr with ⟨rfl, g0, rfl, rfl⟩ | ⟨hi1, rfl⟩
    ·skip
     refine GW_region ?_
     refine GL_rd (wn_none rfl) rfl (rd_move rfl rfl) ?_
     refine GL_rd (v := .int _ _) (wn_none rfl) rfl (rd_move rfl rfl) ?_
     refine GL_rd (wn_none rfl) rfl (rd_field rfl rfl fa83_0 _ rfl) ?_
     refine GL_rd (wn_none rfl) rfl (rd_indexA (j := 0) rfl rfl rfl Try.underlying57 ts5 rfl (by omega) _ rfl) ?_
     refine GL_rd (wn_none rfl) rfl (rd_load rfl rfl Try.underlying5 rfl ((cell_of_cells (hp.get 2 rfl) _).trans (clip_byte _ _ _ (by omega)))) ?_
     refine GL_lit (L := (bys [c.addr.1.getD 0 0])) (wn_none rfl) rfl rfl Try.underlying39 ts5 tz5 rfl (by kernel_rfl) rfl rfl hp ?_
     intro g4 w hp
     refine GL_appendFull (wn_none rfl) rfl rfl rfl rfl Try.underlying39 ti5 rfl (by decide) hp (Sl.blk (hp.get 1 rfl) 1 _ rfl (by simp [maxLen])) (Sl.row (hp.get 0 rfl)) (by omega) (by decide) (by omega) (by omega) (by omega) ?_
     intro v w hp
     obtain ⟨Av, cv, rfl⟩ := row_shape (hp.get 0 rfl)
     rw [← bys_append] at hp
     refine GL_rd (v := .slice _ _ _) (wn_none rfl) rfl (rd_assign rfl rfl) ?_
     refine GL_nil ?_
     refine GW_region ?_
     refine GL_rd (v := .int _ _) (wn_none rfl) rfl (rd_move rfl rfl) ?_
     refine GL_rd (wn_none rfl) rfl (rd_bin rfl rfl rfl (bo_add64 (by omega))) ?_
     refine GL_rd (v := .int _ _) (wn_none rfl) rfl (rd_assign rfl rfl) ?_
     refine GL_nil ?_
     rw [show [67, 76, 73, 80] ++ [c.addr.1.getD 0 0] = [67, 76, 73, 80] ++ c.addr.1.take (0 + 1) from by rw [← List.take_succ_eq_append_getD (by omega)]; rfl] at hp
     have hp := ((((hp.front 4 rfl).front 4 rfl).front 2 rfl).take 3)
     exact ihL0 (0 + 1, _, _) _ _ (by simp only []; omega) ⟨_, slots4 rfl rfl rfl rfl, hp, by omega, .inr ⟨by omega, rfl⟩⟩
    ·skip
     refine GW_region ?_
     refine GL_rd (wn_none rfl) rfl (rd_move rfl rfl) ?_
     refine GL_rd (v := .int _ _) (wn_none rfl) rfl (rd_move rfl rfl) ?_
     refine GL_rd (wn_none rfl) rfl (rd_field rfl rfl fa83_0 _ rfl) ?_
     refine GL_rd (wn_none rfl) rfl (rd_indexA (j := i) rfl rfl rfl Try.underlying57 ts5 rfl (by omega) _ rfl) ?_
     refine GL_rd (wn_none rfl) rfl (rd_load rfl rfl Try.underlying5 rfl ((cell_of_cells (hp.get 2 rfl) _).trans (clip_byte _ _ _ (by omega)))) ?_
     refine GL_lit (L := (bys [c.addr.1.getD i 0])) (wn_none rfl) rfl rfl Try.underlying39 ts5 tz5 rfl (by kernel_rfl) rfl rfl hp ?_
     intro g5 w hp
     refine GL_append (i := 1) (wn_none rfl) rfl rfl rfl rfl Try.underlying39 ti5 rfl (by decide) hp rfl (Sl.row (hp.get 0 rfl)) (bys_one _) (by omega) (by omega) ?_
     intro v2 w hp
     obtain ⟨Av2, cv2, rfl⟩ := row_shape (hp.get 1 rfl)
     rw [← bys_append] at hp
     refine GL_rd (v := .slice _ _ _) (wn_none rfl) rfl (rd_assign rfl rfl) ?_
     refine GL_nil ?_
     refine GW_region ?_
     refine GL_rd (v := .int _ _) (wn_none rfl) rfl (rd_move rfl rfl) ?_
     refine GL_rd (wn_none rfl) rfl (rd_bin rfl rfl rfl (bo_add64 (by omega))) ?_
     refine GL_rd (v := .int _ _) (wn_none rfl) rfl (rd_assign rfl rfl) ?_
     refine GL_nil ?_
     rw [List.append_assoc, List.take_succ_eq_append_getD (by omega)] at hp
     have hp := ((((hp.front 3 rfl).front 3 rfl).front 3 rfl).take 3)
     exact ihL0 (i + 1, _, _) _ _ (by simp only []; omega) ⟨_, slots4 rfl rfl rfl rfl, hp, by omega, .inr ⟨by omega, rfl⟩⟩
   ·(try simp only [decide_eq_true_eq, decide_eq_false_iff_not, Bool.not_eq_true', Bool.not_eq_false', Bool.not_eq_eq_eq_not, Bool.not_true, Bool.not_false, Int.not_lt, Int.not_le] at hb2)
    obtain rfl : i = 32 := by omega
    rcases hr with ⟨h0, _⟩ | ⟨_, rfl⟩
    · omega
    rw [List.take_of_length_le (by omega)] at hp
    refine GW_exit ?_
    refine GW_seq ?_
    refine GW_region ?_
    refine GL_rd (v := v) (wn_none rfl) rfl (rd_move rfl rfl) ?_
    refine GL_rd (wn_none rfl) rfl (rd_field rfl rfl fa83_1 _ rfl) ?_
    refine GL_rd (wn_none rfl) rfl (rd_load rfl rfl Try.underlying3 rfl ((cell_of_cells (hp.get 2 rfl) _).trans (clip_cls _ _ _))) ?_
    refine GL_rd (wn_none rfl) rfl (rd_convE (q := ((kB c.cls).toNat : Int)) rfl rfl Try.underlying5 Try.underlying3 (by simp) (kB_wrap _)) ?_
    refine GL_lit (L := (bys [kB c.cls])) (wn_none rfl) rfl rfl Try.underlying39 ts5 tz5 rfl (by kernel_rfl) rfl rfl hp ?_
    intro g6 w hp
    refine GL_append (i := 1) (wn_none rfl) rfl rfl rfl rfl Try.underlying39 ti5 rfl (by decide) hp rfl (Sl.row (hp.get 0 rfl)) (bys_one _) (by omega) (by omega) ?_
    intro v3 w hp
    obtain ⟨Av3, cv3, rfl⟩ := row_shape (hp.get 1 rfl)
    rw [← bys_append] at hp
    refine GL_rd (v := .slice _ _ _) (wn_none rfl) rfl (rd_assign rfl rfl) ?_
    refine GL_nil ?_
    refine GW_seq ?_
    refine GW_region ?_
    refine GL_rd (v := .slice _ _ _) (wn_none rfl) rfl (rd_move rfl rfl) ?_
    refine GL_rd (wn_none rfl) rfl (rd_field rfl rfl fa83_2 _ rfl) ?_
    refine GL_rd (wn_none rfl) rfl (rd_load rfl rfl Try.underlying3 rfl ((cell_of_cells (hp.get 3 rfl) _).trans (clip_made _ _ _))) ?_
    refine GL_rd (wn_none rfl) rfl (rd_convE (q := (u64N c.made : Int)) rfl rfl Try.underlying160 Try.underlying3 (by simp) (u64_wrapN _)) ?_
    refine GL_call (wn_none rfl) rfl rfl (ref_Put 6 (u64N c.made) 6 _ (u64N_lt _) (by decide) rfl) rfl ?_
    intro q w hk
    have hp := hp.comp hk
    refine GL_append (i := 2) (wn_none rfl) rfl rfl rfl rfl Try.underlying39 ti5 rfl (by decide) hp rfl (Sl.row (hp.get 0 rfl)) (bys_one _) (by omega) (by omega) ?_
    intro v4 w hp
    obtain ⟨Av4, cv4, rfl⟩ := row_shape (hp.get 2 rfl)
    rw [← bys_append] at hp
    refine GL_rd (v := .slice _ _ _) (wn_none rfl) rfl (rd_assign rfl rfl) ?_
    refine GL_nil ?_
    refine GW_cut (fun f_0 w' => ∃ (n : Nat) (A2 : Option Addr) (c2 : Nat) (fz : _), f_0 = (upd (upd (upd fz 1 (.pointer (some ⟨g, 0, none⟩))) 2 (.pointer (some ⟨g2, 0, none⟩))) 5 (.slice A2 n c2)) ∧ Hp w0 [] w' [.row 5 1 (.slice A2 n c2) n (bys (([67, 76, 73, 80] ++ c.addr.1 ++ [kB c.cls] ++ putL (u64N c.made) 6) ++ [firB c])), cells g2 44 (List.replicate 256 (.int .u8 0)), cells g 83 (clipC c (.slice A c.holds.length ch) (.slice B c.texts.length ct))] ∧ (n = (4 + 32 + 1 + 6) + 1)) ?_ ?_
    ·skip
     refine GW_seq ?_
     refine GW_region ?_
     refine GL_rd (wn_none rfl) rfl (rd_field rfl rfl fa83_3 _ rfl) ?_
     refine GL_rd (wn_none rfl) rfl (rd_load rfl rfl Try.underlying4 rfl ((cell_of_cells (hp.get 4 rfl) _).trans (clip_fired _ _ _))) ?_
     refine GL_nil ?_
     refine GW_cond rfl (fun hb3 => ?_) (fun hb3 => ?_)
     ·(try simp only [decide_eq_true_eq, decide_eq_false_iff_not, Bool.not_eq_true', Bool.not_eq_false', Bool.not_eq_eq_eq_not, Bool.not_true, Bool.not_false, Int.not_lt, Int.not_le] at hb3)
      have hf := firB_t hb3
      refine GW_region ?_
      refine GL_rd (v := .slice _ _ _) (wn_none rfl) rfl (rd_move rfl rfl) ?_
      refine GL_lit (L := (bys [1])) (wn_none rfl) rfl rfl Try.underlying39 ts5 tz5 rfl (by kernel_rfl) rfl rfl hp ?_
      intro g7 w hp
      refine GL_append (i := 3) (wn_none rfl) rfl rfl rfl rfl Try.underlying39 ti5 rfl (by decide) hp rfl (Sl.row (hp.get 0 rfl)) (bys_one _) (by omega) (by omega) ?_
      intro v5 w hp
      obtain ⟨Av5, cv5, rfl⟩ := row_shape (hp.get 3 rfl)
      rw [← bys_append] at hp
      refine GL_rd (v := .slice _ _ _) (wn_none rfl) rfl (rd_assign rfl rfl) ?_
      refine GL_nil ?_
      have hp := ((((hp.front 5 rfl).front 5 rfl).front 5 rfl).take 3)
      rw [← hf] at hp
      exact ⟨(4 + 32 + 1 + 6) + 1, Av5, cv5, _, slots3 rfl rfl rfl, hp, rfl⟩
     ·(try simp only [decide_eq_true_eq, decide_eq_false_iff_not, Bool.not_eq_true', Bool.not_eq_false', Bool.not_eq_eq_eq_not, Bool.not_true, Bool.not_false, Int.not_lt, Int.not_le] at hb3)
      have hf := firB_f hb3
      refine GW_region ?_
      refine GL_rd (v := .slice _ _ _) (wn_none rfl) rfl (rd_move rfl rfl) ?_
      refine GL_lit (L := (bys [0])) (wn_none rfl) rfl rfl Try.underlying39 ts5 tz5 rfl (by kernel_rfl) rfl rfl hp ?_
      intro g8 w hp
      refine GL_append (i := 3) (wn_none rfl) rfl rfl rfl rfl Try.underlying39 ti5 rfl (by decide) hp rfl (Sl.row (hp.get 0 rfl)) (bys_one _) (by omega) (by omega) ?_
      intro v6 w hp
      obtain ⟨Av6, cv6, rfl⟩ := row_shape (hp.get 3 rfl)
      rw [← bys_append] at hp
      refine GL_rd (v := .slice _ _ _) (wn_none rfl) rfl (rd_assign rfl rfl) ?_
      refine GL_nil ?_
      have hp := ((((hp.front 5 rfl).front 5 rfl).front 5 rfl).take 3)
      rw [← hf] at hp
      exact ⟨(4 + 32 + 1 + 6) + 1, Av6, cv6, _, slots3 rfl rfl rfl, hp, rfl⟩
    ·rintro f w ⟨n, A2, c2, fz, rfl, hp, hn5⟩
     subst hn5
     refine GW_seq ?_
     refine GW_region ?_
     refine GL_rd (v := .slice _ _ _) (wn_none rfl) rfl (rd_move rfl rfl) ?_
     refine GL_rd (wn_none rfl) rfl (rd_field rfl rfl fa83_4 _ rfl) ?_
     refine GL_rd (wn_none rfl) rfl (rd_load rfl rfl Try.underlying3 rfl ((cell_of_cells (hp.get 2 rfl) _).trans (clip_event _ _ _))) ?_
     refine GL_rd (wn_none rfl) rfl (rd_convE (q := (u64N c.event : Int)) rfl rfl Try.underlying160 Try.underlying3 (by simp) (u64_wrapN _)) ?_
     refine GL_call (wn_none rfl) rfl rfl (ref_Put 6 (u64N c.event) 6 _ (u64N_lt _) (by decide) rfl) rfl ?_
     intro q w hk
     have hp := hp.comp hk
     refine GL_append (i := 1) (wn_none rfl) rfl rfl rfl rfl Try.underlying39 ti5 rfl (by decide) hp rfl (Sl.row (hp.get 0 rfl)) (bys_one _) (by omega) (by omega) ?_
     intro v7 w hp
     obtain ⟨Av7, cv7, rfl⟩ := row_shape (hp.get 1 rfl)
     rw [← bys_append] at hp
     refine GL_rd (v := .slice _ _ _) (wn_none rfl) rfl (rd_assign rfl rfl) ?_
     refine GL_nil ?_
     refine GW_seq ?_
     refine GW_region ?_
     refine GL_rd (wn_none rfl) rfl (rd_field rfl rfl fa83_6 _ rfl) ?_
     refine GL_rd (wn_none rfl) rfl (rd_load rfl rfl Try.underlying9 rfl ((cell_of_cells (hp.get 3 rfl) _).trans (clip_note _ _ _))) ?_
     refine GL_call (wn_none rfl) rfl rfl (ref_Pad c.note 32 _ (by omega)) rfl ?_
     rintro _ w ⟨tn, rfl, hk⟩
     have hp := hp.comp hk
     refine GL_rd (v := .tuple _) (wn_none rfl) rfl (rd_move rfl rfl) ?_
     refine GL_rd (v := tn) (wn_none rfl) rfl (rd_extract rfl rfl rfl) ?_
     refine GL_rd (v := .int _ _) (wn_none rfl) rfl (rd_extract rfl rfl rfl) ?_
     refine GL_rd (v := tn) (wn_none rfl) rfl (rd_assign rfl rfl) ?_
     refine GL_rd (v := .int _ _) (wn_none rfl) rfl (rd_assign rfl rfl) ?_
     refine GL_nil ?_
     refine GW_seq ?_
     refine GW_region ?_
     refine GL_rd (v := .slice _ _ _) (wn_none rfl) rfl (rd_move rfl rfl) ?_
     refine GL_rd (v := tn) (wn_none rfl) rfl (rd_move rfl rfl) ?_
     refine GL_append (i := 2) (wn_none rfl) rfl rfl rfl rfl Try.underlying39 ti5 rfl (by decide) hp rfl (Sl.row (hp.get 0 rfl)) (bys_one _) (by omega) (by omega) ?_
     intro v8 w hp
     obtain ⟨Av8, cv8, rfl⟩ := row_shape (hp.get 2 rfl)
     rw [← bys_append] at hp
     refine GL_rd (v := .slice _ _ _) (wn_none rfl) rfl (rd_assign rfl rfl) ?_
     refine GL_nil ?_
     refine GW_seq ?_
     refine GW_region ?_
     refine GL_rd (v := .slice _ _ _) (wn_none rfl) rfl (rd_move rfl rfl) ?_
     refine GL_rd (wn_none rfl) rfl (rd_field rfl rfl fa83_5 _ rfl) ?_
     refine GL_rd (v := .slice _ _ _) (wn_none rfl) rfl (rd_load rfl rfl Try.underlying40 rfl ((cell_of_cells (hp.get 4 rfl) _).trans (clip_holds _ _ _))) ?_
     refine GL_rd (wn_none rfl) rfl (rd_len rfl rfl Try.underlying40) ?_
     refine GL_rd (wn_none rfl) rfl (rd_convE (q := ((kB (c.holds.length : Int)).toNat : Int)) rfl rfl Try.underlying5 Try.underlying3 (by simp) (kB_wrap _)) ?_
     refine GL_lit (L := (bys [kB (c.holds.length : Int)])) (wn_none rfl) rfl rfl Try.underlying39 ts5 tz5 rfl (by kernel_rfl) rfl rfl hp ?_
     intro g9 w hp
     refine GL_append (i := 3) (wn_none rfl) rfl rfl rfl rfl Try.underlying39 ti5 rfl (by decide) hp rfl (Sl.row (hp.get 0 rfl)) (bys_one _) (by omega) (by omega) ?_
     intro v9 w hp
     obtain ⟨Av9, cv9, rfl⟩ := row_shape (hp.get 3 rfl)
     rw [← bys_append] at hp
     refine GL_rd (v := .slice _ _ _) (wn_none rfl) rfl (rd_assign rfl rfl) ?_
     refine GL_nil ?_
     refine GW_seq ?_
     refine GW_seq ?_
     refine GW_region ?_
     refine GL_rd (v := .int _ _) (wn_none rfl) rfl (rd_assign rfl rfl) ?_
     refine GL_nil ?_
     refine GW_block ?_
     refine GW_loop ?_
     refine Lp_ind (α := Nat × Nat × Option Addr × Nat × List UInt8) (fun a_0 f_0 w' => match a_0 with | (i, n, A2, c2, xs) => ∃ fz, f_0 = (upd (upd (upd (upd fz 1 (.pointer (some ⟨g, 0, none⟩))) 2 (.pointer (some ⟨g2, 0, none⟩))) 5 (.slice A2 n c2)) 9 (.int .i64 (i : Int))) ∧ Hp w0 [] w' [.row 5 1 (.slice A2 n c2) n (bys xs), cells g2 44 (List.replicate 256 (.int .u8 0)), cells g 83 (clipC c (.slice A c.holds.length ch) (.slice B c.texts.length ct))] ∧ (i ≤ c.holds.length) ∧ (n ≤ 83 + 16 * i) ∧ (xs = clpX c ++ holdB (c.holds.take i))) (fun a_0 => match a_0 with | (i, n, A2, c2, xs) => c.holds.length - i) ?_ (0, ((4 + 32 + 1 + 6) + 1 + 6 + (padL c.note.data.toList 32).length + 1), Av9, cv9, (([67, 76, 73, 80] ++ c.addr.1 ++ [kB c.cls] ++ putL (u64N c.made) 6) ++ [firB c] ++ putL (u64N c.event) 6 ++ padL c.note.data.toList 32 ++ [kB (c.holds.length : Int)])) _ _ ?_
     ·rintro ⟨i, n, A2, c2, xs⟩ f wz ⟨fz, rfl, hp, hi0, hn, hx⟩ ihL1
      refine Lp_round ?_
      refine GW_seq ?_
      refine GW_seq ?_
      refine GW_region ?_
      refine GL_rd (v := .int _ _) (wn_none rfl) rfl (rd_move rfl rfl) ?_
      refine GL_rd (wn_none rfl) rfl (rd_field rfl rfl fa83_5 _ rfl) ?_
      refine GL_rd (v := .slice _ _ _) (wn_none rfl) rfl (rd_load rfl rfl Try.underlying40 rfl ((cell_of_cells (hp.get 2 rfl) _).trans (clip_holds _ _ _))) ?_
      refine GL_rd (wn_none rfl) rfl (rd_len rfl rfl Try.underlying40) ?_
      refine GL_rd (wn_none rfl) rfl (rd_bin rfl rfl rfl bo_lss) ?_
      refine GL_nil ?_
      refine GW_cond rfl (fun hb4 => ?_) (fun hb4 => ?_)
      ·(try simp only [decide_eq_true_eq, decide_eq_false_iff_not, Bool.not_eq_true', Bool.not_eq_false', Bool.not_eq_eq_eq_not, Bool.not_true, Bool.not_false, Int.not_lt, Int.not_le] at hb4)
       obtain ⟨gA, bA, rfl⟩ := hH.addr (by rw [List.length_map]; omega)
       refine GW_skip ?_
       refine GW_seq ?_
       refine GW_block ?_
       refine GW_seq ?_
       refine GW_region ?_
       refine GL_rd (wn_none rfl) rfl (rd_field rfl rfl fa83_5 _ rfl) ?_
       refine GL_rd (v := .slice _ _ _) (wn_none rfl) rfl (rd_load rfl rfl Try.underlying40 rfl ((cell_of_cells (hp.get 2 rfl) _).trans (clip_holds _ _ _))) ?_
       refine GL_rd (v := .int _ _) (wn_none rfl) rfl (rd_move rfl rfl) ?_
       refine GL_rd (wn_none rfl) rfl (rd_indexS (j := i) rfl rfl rfl Try.underlying40 ts9 rfl (by omega) _ rfl) ?_
       refine GL_rd (wn_none rfl) rfl (rd_load rfl rfl Try.underlying9 rfl ((hH.keep hp.mod).get _ _ (strAt_cell (i := i) (by omega)))) ?_
       have hpi := pad_le (strAt c.holds i).data.toList 16
       refine GL_call (wn_none rfl) rfl rfl (ref_Pad (strAt c.holds i) 16 _ (by have := hz _ (mem_at (strAt_some (l := c.holds) (i := i) (by omega))); omega)) rfl ?_
       rintro _ w ⟨tn, rfl, hk⟩
       have hp := hp.comp hk
       refine GL_rd (v := .tuple _) (wn_none rfl) rfl (rd_move rfl rfl) ?_
       refine GL_rd (v := tn) (wn_none rfl) rfl (rd_extract rfl rfl rfl) ?_
       refine GL_rd (v := .int _ _) (wn_none rfl) rfl (rd_extract rfl rfl rfl) ?_
       refine GL_rd (v := tn) (wn_none rfl) rfl (rd_assign rfl rfl) ?_
       refine GL_rd (v := .int _ _) (wn_none rfl) rfl (rd_assign rfl rfl) ?_
       refine GL_nil ?_
       refine GW_region ?_
       refine GL_rd (v := .slice _ _ _) (wn_none rfl) rfl (rd_move rfl rfl) ?_
       refine GL_rd (v := tn) (wn_none rfl) rfl (rd_move rfl rfl) ?_
       refine GL_append (i := 1) (wn_none rfl) rfl rfl rfl rfl Try.underlying39 ti5 rfl (by decide) hp rfl (Sl.row (hp.get 0 rfl)) (bys_one _) (by omega) (by omega) ?_
       intro v10 w hp
       obtain ⟨Av10, cv10, rfl⟩ := row_shape (hp.get 1 rfl)
       rw [← bys_append] at hp
       refine GL_rd (v := .slice _ _ _) (wn_none rfl) rfl (rd_assign rfl rfl) ?_
       refine GL_nil ?_
       refine GW_region ?_
       refine GL_rd (v := .int _ _) (wn_none rfl) rfl (rd_move rfl rfl) ?_
       refine GL_rd (wn_none rfl) rfl (rd_bin rfl rfl rfl (bo_add64 (by omega))) ?_
       refine GL_rd (v := .int _ _) (wn_none rfl) rfl (rd_assign rfl rfl) ?_
       refine GL_nil ?_
       have hp := ((((hp.front 3 rfl).front 3 rfl).front 3 rfl).take 3)
       exact ihL1 (i + 1, _, _, _, _) _ _ (by simp only []; omega) ⟨_, slots4 rfl rfl rfl rfl, hp, by omega, by have := pad_le (strAt c.holds i).data.toList 16; omega, by rw [hx, List.append_assoc, holdB_succ (by omega)]⟩
      ·(try simp only [decide_eq_true_eq, decide_eq_false_iff_not, Bool.not_eq_true', Bool.not_eq_false', Bool.not_eq_eq_eq_not, Bool.not_true, Bool.not_false, Int.not_lt, Int.not_le] at hb4)
       obtain rfl : i = c.holds.length := by omega
       rw [List.take_of_length_le (Nat.le_refl _)] at hx
       refine GW_exit ?_
       refine GW_seq ?_
       refine GW_region ?_
       refine GL_rd (v := .slice _ _ _) (wn_none rfl) rfl (rd_move rfl rfl) ?_
       refine GL_rd (wn_none rfl) rfl (rd_field rfl rfl fa83_7 _ rfl) ?_
       refine GL_rd (v := .slice _ _ _) (wn_none rfl) rfl (rd_load rfl rfl Try.underlying32 rfl ((cell_of_cells (hp.get 2 rfl) _).trans (clip_texts _ _ _))) ?_
       refine GL_rd (wn_none rfl) rfl (rd_len rfl rfl Try.underlying32) ?_
       refine GL_rd (wn_none rfl) rfl (rd_convE (q := ((kB (c.texts.length : Int)).toNat : Int)) rfl rfl Try.underlying5 Try.underlying3 (by simp) (kB_wrap _)) ?_
       refine GL_lit (L := (bys [kB (c.texts.length : Int)])) (wn_none rfl) rfl rfl Try.underlying39 ts5 tz5 rfl (by kernel_rfl) rfl rfl hp ?_
       intro g10 w hp
       refine GL_append (i := 1) (wn_none rfl) rfl rfl rfl rfl Try.underlying39 ti5 rfl (by decide) hp rfl (Sl.row (hp.get 0 rfl)) (bys_one _) (by omega) (by omega) ?_
       intro v11 w hp
       obtain ⟨Av11, cv11, rfl⟩ := row_shape (hp.get 1 rfl)
       rw [← bys_append] at hp
       refine GL_rd (v := .slice _ _ _) (wn_none rfl) rfl (rd_assign rfl rfl) ?_
       refine GL_nil ?_
       refine GW_seq ?_
       refine GW_seq ?_
       refine GW_region ?_
       refine GL_rd (v := .int _ _) (wn_none rfl) rfl (rd_assign rfl rfl) ?_
       refine GL_nil ?_
       refine GW_block ?_
       refine GW_loop ?_
       refine Lp_ind (α := Nat × Nat × Option Addr × Nat × List UInt8) (fun a_0 f_0 w' => match a_0 with | (i, n, A2, c2, xs) => ∃ fz, f_0 = (upd (upd (upd (upd fz 1 (.pointer (some ⟨g, 0, none⟩))) 2 (.pointer (some ⟨g2, 0, none⟩))) 5 (.slice A2 n c2)) 12 (.int .i64 (i : Int))) ∧ Hp w0 [] w' [.row 5 1 (.slice A2 n c2) n (bys xs), cells g2 44 (List.replicate 256 (.int .u8 0)), cells g 83 (clipC c (.slice A c.holds.length ch) (.slice B c.texts.length ct))] ∧ (i ≤ c.texts.length) ∧ (n ≤ 84 + 16 * c.holds.length + i) ∧ (xs = clpX c ++ holdB c.holds ++ [kB (c.texts.length : Int)] ++ textB (c.texts.take i))) (fun a_0 => match a_0 with | (i, n, A2, c2, xs) => c.texts.length - i) ?_ (0, n + 1, Av11, cv11, xs ++ [kB (c.texts.length : Int)]) _ _ ?_
       ·rintro ⟨i, n, A2, c2, xs⟩ f wz ⟨fz, rfl, hp, hi0, hn, hx⟩ ihL2
        refine Lp_round ?_
        refine GW_seq ?_
        refine GW_seq ?_
        refine GW_region ?_
        refine GL_rd (v := .int _ _) (wn_none rfl) rfl (rd_move rfl rfl) ?_
        refine GL_rd (wn_none rfl) rfl (rd_field rfl rfl fa83_7 _ rfl) ?_
        refine GL_rd (v := .slice _ _ _) (wn_none rfl) rfl (rd_load rfl rfl Try.underlying32 rfl ((cell_of_cells (hp.get 2 rfl) _).trans (clip_texts _ _ _))) ?_
        refine GL_rd (wn_none rfl) rfl (rd_len rfl rfl Try.underlying32) ?_
        refine GL_rd (wn_none rfl) rfl (rd_bin rfl rfl rfl bo_lss) ?_
        refine GL_nil ?_
        refine GW_cond rfl (fun hb5 => ?_) (fun hb5 => ?_)
        ·(try simp only [decide_eq_true_eq, decide_eq_false_iff_not, Bool.not_eq_true', Bool.not_eq_false', Bool.not_eq_eq_eq_not, Bool.not_true, Bool.not_false, Int.not_lt, Int.not_le] at hb5)
         obtain ⟨gB, bB, rfl⟩ := hT.addr (by rw [List.length_map]; omega)
         refine GW_skip ?_
         refine GW_seq ?_
         refine GW_block ?_
         refine GW_region ?_
         refine GL_rd (v := .slice _ _ _) (wn_none rfl) rfl (rd_move rfl rfl) ?_
         refine GL_rd (wn_none rfl) rfl (rd_field rfl rfl fa83_7 _ rfl) ?_
         refine GL_rd (v := .slice _ _ _) (wn_none rfl) rfl (rd_load rfl rfl Try.underlying32 rfl ((cell_of_cells (hp.get 2 rfl) _).trans (clip_texts _ _ _))) ?_
         refine GL_rd (v := .int _ _) (wn_none rfl) rfl (rd_move rfl rfl) ?_
         refine GL_rd (wn_none rfl) rfl (rd_indexS (j := i) rfl rfl rfl Try.underlying32 ts3 rfl (by omega) _ rfl) ?_
         refine GL_rd (wn_none rfl) rfl (rd_load rfl rfl Try.underlying3 rfl ((hT.keep hp.mod).get _ _ (intAt_cell (i := i) (by omega)))) ?_
         refine GL_rd (wn_none rfl) rfl (rd_convE (q := ((kB (intAt c.texts i)).toNat : Int)) rfl rfl Try.underlying5 Try.underlying3 (by simp) (kB_wrap _)) ?_
         refine GL_lit (L := (bys [kB (intAt c.texts i)])) (wn_none rfl) rfl rfl Try.underlying39 ts5 tz5 rfl (by kernel_rfl) rfl rfl hp ?_
         intro g11 w hp
         refine GL_append (i := 1) (wn_none rfl) rfl rfl rfl rfl Try.underlying39 ti5 rfl (by decide) hp rfl (Sl.row (hp.get 0 rfl)) (bys_one _) (by omega) (by omega) ?_
         intro v12 w hp
         obtain ⟨Av12, cv12, rfl⟩ := row_shape (hp.get 1 rfl)
         rw [← bys_append] at hp
         refine GL_rd (v := .slice _ _ _) (wn_none rfl) rfl (rd_assign rfl rfl) ?_
         refine GL_nil ?_
         refine GW_region ?_
         refine GL_rd (v := .int _ _) (wn_none rfl) rfl (rd_move rfl rfl) ?_
         refine GL_rd (wn_none rfl) rfl (rd_bin rfl rfl rfl (bo_add64 (by omega))) ?_
         refine GL_rd (v := .int _ _) (wn_none rfl) rfl (rd_assign rfl rfl) ?_
         refine GL_nil ?_
         have hp := ((((hp.front 3 rfl).front 3 rfl).front 3 rfl).take 3)
         exact ihL2 (i + 1, _, _, _, _) _ _ (by simp only []; omega) ⟨_, slots4 rfl rfl rfl rfl, hp, by omega, by omega, by rw [hx, List.append_assoc, textB_succ (by omega)]⟩
        ·(try simp only [decide_eq_true_eq, decide_eq_false_iff_not, Bool.not_eq_true', Bool.not_eq_false', Bool.not_eq_eq_eq_not, Bool.not_true, Bool.not_false, Int.not_lt, Int.not_le] at hb5)
         obtain rfl : i = c.texts.length := by omega
         rw [List.take_of_length_le (Nat.le_refl _)] at hx
         have e : xs = clpB c := hx
         subst e
         refine GW_exit ?_
         refine GW_seq ?_
         refine GW_region ?_
         refine GL_rd (v := .slice _ _ _) (wn_none rfl) rfl (rd_move rfl rfl) ?_
         refine GL_call (wn_none rfl) rfl rfl (ref_Sealed _ _ (clpB c) _ (Sl.row (hp.get 0 rfl)) (by omega)) rfl ?_
         rintro _ w ⟨rfl, hk⟩
         have hp := hp.comp hk
         refine GL_store (i := 1) (wn_none rfl) rfl rfl rfl rfl ts44 rfl (by rw [bys_length, secL_length]) (bys_one _) hp rfl (by rw [List.length_replicate]; decide) ((splice_all _ _ (by rw [bys_length, secL_length, List.length_replicate])).trans (congrArg bys (secC_yes hok).symm)) ?_
         intro w hp
         refine GL_rd (v := .int _ _) (wn_none rfl) rfl (rd_assign rfl rfl) ?_
         refine GL_nil ?_
         refine GW_ret ?_
         exact ⟨_, res2 Try.results62 (rv_cell rfl rfl Try.underlying44 rfl ts44 (by first | rw [bys_length, secC_length] | exact List.length_replicate) (hp.get 1 rfl)) (rv_tmp (v := .int _ _) rfl rfl), by rw [hok], hp.mods⟩
       ·have hp := ((((hp.front 3 rfl).front 3 rfl).front 3 rfl).take 3)
        refine ⟨_, slots4 rfl rfl rfl rfl, hp, Nat.zero_le _, by omega, by rw [hx]; simp [textB]⟩
     ·have hp := ((((hp.front 5 rfl).front 5 rfl).front 5 rfl).take 3)
      refine ⟨_, slots4 rfl rfl rfl rfl, hp, Nat.zero_le _, by omega, by simp [clpX, holdB]⟩
  ·refine ⟨_, slots4 rfl rfl rfl rfl, hp, Nat.zero_le _, .inl ⟨rfl, g3, rfl, rfl⟩⟩
end Go.Proofs.Ytblpmjbddpadcaa
