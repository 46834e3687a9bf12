/- Walks of functions of the program. -/
import Derived.Test.YtpagpmioopaciaaQFSlo
set_option linter.unusedVariables false
set_option linter.unusedSimpArgs false
namespace Go.Proofs.Ytpagpmioopaciaa
open Go.Mo Go.RowKit
theorem tb_New (x : Int) (n : Nat) (w0 : World) (hx : x = (n : Int)) (hn : 1 ≤ n ∧ n ≤ 406) : Does Try.prog 47 #[.int .i64 x] w0 fun v w' => ∃ tg ev, v = .tuple #[.pointer (some ⟨tg, 0, none⟩), .int .i64 0] ∧ Hp w0 [] w' [cells tg 174 [ev, .int .i64 0], .row 164 34 ev n ((List.replicate n enZ).flatMap enC)] := by
 refine does_of (l := [.int .i64 x]) Try.func47 (by kernel_rfl) rfl Try.ntmps47 rfl rfl (by kernel_rfl) ?_
 have hp := Hp.refl w0 []
 refine GW_seq ?_
 refine GW_region ?_
 refine GL_rd (v := _) (wn_none rfl) rfl (rd_assign rfl rfl) ?_
 refine GL_rd (v := .int _ _) (wn_none rfl) rfl (rd_assign rfl rfl) ?_
 refine GL_nil ?_
 refine GW_seq ?_
 refine GW_seq ?_
 refine GW_region ?_
 refine GL_rd (v := .int _ _) (wn_none rfl) rfl (rd_move rfl rfl) ?_
 refine GL_rd (wn_none rfl) rfl (rd_bin rfl rfl rfl bo_lss) ?_
 refine GL_rd (v := .bool _) (wn_none rfl) rfl (rd_move rfl rfl) ?_
 refine GL_split (t := 6) (b := _) rfl ?_ ?_
 ·intro hb; (try simp only [decide_eq_true_eq, decide_eq_false_iff_not, Bool.not_eq_true', Bool.not_eq_false', Bool.not_eq_eq_eq_not, Bool.not_true, Bool.not_false, Int.not_lt, Int.not_le] at hb)
  exact absurd hb (by omega)
 ·intro hb; (try simp only [decide_eq_true_eq, decide_eq_false_iff_not, Bool.not_eq_true', Bool.not_eq_false', Bool.not_eq_eq_eq_not, Bool.not_true, Bool.not_false, Int.not_lt, Int.not_le] at hb)
  refine GL_rd (v := .int _ _) (wn_on rfl rfl rfl rfl) rfl (rd_move rfl rfl) ?_
  refine GL_rd (wn_on rfl rfl rfl rfl) rfl (rd_bin rfl rfl rfl bo_gtr) ?_
  refine GL_rd (v := .bool _) (wn_none rfl) rfl (rd_pickF rfl rfl rfl) ?_
  refine GL_nil ?_
  refine GW_cond rfl (fun hb2 => ?_) (fun hb2 => ?_)
  ·(try simp only [decide_eq_true_eq, decide_eq_false_iff_not, Bool.not_eq_true', Bool.not_eq_false', Bool.not_eq_eq_eq_not, Bool.not_true, Bool.not_false, Int.not_lt, Int.not_le] at hb2)
   exact absurd hb2 (by omega)
  ·(try simp only [decide_eq_true_eq, decide_eq_false_iff_not, Bool.not_eq_true', Bool.not_eq_false', Bool.not_eq_eq_eq_not, Bool.not_true, Bool.not_false, Int.not_lt, Int.not_le] at hb2)
   refine GW_skip ?_
   refine GW_seq ?_
   refine GW_region ?_
   refine GL_rd (v := .int _ _) (wn_none rfl) rfl (rd_move rfl rfl) ?_
   refine GL_makeN (e := enC) (a := enZ) (m := n) (wn_none rfl) rfl rfl rfl Try.underlying172 ti164 enC_len (by decide) enZ_cells hx (by omega) (by omega) hp ?_
   intro g w hp
   refine GL_rd (wn_none rfl) rfl (rd_buildS (L := [.slice (some ⟨g, 0, none⟩) n n, .int .i64 0]) rfl tz174 pl174 (by kernel_rfl)) ?_
   refine GL_box (wn_none rfl) rfl rfl rfl rfl hp ?_
   intro g2 w hp
   refine GL_rd (v := .pointer (some ⟨_, _, none⟩)) (wn_none rfl) rfl (rd_assign rfl rfl) ?_
   refine GL_rd (v := .int _ _) (wn_none rfl) rfl (rd_assign rfl rfl) ?_
   refine GL_nil ?_
   refine GW_ret ?_
   have hp := (((hp.front 1 rfl).front 1 rfl).take 2)
   exact ⟨_, res2 Try.results47 (rv_tmp (v := .pointer (some ⟨_, _, none⟩)) rfl rfl) (rv_tmp (v := .int _ _) rfl rfl), _, _, rfl, hp⟩
theorem dig_Home (a : A32) (n : Int) (w0 : World) (hn : n ≤ 9223372036854775807) : Does Try.prog 140 #[.agg ⟨bys a.1⟩, .int .i64 n] w0 fun v w' => v = .int .i64 (homeN a n) ∧ Hp w0 [] w' [] := by
 refine does_of (l := [.agg ⟨bys a.1⟩, .int .i64 n]) Try.func140 (by kernel_rfl) rfl Try.ntmps140 rfl rfl (by kernel_rfl) ?_
 have hp := Hp.refl w0 []
 refine GW_seq ?_
 refine GW_region ?_
 refine GL_box (wn_none rfl) rfl rfl rfl rfl hp ?_
 intro g w hp
 refine GL_rd (v := .int _ _) (wn_none rfl) rfl (rd_assign rfl rfl) ?_
 refine GL_nil ?_
 refine GW_seq ?_
 refine GW_seq ?_
 refine GW_region ?_
 refine GL_rd (v := .int _ _) (wn_none rfl) rfl (rd_move rfl rfl) ?_
 refine GL_rd (wn_none rfl) rfl (rd_bin rfl rfl rfl bo_lss) ?_
 refine GL_nil ?_
 refine GW_cond rfl (fun hb => ?_) (fun hb => ?_)
 ·(try simp only [decide_eq_true_eq, decide_eq_false_iff_not, Bool.not_eq_true', Bool.not_eq_false', Bool.not_eq_eq_eq_not, Bool.not_true, Bool.not_false, Int.not_lt, Int.not_le] at hb)
  have e : homeN a n = 0 := if_pos hb
  refine GW_seq ?_
  refine GW_region ?_
  refine GL_rd (v := .int _ _) (wn_none rfl) rfl (rd_assign rfl rfl) ?_
  refine GL_nil ?_
  refine GW_ret ?_
  exact ⟨_, res1 Try.results140 (rv_tmp (v := .int _ _) rfl rfl), by rw [e], hp.mods⟩
 ·(try simp only [decide_eq_true_eq, decide_eq_false_iff_not, Bool.not_eq_true', Bool.not_eq_false', Bool.not_eq_eq_eq_not, Bool.not_true, Bool.not_false, Int.not_lt, Int.not_le] at hb)
  have e : homeN a n = (hvK a.1 6 : Int) % n := if_neg (by have := hb; omega)
  refine GW_skip ?_
  refine GW_seq ?_
  refine GW_region ?_
  refine GL_rd (v := .int _ _) (wn_none rfl) rfl (rd_assign rfl rfl) ?_
  refine GL_nil ?_
  refine GW_seq ?_
  refine GW_seq ?_
  refine GW_region ?_
  refine GL_rd (wn_none rfl) rfl (rd_sliceA (lo := 0) (hi := 6) rfl rfl Try.underlying66 ts5 at_none (at_some rfl rfl) (by decide) (by decide) (by decide) _ rfl) ?_
  refine GL_rd (wn_none rfl) rfl (rd_len rfl rfl Try.underlying33) ?_
  refine GL_rd (v := .int _ _) (wn_none rfl) rfl (rd_move rfl rfl) ?_
  refine GL_nil ?_
  refine GW_block ?_
  refine GW_loop ?_
  refine Lp_ind (α := Nat) (fun a_0 f_0 w' => match a_0 with | k => ∃ fz, f_0 = (upd (upd (upd (upd (upd fz 5 (.int .u64 (hvK a.1 k : Int))) 10 (.slice (some ⟨g, 0, none⟩) 6 32)) 11 (.int .i64 6)) 12 (.int .i64 (k : Int))) 1 (.int .i64 n)) ∧ Hp w0 [] w' [cells g 66 (bys a.1)] ∧ (k ≤ 6)) (fun a_0 => match a_0 with | k => 6 - k) ?_ 0 _ _ ?_
  ·rintro k f wz ⟨fz, rfl, hp, hk0⟩ ihL0
   refine Lp_round ?_
   refine GW_seq ?_
   refine GW_region ?_
   refine GL_rd (wn_none rfl) rfl (rd_bin rfl rfl rfl bo_lss) ?_
   refine GL_nil ?_
   refine GW_seq ?_
   refine GW_cond rfl (fun hb2 => ?_) (fun hb2 => ?_)
   ·(try simp only [decide_eq_true_eq, decide_eq_false_iff_not, Bool.not_eq_true', Bool.not_eq_false', Bool.not_eq_eq_eq_not, Bool.not_true, Bool.not_false, Int.not_lt, Int.not_le] at hb2)
    refine GW_skip ?_
    refine GW_seq ?_
    refine GW_block ?_
    refine GW_seq ?_
    refine GW_region ?_
    refine GL_rd (wn_none rfl) rfl (rd_indexS (j := k) rfl rfl rfl Try.underlying33 ts5 rfl (by omega) _ rfl) ?_
    refine GL_rd (wn_none rfl) rfl (rd_load rfl rfl Try.underlying5 rfl ((cell_of_cells (hp.get 0 rfl) _).trans (by show (bys a.1)[_]? = _; rw [show 0 + k * 1 = k by omega]; exact bys_getD a.1 k (by rw [a.2]; omega)))) ?_
    refine GL_rd (v := .int _ _) (wn_none rfl) rfl (rd_assign rfl rfl) ?_
    refine GL_nil ?_
    refine GW_region ?_
    refine GL_rd (v := .int _ _) (wn_none rfl) rfl (rd_move rfl rfl) ?_
    refine GL_rd (wn_none rfl) rfl (rd_bin rfl rfl rfl (bo_shl (by decide))) ?_
    refine GL_rd (v := .int _ _) (wn_none rfl) rfl (rd_move rfl rfl) ?_
    refine GL_rd (wn_none rfl) rfl (rd_conv8 .u64 rfl rfl Try.underlying149 Try.underlying5 (by simp)) ?_
    refine GL_rd (wn_none rfl) rfl (rd_bin rfl rfl rfl (hv_or (by omega) (by rw [a.2]; omega))) ?_
    refine GL_rd (v := .int _ _) (wn_none rfl) rfl (rd_assign rfl rfl) ?_
    refine GL_nil ?_
    refine GW_region ?_
    refine GL_rd (wn_none rfl) rfl (rd_bin rfl rfl rfl (bo_add64 (by omega))) ?_
    refine GL_rd (v := .int _ _) (wn_none rfl) rfl (rd_move rfl rfl) ?_
    refine GL_nil ?_
    have hp := ((hp.front 0 rfl).take 1)
    exact ihL0 (k + 1) _ _ (by simp only []; omega) ⟨_, slots5 rfl rfl rfl rfl rfl, hp, by omega⟩
   ·(try simp only [decide_eq_true_eq, decide_eq_false_iff_not, Bool.not_eq_true', Bool.not_eq_false', Bool.not_eq_eq_eq_not, Bool.not_true, Bool.not_false, Int.not_lt, Int.not_le] at hb2)
    obtain rfl : k = 6 := by omega
    have hlt := hvK_lt a.1 6
    have hmo := Int.emod_nonneg (hvK a.1 6 : Int) (b := n) (by omega)
    have hml := Int.emod_lt_of_pos (hvK a.1 6 : Int) (b := n) (by omega)
    refine GW_exit ?_
    refine GW_seq ?_
    refine GW_region ?_
    refine GL_rd (v := .int _ _) (wn_none rfl) rfl (rd_move rfl rfl) ?_
    refine GL_rd (v := .int _ _) (wn_none rfl) rfl (rd_move rfl rfl) ?_
    refine GL_rd (wn_none rfl) rfl (rd_convE (q := n) rfl rfl Try.underlying149 Try.underlying3 (by simp) (IntWalk.u64_in _ (by omega))) ?_
    refine GL_rd (wn_none rfl) rfl (rd_bin rfl rfl rfl (bo_rem64 (by omega) (by omega))) ?_
    refine GL_rd (wn_none rfl) rfl (rd_convE (q := (hvK a.1 6 : Int) % n) rfl rfl Try.underlying3 Try.underlying149 (by simp) (IntWalk.i64_in _ (by omega))) ?_
    refine GL_rd (v := .int _ _) (wn_none rfl) rfl (rd_assign rfl rfl) ?_
    refine GL_nil ?_
    refine GW_ret ?_
    exact ⟨_, res1 Try.results140 (rv_tmp (v := .int _ _) rfl rfl), by rw [e], hp.mods⟩
  ·refine ⟨_, slots5 rfl rfl rfl rfl rfl, hp, Nat.zero_le _⟩
theorem tb_find0 (tg : Nat) (ev : Value) (n : Int) (e : List En) (a : A32) (w0 : World) (hT : (cells tg 174 [ev, .int .i64 n]).at_ w0) (hE : Sl w0 ev 34 e.length (e.flatMap enC)) (hz : ∀ x ∈ e, x.count = 0) (h1 : 1 ≤ e.length) : Does Try.prog 114 #[.pointer (some ⟨tg, 0, none⟩), .agg ⟨bys a.1⟩] w0 fun v w' => v = .int .i64 (-1) ∧ Hp w0 [] w' [] := by
 obtain ⟨A, c, rfl⟩ := sl_shape hE
 have hele := hE.le
 obtain ⟨gA, bA, rfl⟩ := hE.addr (by rw [flat_length enC_len]; omega)
 obtain ⟨h0, hh0, hh1⟩ := home_in a h1
 have hc0 : (enAt e h0).count = 0 := hz _ (List.mem_of_getElem? (enAt_some hh1))
 refine does_of (l := [.pointer (some ⟨tg, 0, none⟩), .agg ⟨bys a.1⟩]) Try.func114 (by kernel_rfl) rfl Try.ntmps114 rfl rfl (by kernel_rfl) ?_
 have hp := Hp.refl w0 []
 refine GW_seq ?_
 refine GW_region ?_
 refine GL_box (wn_none rfl) rfl rfl rfl rfl hp ?_
 intro g w hp
 refine GL_rd (v := .int _ _) (wn_none rfl) rfl (rd_assign rfl rfl) ?_
 refine GL_nil ?_
 refine GW_seq ?_
 refine GW_drawnK 8 (.one 0 true (.one 1 true (.one 2 true (.one 3 true (.one 4 true (.one 5 true (.one 6 false (.one 7 true .nil)))))))) mixed (by kernel_rfl) hp (fun _ h => h) fun w hp => ?_
 have hpS := hp
 refine GO_rd rfl rfl (wn_none rfl) rfl hpS (fun w hp => (rd_loadC rfl rfl Try.underlying66 rfl ts66 (hp.get 0 rfl) (by first | (rw [bys_length]; first | exact a32_len _) | rfl | simp [bys_length, *]))) ?_
 refine GO_rdT (v := .pointer (some ⟨tg, 0, none⟩)) rfl (wn_none rfl) rfl (fun w => (rd_move rfl rfl)) ?_
 refine GO_rdT rfl (wn_none rfl) rfl (fun w => (rd_nilCheck rfl rfl)) ?_
 refine GO_rdT rfl (wn_none rfl) rfl (fun w => (rd_field rfl rfl fa174_0 _ rfl)) ?_
 refine GO_rd (v := .slice _ _ _) rfl rfl (wn_none rfl) rfl hpS (fun w hp => (rd_load rfl rfl Try.underlying172 rfl ((cell_of_cells (cells.keep hT hp.mod) _).trans rfl))) ?_
 refine GO_rd rfl rfl (wn_none rfl) rfl hpS (fun w hp => (rd_len rfl rfl Try.underlying172)) ?_
 refine GO_of_GL rfl ?_
 refine GL_call (wn_none rfl) rfl rfl (dig_Home a (e.length : Int) _ (by omega)) rfl ?_
 rintro _ w ⟨rfl, hk⟩
 have hp := hp.comp hk
 have hpS2 := hp
 refine GL_nil ⟨fun _ => hpS2, ?_⟩
 refine GO_rdT (v := .int .i64 (homeN a (e.length : Int))) rfl (wn_none rfl) rfl (fun w => (rd_assign rfl rfl)) ?_
 refine GO_nil ?_
 refine GW_seq ?_
 refine GW_seq ?_
 refine GW_region ?_
 refine GL_rd (v := .pointer (some ⟨tg, 0, none⟩)) (wn_none rfl) rfl (rd_move rfl rfl) ?_
 refine GL_rd (wn_none rfl) rfl (rd_nilCheck rfl rfl) ?_
 refine GL_rd (wn_none rfl) rfl (rd_field rfl rfl fa174_0 _ rfl) ?_
 refine GL_rd (v := .slice _ _ _) (wn_none rfl) rfl (rd_load rfl rfl Try.underlying172 rfl ((cell_of_cells (cells.keep hT hp.mod) _).trans rfl)) ?_
 refine GL_rd (wn_none rfl) rfl (rd_len rfl rfl Try.underlying172) ?_
 refine GL_rd (v := .int _ _) (wn_none rfl) rfl (rd_move rfl rfl) ?_
 refine GL_nil ?_
 refine GW_block ?_
 refine GW_loop ?_
 refine Lp_ind (α := Nat) (fun a_0 f_0 w' => match a_0 with | k => ∃ fz, f_0 = (upd (upd (upd (upd (upd fz 5 (.int .i64 (homeN a (e.length : Int)))) 19 (.int .i64 (e.length : Int))) 20 (.int .i64 0)) 0 (.pointer (some ⟨tg, 0, none⟩))) 3 (.pointer (some ⟨g, 0, none⟩))) ∧ Hp w0 [] w' [cells g 66 (bys a.1)]) (fun a_0 => match a_0 with | k => 0) ?_ 0 _ _ ?_
 ·rintro k f wz ⟨fz, rfl, hp⟩ ihL0
  refine Lp_round ?_
  refine GW_seq ?_
  refine GW_region ?_
  refine GL_rd (wn_none rfl) rfl (rd_bin rfl rfl rfl bo_lss) ?_
  refine GL_nil ?_
  refine GW_seq ?_
  refine GW_cond rfl (fun hb => ?_) (fun hb => ?_)
  ·(try simp only [decide_eq_true_eq, decide_eq_false_iff_not, Bool.not_eq_true', Bool.not_eq_false', Bool.not_eq_eq_eq_not, Bool.not_true, Bool.not_false, Int.not_lt, Int.not_le] at hb)
   refine GW_skip ?_
   refine GW_seq ?_
   refine GW_block ?_
   refine GW_seq ?_
   refine GW_region ?_
   refine GL_rd (v := .int _ _) (wn_none rfl) rfl (rd_move rfl rfl) ?_
   refine GL_rd (v := .int _ _) (wn_none rfl) rfl (rd_assign rfl rfl) ?_
   refine GL_nil ?_
   refine GW_seq ?_
   refine GW_seq ?_
   refine GW_region ?_
   refine GL_rd (v := .pointer (some ⟨tg, 0, none⟩)) (wn_none rfl) rfl (rd_move rfl rfl) ?_
   refine GL_rd (wn_none rfl) rfl (rd_nilCheck rfl rfl) ?_
   refine GL_rd (wn_none rfl) rfl (rd_field rfl rfl fa174_0 _ rfl) ?_
   refine GL_rd (v := .slice _ _ _) (wn_none rfl) rfl (rd_load rfl rfl Try.underlying172 rfl ((cell_of_cells (cells.keep hT hp.mod) _).trans rfl)) ?_
   refine GL_rd (v := .int _ _) (wn_none rfl) rfl (rd_move rfl rfl) ?_
   refine GL_rd (wn_none rfl) rfl (rd_indexS (j := h0) rfl rfl rfl Try.underlying172 ts164 hh0 (by omega) _ rfl) ?_
   refine GL_rd (wn_none rfl) rfl (rd_loadN (L := enC _) rfl rfl Try.underlying164 rfl ts164 (enC_len _) (fun jq u hj => Sl.enE (hE.keep hp.mod) h0 (by first | omega | assumption | exact Nat.lt_succ_self _) hj)) ?_
   refine GL_alloc (wn_none rfl) rfl rfl tz164 rfl hp ?_
   intro g2 w hp
   refine GL_store (i := 0) (wn_none rfl) rfl rfl rfl rfl ts164 rfl (enC_len _) (enC_one _) hp rfl (by first | exact Nat.le_of_ble_eq_true rfl | (rw [enC_len]; decide)) (splice_all _ _ (by first | rw [enC_len, enC_len] | (rw [enC_len]; rfl))) ?_
   intro w hp
   refine GL_nil ?_
   refine GW_block ?_
   refine GW_seq ?_
   refine GW_region ?_
   refine GL_rd (wn_none rfl) rfl (rd_field rfl rfl fa164_2 _ rfl) ?_
   refine GL_rd (wn_none rfl) rfl (rd_load rfl rfl Try.underlying3 rfl ((cell_of_cells (hp.get 0 rfl) _).trans (en_count _))) ?_
   refine GL_rd (wn_none rfl) rfl (rd_bin rfl rfl rfl (bo_boolE (q := true) bo_eql (by rw [hc0]; rfl))) ?_
   refine GL_rd (v := .bool _) (wn_none rfl) rfl (rd_assign rfl rfl) ?_
   refine GL_nil ?_
   refine GW_true rfl ?_
   refine GW_seq ?_
   refine GW_region ?_
   refine GL_rd (v := .int _ _) (wn_none rfl) rfl (rd_assign rfl rfl) ?_
   refine GL_nil ?_
   refine GW_ret ?_
   exact ⟨_, res1 Try.results114 (rv_tmp (v := .int _ _) rfl rfl), rfl, hp.mods⟩
  ·(try simp only [decide_eq_true_eq, decide_eq_false_iff_not, Bool.not_eq_true', Bool.not_eq_false', Bool.not_eq_eq_eq_not, Bool.not_true, Bool.not_false, Int.not_lt, Int.not_le] at hb)
   exact absurd hb (by omega)
 ·refine ⟨_, slots5 rfl rfl rfl rfl rfl, hp⟩
theorem tb_Get0 (tg : Nat) (ev : Value) (n : Int) (e : List En) (a : A32) (w0 : World) (hT : (cells tg 174 [ev, .int .i64 n]).at_ w0) (hE : Sl w0 ev 34 e.length (e.flatMap enC)) (hz : ∀ x ∈ e, x.count = 0) (h1 : 1 ≤ e.length) : Does Try.prog 78 #[.pointer (some ⟨tg, 0, none⟩), .agg ⟨bys a.1⟩] w0 fun v w' => v = .tuple #[.agg ⟨enC enZ⟩, .bool false] ∧ Hp w0 [] w' [] := by
 refine does_of (l := [.pointer (some ⟨tg, 0, none⟩), .agg ⟨bys a.1⟩]) Try.func78 (by kernel_rfl) rfl Try.ntmps78 rfl rfl (by kernel_rfl) ?_
 have hp := Hp.refl w0 []
 refine GW_seq ?_
 refine GW_region ?_
 refine GL_box (wn_none rfl) rfl rfl rfl rfl hp ?_
 intro g w hp
 refine GL_alloc (wn_none rfl) rfl rfl tz164 rfl hp ?_
 intro g2 w hp
 refine GL_rd (v := .bool _) (wn_none rfl) rfl (rd_assign rfl rfl) ?_
 refine GL_nil ?_
 refine GW_seq ?_
 refine GW_region ?_
 refine GL_rd (v := .pointer (some ⟨tg, 0, none⟩)) (wn_none rfl) rfl (rd_move rfl rfl) ?_
 refine GL_rd (wn_none rfl) rfl (rd_loadC rfl rfl Try.underlying66 rfl ts66 (hp.get 1 rfl) (by first | (rw [bys_length]; first | exact a32_len _) | rfl | simp [bys_length, *])) ?_
 refine GL_call (wn_none rfl) rfl rfl (tb_find0 tg ev n e a _ (cells.keep hT hp.mod) (hE.keep hp.mod) hz h1) rfl ?_
 rintro _ w ⟨rfl, hk⟩
 have hp := hp.comp hk
 refine GL_rd (v := .int .i64 (-1)) (wn_none rfl) rfl (rd_assign rfl rfl) ?_
 refine GL_nil ?_
 refine GW_seq ?_
 refine GW_seq ?_
 refine GW_region ?_
 refine GL_rd (v := .int .i64 (-1)) (wn_none rfl) rfl (rd_move rfl rfl) ?_
 refine GL_rd (wn_none rfl) rfl (rd_bin rfl rfl rfl (bo_boolE (q := true) bo_lss (by decide))) ?_
 refine GL_nil ?_
 refine GW_true rfl ?_
 refine GW_seq ?_
 refine GW_region ?_
 refine GL_rd (wn_none rfl) rfl (rd_buildS (L := (enC enZ)) rfl tz164 pl164 (by kernel_rfl)) ?_
 refine GL_store (i := 0) (wn_none rfl) rfl rfl rfl rfl ts164 rfl (enC_len _) (enC_one _) hp rfl (by first | exact Nat.le_of_ble_eq_true rfl | (rw [enC_len]; decide)) (splice_all _ _ (by first | rw [enC_len, enC_len] | (rw [enC_len]; rfl))) ?_
 intro w hp
 refine GL_rd (v := .bool _) (wn_none rfl) rfl (rd_assign rfl rfl) ?_
 refine GL_nil ?_
 refine GW_ret ?_
 exact ⟨_, res2 Try.results78 (rv_cell rfl rfl Try.underlying164 rfl ts164 rfl (hp.get 0 rfl)) (rv_tmp (v := .bool _) rfl rfl), rfl, hp.mods⟩
end Go.Proofs.Ytpagpmioopaciaa
