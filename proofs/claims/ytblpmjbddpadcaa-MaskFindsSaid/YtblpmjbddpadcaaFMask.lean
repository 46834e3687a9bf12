/- Walks of functions of the program. -/
import Derived.Test.YtblpmjbddpadcaaFPlan
set_option linter.unusedVariables false
set_option linter.unusedSimpArgs false
namespace Go.Proofs.Ytblpmjbddpadcaa
open Go.Mo Go.RowKit
theorem mask_Ranges (w0 : World) : Does Try.prog 85 #[] w0 fun v w' => Hp w0 [] w' [.row 120 2 v 2 ([((59 : Int), (155 : Int)), (252, 256)].flatMap prC)] := by
 refine does_of (l := []) Try.func85 (by kernel_rfl) rfl Try.ntmps85 rfl rfl ?_
 have hp := Hp.refl w0 []
 refine GW_seq ?_
 refine GW_region ?_
 refine GL_rd (v := .slice _ _ _) (wn_none rfl) rfl (rd_assign rfl rfl) ?_
 refine GL_nil ?_
 refine GW_seq ?_
 refine GW_region ?_
 refine GL_rd (wn_none rfl) rfl (rd_buildS (L := [.int .i64 59, .int .i64 155]) rfl tz120 pl120 (by kernel_rfl)) ?_
 refine GL_rd (wn_none rfl) rfl (rd_buildS (L := [.int .i64 252, .int .i64 256]) rfl tz120 pl120 (by kernel_rfl)) ?_
 refine GL_lit (L := ([((59 : Int), (155 : Int)), (252, 256)].flatMap prC)) (wn_none rfl) rfl rfl Try.underlying117 ts120 tz120 rfl (by kernel_rfl) rfl rfl hp ?_
 intro g w hp
 refine GL_rd (v := .slice _ _ _) (wn_none rfl) rfl (rd_assign rfl rfl) ?_
 refine GL_nil ?_
 refine GW_ret ?_
 exact ⟨_, res1 Try.results85 (rv_tmp (v := .slice _ _ _) rfl rfl), hp⟩

theorem mask_hide (rv : Value) (x : List UInt8) (w0 : World) (hx : x.length = 256) (hR : Sl w0 rv 2 2 ([((59 : Int), (155 : Int)), (252, 256)].flatMap prC)) : Does Try.prog 90 #[.agg ⟨bys x⟩, rv] w0 fun v w' => v = .agg ⟨bys (hidK 256 x)⟩ ∧ Hp w0 [] w' [] := by
 obtain ⟨A, c, rfl⟩ := sl_shape hR
 obtain ⟨gR, bR, rfl⟩ := hR.addr (by decide)
 refine does_of (l := [.agg ⟨bys x⟩, .slice (some ⟨gR, bR, none⟩) 2 c]) Try.func90 (by kernel_rfl) rfl Try.ntmps90 rfl rfl ?_
 have hp := Hp.refl w0 []
 refine GW_seq ?_
 refine GW_region ?_
 refine GL_box (wn_none rfl) rfl rfl rfl rfl hp ?_
 intro g w hp
 refine GL_alloc (wn_none rfl) rfl rfl tz44 rfl hp ?_
 intro g2 w hp
 refine GL_nil ?_
 refine GW_seq ?_
 refine GW_seq ?_
 refine GW_region ?_
 refine GL_rd (v := .slice _ _ _) (wn_none rfl) rfl (rd_move rfl rfl) ?_
 refine GL_rd (wn_none rfl) rfl (rd_len rfl rfl Try.underlying117) ?_
 refine GL_rd (v := .int _ _) (wn_none rfl) rfl (rd_move rfl rfl) ?_
 refine GL_nil ?_
 refine GW_block ?_
 refine GW_loop ?_
 refine Lp_ind (α := Nat × List UInt8) (fun a_0 f_0 w' => match a_0 with | (i, y) => ∃ fz, f_0 = (upd (upd (upd (upd (upd fz 2 (.pointer (some ⟨g, 0, none⟩))) 4 (.pointer (some ⟨g2, 0, none⟩))) 7 (.slice (some ⟨gR, bR, none⟩) 2 c)) 8 (.int .i64 2)) 9 (.int .i64 (i : Int))) ∧ Hp w0 [] w' [cells g2 44 (List.replicate 256 (.int .u8 0)), cells g 44 (bys y)] ∧ ((i = 0 ∧ x = y) ∨ (i = 1 ∧ hid1 x = y) ∨ (i = 2 ∧ hidK 256 x = y))) (fun a_0 => match a_0 with | (i, y) => 2 - i) ?_ (0, x) _ _ ?_
 ·rintro ⟨i, y⟩ f wz ⟨fz, rfl, hp, hy⟩ ihL0
  refine Lp_round ?_
  refine GW_seq ?_
  refine GW_region ?_
  refine GL_rd (wn_none rfl) rfl (rd_bin rfl rfl rfl bo_lss) ?_
  refine GL_nil ?_
  refine GW_seq ?_
  refine GW_cond rfl (fun hb => ?_) (fun hb => ?_)
  ·(try simp only [decide_eq_true_eq, decide_eq_false_iff_not, Bool.not_eq_true', Bool.not_eq_false', Bool.not_eq_eq_eq_not, Bool.not_true, Bool.not_false, Int.not_lt, Int.not_le] at hb)
   have hy2 : (i = 0 ∧ x = y) ∨ (i = 1 ∧ hid1 x = y) := by rcases hy with q | q | q; exact .inl q; exact .inr q; omega
   refine GW_skip ?_
   refine GW_seq ?_
   refine GW_block ?_
   refine GW_seq ?_
   rcases hy2 with ⟨rfl, rfl⟩ | ⟨rfl, rfl⟩
   ·
    refine GW_region ?_
    refine GL_rd (wn_none rfl) rfl (rd_indexS (j := 0) rfl rfl rfl Try.underlying117 ts120 rfl (by decide) _ rfl) ?_
    refine GL_rd (wn_none rfl) rfl (rd_loadN (L := _) rfl rfl Try.underlying120 rfl ts120 rfl (fun j u hj => (hR.keep hp.mod).elem prC_len 0 j (prC_lt hj) (show [((59 : Int), (155 : Int)), (252, 256)][0]? = some ((59 : Int), (155 : Int)) from rfl) hj)) ?_
    refine GL_alloc (wn_none rfl) rfl rfl tz120 rfl hp ?_
    intro g3 w hp
    refine GL_store (i := 0) (wn_none rfl) rfl rfl rfl rfl ts120 rfl rfl (prC_one _) hp rfl (by first | exact Nat.le_of_ble_eq_true rfl | simp [bys_length, *]) (show splice _ _ _ = ([.int .i64 59, .int .i64 155] : List Value) from rfl) ?_
    intro w hp
    refine GL_nil ?_
    refine GW_region ?_
    refine GL_rd (wn_none rfl) rfl (rd_field rfl rfl fa120_0 _ rfl) ?_
    refine GL_rd (wn_none rfl) rfl (rd_load rfl rfl Try.underlying3 rfl ((cell_of_cells (hp.get 0 rfl) _).trans rfl)) ?_
    refine GL_rd (wn_none rfl) rfl (rd_field rfl rfl fa120_1 _ rfl) ?_
    refine GL_rd (wn_none rfl) rfl (rd_load rfl rfl Try.underlying3 rfl ((cell_of_cells (hp.get 0 rfl) _).trans rfl)) ?_
    refine GL_rd (wn_none rfl) rfl (rd_sliceA (lo := 59) (hi := 155) rfl rfl Try.underlying44 ts5 (at_some rfl rfl) (at_some rfl rfl) (by decide) (by decide) (by decide) _ rfl) ?_
    refine GL_clear (i := 2) (wn_none rfl) rfl rfl rfl Try.underlying39 tz5 rfl rfl hp rfl (by decide) (by rw [bys_length, hx]; decide) (hid_first hx) ?_
    intro w hp
    refine GL_nil ?_
    refine GW_region ?_
    refine GL_rd (wn_none rfl) rfl (rd_bin rfl rfl rfl (bo_add64 (by omega))) ?_
    refine GL_rd (v := .int _ _) (wn_none rfl) rfl (rd_move rfl rfl) ?_
    refine GL_nil ?_
    have hp := (((hp.front 2 rfl).front 2 rfl).take 2)
    exact ihL0 (1, hid1 x) _ _ (by simp only []; omega) ⟨_, slots5 rfl rfl rfl rfl rfl, hp, .inr (.inl ⟨rfl, rfl⟩)⟩
   ·
    refine GW_region ?_
    refine GL_rd (wn_none rfl) rfl (rd_indexS (j := 1) rfl rfl rfl Try.underlying117 ts120 rfl (by decide) _ rfl) ?_
    refine GL_rd (wn_none rfl) rfl (rd_loadN (L := _) rfl rfl Try.underlying120 rfl ts120 rfl (fun j u hj => (hR.keep hp.mod).elem prC_len 1 j (prC_lt hj) (show [((59 : Int), (155 : Int)), (252, 256)][1]? = some ((252 : Int), (256 : Int)) from rfl) hj)) ?_
    refine GL_alloc (wn_none rfl) rfl rfl tz120 rfl hp ?_
    intro g4 w hp
    refine GL_store (i := 0) (wn_none rfl) rfl rfl rfl rfl ts120 rfl rfl (prC_one _) hp rfl (by first | exact Nat.le_of_ble_eq_true rfl | simp [bys_length, *]) (show splice _ _ _ = ([.int .i64 252, .int .i64 256] : List Value) from rfl) ?_
    intro w hp
    refine GL_nil ?_
    refine GW_region ?_
    refine GL_rd (wn_none rfl) rfl (rd_field rfl rfl fa120_0 _ rfl) ?_
    refine GL_rd (wn_none rfl) rfl (rd_load rfl rfl Try.underlying3 rfl ((cell_of_cells (hp.get 0 rfl) _).trans rfl)) ?_
    refine GL_rd (wn_none rfl) rfl (rd_field rfl rfl fa120_1 _ rfl) ?_
    refine GL_rd (wn_none rfl) rfl (rd_load rfl rfl Try.underlying3 rfl ((cell_of_cells (hp.get 0 rfl) _).trans rfl)) ?_
    refine GL_rd (wn_none rfl) rfl (rd_sliceA (lo := 252) (hi := 256) rfl rfl Try.underlying44 ts5 (at_some rfl rfl) (at_some rfl rfl) (by decide) (by decide) (by decide) _ rfl) ?_
    refine GL_clear (i := 2) (wn_none rfl) rfl rfl rfl Try.underlying39 tz5 rfl rfl hp rfl (by decide) (by rw [bys_length, hid1_length, hx]; decide) (hid_second hx) ?_
    intro w hp
    refine GL_nil ?_
    refine GW_region ?_
    refine GL_rd (wn_none rfl) rfl (rd_bin rfl rfl rfl (bo_add64 (by omega))) ?_
    refine GL_rd (v := .int _ _) (wn_none rfl) rfl (rd_move rfl rfl) ?_
    refine GL_nil ?_
    have hp := (((hp.front 2 rfl).front 2 rfl).take 2)
    exact ihL0 (2, hidK 256 x) _ _ (by simp only []; omega) ⟨_, slots5 rfl rfl rfl rfl rfl, hp, .inr (.inr ⟨rfl, rfl⟩)⟩
  ·(try simp only [decide_eq_true_eq, decide_eq_false_iff_not, Bool.not_eq_true', Bool.not_eq_false', Bool.not_eq_eq_eq_not, Bool.not_true, Bool.not_false, Int.not_lt, Int.not_le] at hb)
   obtain rfl : hidK 256 x = y := by rcases hy with q | q | q; omega; omega; exact q.2
   refine GW_exit ?_
   refine GW_seq ?_
   refine GW_region ?_
   refine GL_rd (wn_none rfl) rfl (rd_loadC rfl rfl Try.underlying44 rfl ts44 (hp.get 1 rfl) (by rw [bys_length, hidK_length, hx])) ?_
   refine GL_store (i := 0) (wn_none rfl) rfl rfl rfl rfl ts44 rfl (by rw [bys_length, hidK_length, hx]) (bys_one _) hp rfl (by rw [List.length_replicate]; decide) (splice_all _ _ (by rw [bys_length, hidK_length, hx, List.length_replicate])) ?_
   intro w hp
   refine GL_nil ?_
   refine GW_ret ?_
   exact ⟨_, res1 Try.results90 (rv_cell rfl rfl Try.underlying44 rfl ts44 (by rw [bys_length, hidK_length, hx]) (hp.get 0 rfl)), rfl, hp.mods⟩
 ·refine ⟨_, slots5 rfl rfl rfl rfl rfl, hp, .inl ⟨rfl, rfl⟩⟩

theorem mask_Apply1 (p : Pl) (gl i : Nat) (x : Sec) (w0 : World) (hL : (cells gl 28 (layC p)).at_ w0) : Does Try.prog 88 #[.int .i64 (i : Int), .agg ⟨seC x⟩, .pointer (some ⟨gl, 0, none⟩)] w0 fun v w' => v = .agg ⟨seC (mskA p i x)⟩ ∧ Hp w0 [] w' [] := by
 refine does_of (l := [.int .i64 (i : Int), .agg ⟨seC x⟩, .pointer (some ⟨gl, 0, none⟩)]) Try.func88 (by kernel_rfl) rfl Try.ntmps88 rfl rfl ?_
 have hp := Hp.refl w0 []
 refine GW_seq ?_
 refine GW_region ?_
 refine GL_box (wn_none rfl) rfl rfl rfl rfl hp ?_
 intro g w hp
 refine GL_alloc (wn_none rfl) rfl rfl tz44 rfl hp ?_
 intro g2 w hp
 refine GL_nil ?_
 refine GW_seq ?_
 refine GW_seq ?_
 refine GW_region ?_
 refine GL_rd (wn_none rfl) rfl (rd_loadN (L := layC p) rfl rfl Try.underlying28 rfl ts28 rfl (fun j u hj => by rw [Nat.zero_add]; exact (cell_of_cells (cells.keep hL hp.mod) j).trans hj)) ?_
 refine GL_rd (v := .int _ _) (wn_none rfl) rfl (rd_move rfl rfl) ?_
 refine GL_call (wn_none rfl) rfl rfl (plan_Part p (i : Int) _) rfl ?_
 rintro _ w ⟨rfl, hk⟩
 have hp := hp.comp hk
 refine GL_rd (wn_none rfl) rfl (rd_bin rfl rfl rfl bo_seql) ?_
 refine GL_nil ?_
 refine GW_cond rfl (fun hb => ?_) (fun hb => ?_)
 ·(try simp only [decide_eq_true_eq, decide_eq_false_iff_not, Bool.not_eq_true', Bool.not_eq_false', Bool.not_eq_eq_eq_not, Bool.not_true, Bool.not_false, Int.not_lt, Int.not_le] at hb)
  have ha := hb
  refine GW_seq ?_
  refine GW_drawnK 3 (.one 0 true (.one 1 false (.one 2 false (.one 3 false .nil)))) mixed (by kernel_rfl) hp (fun _ h => h) fun w hp => ?_
  have hpS := hp
  refine GO_rd rfl rfl (wn_none rfl) rfl hpS (fun w hp => (rd_loadC rfl rfl Try.underlying44 rfl ts44 (hp.get 1 rfl) (seC_len _))) ?_
  refine GO_of_GL rfl ?_
  refine GL_call (wn_none rfl) rfl rfl (mask_Ranges _) rfl ?_
  intro vr w hk
  have hp := hp.comp hk
  have hpS2 := (hp.sub (.cons _ (.cons_cons _ (.cons_cons _ .slnil))))
  refine GL_nil ⟨fun _ => hpS2, ?_⟩
  refine GO_of_GL rfl ?_
  refine GL_call (wn_none rfl) rfl rfl (mask_hide _ x.1 _ x.2 (Sl.row (hp.get 0 rfl))) rfl ?_
  rintro _ w ⟨rfl, hk⟩
  have hp := hp.comp hk
  have hpS3 := (hp.sub (.cons _ (.cons_cons _ (.cons_cons _ .slnil))))
  refine GL_nil ⟨fun _ => hpS3, ?_⟩
  refine GO_of_GL rfl ?_
  refine GL_store (i := 1) (wn_none rfl) rfl rfl rfl rfl ts44 rfl (seC_len (hidS x)) (bys_one _) hp rfl (by rw [List.length_replicate]; decide) (splice_all _ _ (by rw [bys_length, hidK_length, x.2, List.length_replicate])) ?_
  intro w hp
  refine GL_nil ⟨fun h => absurd h (by decide), ?_⟩
  refine GO_nil ?_
  refine GW_ret ?_
  exact ⟨_, res1 Try.results88 (rv_cell rfl rfl Try.underlying44 rfl ts44 (by first | exact seC_len _ | exact seC_len (hidS x)) (hp.get 1 rfl)), by rw [mskA, if_pos ha] <;> rfl, hp.mods⟩
 ·(try simp only [decide_eq_true_eq, decide_eq_false_iff_not, Bool.not_eq_true', Bool.not_eq_false', Bool.not_eq_eq_eq_not, Bool.not_true, Bool.not_false, Int.not_lt, Int.not_le] at hb)
  have ha := hb
  refine GW_skip ?_
  refine GW_seq ?_
  refine GW_region ?_
  refine GL_rd (wn_none rfl) rfl (rd_loadC rfl rfl Try.underlying44 rfl ts44 (hp.get 1 rfl) (seC_len _)) ?_
  refine GL_store (i := 0) (wn_none rfl) rfl rfl rfl rfl ts44 rfl (seC_len _) (seC_one _) hp rfl (by rw [List.length_replicate]; decide) (splice_all _ _ (by rw [seC_len, List.length_replicate])) ?_
  intro w hp
  refine GL_nil ?_
  refine GW_ret ?_
  exact ⟨_, res1 Try.results88 (rv_cell rfl rfl Try.underlying44 rfl ts44 (by first | exact seC_len _ | exact seC_len (hidS x)) (hp.get 0 rfl)), by rw [mskA, if_neg ha] <;> rfl, hp.mods⟩

set_option maxRecDepth 100000 in
theorem mask_mapped (p : Pl) (gl : Nat) (sv : Value) (m : Nat) (l : List Sec) (w0 : World) (hL : (cells gl 28 (layC p)).at_ w0) (hI : Sl w0 sv 256 m (l.flatMap seC)) (hm : m ≤ 1000000) : Does Try.prog 87 #[sv, .func (.func 88) #[] #[.pointer (some ⟨gl, 0, none⟩)]] w0 fun v w' => Hp w0 [] w' [.row 44 256 v m ((imask p l).flatMap seC)] := by
 obtain ⟨A, c, rfl⟩ := sl_shape hI
 have hlen := flat_len seC_len (by decide) hI.len
 refine does_of (l := [.slice A m c, .func (.func 88) #[] #[.pointer (some ⟨gl, 0, none⟩)]]) Try.func87 (by kernel_rfl) rfl Try.ntmps87 rfl rfl ?_
 have hp := Hp.refl w0 []
 refine GW_seq ?_
 refine GW_region ?_
 refine GL_rd (v := .slice _ _ _) (wn_none rfl) rfl (rd_assign rfl rfl) ?_
 refine GL_nil ?_
 refine GW_seq ?_
 refine GW_region ?_
 refine GL_rd (v := .slice _ _ _) (wn_none rfl) rfl (rd_move rfl rfl) ?_
 refine GL_rd (wn_none rfl) rfl (rd_len rfl rfl Try.underlying24) ?_
 refine GL_makeC (m := m) (wn_none rfl) rfl rfl rfl rfl Try.underlying24 ti44 rfl rfl (by omega) (by omega) hp ?_
 intro v w hp
 refine GL_rd (v := v) (wn_none rfl) rfl (rd_assign rfl rfl) ?_
 refine GL_nil ?_
 refine GW_seq ?_
 refine GW_seq ?_
 refine GW_region ?_
 refine GL_rd (v := .slice _ _ _) (wn_none rfl) rfl (rd_move rfl rfl) ?_
 refine GL_rd (wn_none rfl) rfl (rd_len rfl rfl Try.underlying24) ?_
 refine GL_rd (v := .int _ _) (wn_none rfl) rfl (rd_move rfl rfl) ?_
 refine GL_nil ?_
 refine GW_block ?_
 refine GW_loop ?_
 refine Lp_ind (α := Nat × Value) (fun a_0 f_0 w' => match a_0 with | (i, v) => ∃ fz, f_0 = (upd (upd (upd (upd (upd fz 1 (.func (.func 88) #[] #[.pointer (some ⟨gl, 0, none⟩)])) 5 (v)) 11 (.slice A m c)) 12 (.int .i64 (m : Int))) 13 (.int .i64 (i : Int))) ∧ Hp w0 [] w' [.row 44 256 v i ((imask p (l.take i)).flatMap seC)] ∧ (i ≤ m)) (fun a_0 => match a_0 with | (i, v) => m - i) ?_ (0, v) _ _ ?_
 ·rintro ⟨i, v⟩ f wz ⟨fz, rfl, hp, hi0⟩ ihL0
  refine Lp_round ?_
  refine GW_seq ?_
  refine GW_region ?_
  refine GL_rd (wn_none rfl) rfl (rd_bin rfl rfl rfl bo_lss) ?_
  refine GL_nil ?_
  refine GW_seq ?_
  refine GW_cond rfl (fun hb => ?_) (fun hb => ?_)
  ·(try simp only [decide_eq_true_eq, decide_eq_false_iff_not, Bool.not_eq_true', Bool.not_eq_false', Bool.not_eq_eq_eq_not, Bool.not_true, Bool.not_false, Int.not_lt, Int.not_le] at hb)
   obtain ⟨gB, bB, rfl⟩ := hI.addr (by rw [flat_length seC_len]; omega)
   refine GW_skip ?_
   refine GW_seq ?_
   refine GW_block ?_
   refine GW_seq ?_
   refine GW_region ?_
   refine GL_rd (v := .int _ _) (wn_none rfl) rfl (rd_move rfl rfl) ?_
   refine GL_rd (wn_none rfl) rfl (rd_indexS (j := i) rfl rfl rfl Try.underlying24 ts44 rfl (by omega) _ rfl) ?_
   refine GL_rd (wn_none rfl) rfl (rd_loadN (L := seC (seAt l i)) rfl rfl Try.underlying44 rfl ts44 (seC_len _) (fun jq u hj => (hI.keep hp.mod).elem seC_len i jq (seC_lt hj) (seAt_some (by omega)) hj)) ?_
   refine GL_alloc (wn_none rfl) rfl rfl tz44 rfl hp ?_
   intro g2 w hp
   refine GL_rd (v := .int _ _) (wn_none rfl) rfl (rd_assign rfl rfl) ?_
   refine GL_store (i := 0) (wn_none rfl) rfl rfl rfl rfl ts44 rfl (seC_len _) (seC_one _) hp rfl (by rw [List.length_replicate]; decide) (splice_all _ _ (by rw [seC_len, List.length_replicate])) ?_
   intro w hp
   refine GL_nil ?_
   refine GW_region ?_
   refine GL_rd (v := v) (wn_none rfl) rfl (rd_move rfl rfl) ?_
   refine GL_rd (v := .func _ _ _) (wn_none rfl) rfl (rd_move rfl rfl) ?_
   refine GL_rd (v := .int _ _) (wn_none rfl) rfl (rd_move rfl rfl) ?_
   refine GL_rd (wn_none rfl) rfl (rd_loadC rfl rfl Try.underlying44 rfl ts44 (hp.get 0 rfl) (seC_len _)) ?_
   refine GL_callV (wn_none rfl) rfl rfl rfl (mask_Apply1 p gl i (seAt l i) _ (cells.keep hL hp.mod)) rfl ?_
   rintro _ w ⟨rfl, hk⟩
   have hp := hp.comp hk
   refine GL_lit1 (L := (seC (mskA p i (seAt l i)))) (wn_none rfl) rfl rfl rfl rfl Try.underlying24 ts44 tz44 (by kernel_rfl) (seC_len _) hp ?_
   intro g3 w hp
   refine GL_append (i := 2) (wn_none rfl) rfl rfl rfl rfl Try.underlying24 ti44 rfl (by decide) hp rfl (Sl.row (hp.get 0 rfl)) (seC_one _) (by omega) (by omega) ?_
   intro v2 w hp
   refine GL_rd (v := v2) (wn_none rfl) rfl (rd_assign rfl rfl) ?_
   refine GL_nil ?_
   refine GW_region ?_
   refine GL_rd (wn_none rfl) rfl (rd_bin rfl rfl rfl (bo_add64 (by omega))) ?_
   refine GL_rd (v := .int _ _) (wn_none rfl) rfl (rd_move rfl rfl) ?_
   refine GL_nil ?_
   have hp := ((hp.front 2 rfl).take 1)
   have hp : Hp w0 [] w [.row 44 256 v2 (i + 1) ((imask p (l.take (i + 1))).flatMap seC)] := by rw [imask_take (by omega), flat_snoc]; exact hp
   exact ihL0 (i + 1, v2) _ _ (by simp only []; omega) ⟨_, slots5 rfl rfl rfl rfl rfl, hp, by omega⟩
  ·(try simp only [decide_eq_true_eq, decide_eq_false_iff_not, Bool.not_eq_true', Bool.not_eq_false', Bool.not_eq_eq_eq_not, Bool.not_true, Bool.not_false, Int.not_lt, Int.not_le] at hb)
   refine GW_exit ?_
   refine GW_seq ?_
   refine GW_region ?_
   refine GL_rd (v := v) (wn_none rfl) rfl (rd_move rfl rfl) ?_
   refine GL_rd (v := v) (wn_none rfl) rfl (rd_assign rfl rfl) ?_
   refine GL_nil ?_
   refine GW_ret ?_
   obtain rfl : m = i := by omega
   rw [List.take_of_length_le (by omega)] at hp
   refine ⟨_, res1 Try.results87 (rv_tmp (v := v) rfl rfl), ?_⟩
   have hp := ((hp.front 0 rfl).take 1)
   exact hp
 ·refine ⟨_, slots5 rfl rfl rfl rfl rfl, hp, Nat.zero_le _⟩

theorem mask_Apply (p : Pl) (sv : Value) (m : Nat) (l : List Sec) (w0 : World) (hI : Sl w0 sv 256 m (l.flatMap seC)) (hm : m ≤ 1000000) : Does Try.prog 21 #[.agg ⟨layC p⟩, sv] w0 fun v w' => Hp w0 [] w' [.row 44 256 v m ((imask p l).flatMap seC)] := by
 refine does_of (l := [.agg ⟨layC p⟩, sv]) Try.func21 (by kernel_rfl) rfl Try.ntmps21 rfl rfl ?_
 have hp := Hp.refl w0 []
 refine GW_seq ?_
 refine GW_region ?_
 refine GL_box (wn_none rfl) rfl rfl rfl rfl hp ?_
 intro g w hp
 refine GL_rd (v := .slice _ _ _) (wn_none rfl) rfl (rd_assign rfl rfl) ?_
 refine GL_nil ?_
 refine GW_seq ?_
 refine GW_region ?_
 refine GL_rd (v := sv) (wn_none rfl) rfl (rd_move rfl rfl) ?_
 refine GL_rd (wn_none rfl) rfl (rd_closure (caps := #[.pointer (some ⟨g, 0, none⟩)]) rfl rfl) ?_
 refine GL_call (wn_none rfl) rfl rfl (mask_mapped p g sv m l _ (hp.get 0 rfl) (hI.keep hp.mod) hm) rfl ?_
 intro vr w hk
 have hp := hp.comp hk
 refine GL_rd (v := vr) (wn_none rfl) rfl (rd_assign rfl rfl) ?_
 refine GL_nil ?_
 refine GW_ret ?_
 refine ⟨_, res1 Try.results21 (rv_tmp (v := vr) rfl rfl), ?_⟩
 have hp := ((hp.front 0 rfl).take 1)
 exact hp

theorem ref_Masked (i : Nat) (w0 : World) : Does Try.prog 91 #[.int .i64 (i : Int)] w0 fun v w' => v = .bool (maskB i) ∧ Hp w0 [] w' [] := by
 refine does_of (l := [.int .i64 (i : Int)]) Try.func91 (by kernel_rfl) rfl Try.ntmps91 rfl rfl ?_
 have hp := Hp.refl w0 []
 refine GW_seq ?_
 refine GW_region ?_
 refine GL_rd (v := .bool _) (wn_none rfl) rfl (rd_assign rfl rfl) ?_
 refine GL_nil ?_
 refine GW_seq ?_
 refine GW_region ?_
 refine GL_rd (v := .int _ _) (wn_none rfl) rfl (rd_move rfl rfl) ?_
 refine GL_rd (wn_none rfl) rfl (rd_bin rfl rfl rfl bo_geq) ?_
 refine GL_rd (v := .bool _) (wn_none rfl) rfl (rd_move rfl rfl) ?_
 refine GL_split (t := 5) (b := _) rfl ?_ ?_
 ·intro hb; (try simp only [decide_eq_true_eq, decide_eq_false_iff_not, Bool.not_eq_true', Bool.not_eq_false', Bool.not_eq_eq_eq_not, Bool.not_true, Bool.not_false, Int.not_lt, Int.not_le] at hb)
  have h1 := hb
  refine GL_rd (v := .int _ _) (wn_on rfl rfl rfl rfl) rfl (rd_move rfl rfl) ?_
  refine GL_rd (wn_on rfl rfl rfl rfl) rfl (rd_bin rfl rfl rfl bo_lss) ?_
  refine GL_rd (v := .bool _) (wn_none rfl) rfl (rd_pickT rfl rfl rfl) ?_
  refine GL_rd (v := .bool _) (wn_none rfl) rfl (rd_move rfl rfl) ?_
  refine GL_split (t := 9) (b := _) rfl ?_ ?_
  ·intro hb2; (try simp only [decide_eq_true_eq, decide_eq_false_iff_not, Bool.not_eq_true', Bool.not_eq_false', Bool.not_eq_eq_eq_not, Bool.not_true, Bool.not_false, Int.not_lt, Int.not_le] at hb2)
   have h2 := hb2
   refine GL_pass (nw_off rfl rfl rfl rfl rfl) rfl ?_
   refine GL_pass (nw_off rfl rfl rfl rfl rfl) rfl ?_
   refine GL_rd (v := .bool _) (wn_none rfl) rfl (rd_pickT rfl rfl rfl) ?_
   refine GL_rd (v := .bool _) (wn_none rfl) rfl (rd_assign rfl rfl) ?_
   refine GL_nil ?_
   refine GW_ret ?_
   have e : maskB i = true := by unfold maskB; rw [decide_eq_true_eq]; omega
   exact ⟨_, res1 Try.results91 (rv_tmp (v := .bool _) rfl rfl), by rw [e], hp⟩
  ·intro hb2; (try simp only [decide_eq_true_eq, decide_eq_false_iff_not, Bool.not_eq_true', Bool.not_eq_false', Bool.not_eq_eq_eq_not, Bool.not_true, Bool.not_false, Int.not_lt, Int.not_le] at hb2)
   have h2 := hb2
   refine GL_rd (v := .int _ _) (wn_on rfl rfl rfl rfl) rfl (rd_move rfl rfl) ?_
   refine GL_rd (wn_on rfl rfl rfl rfl) rfl (rd_bin rfl rfl rfl bo_geq) ?_
   refine GL_rd (v := .bool _) (wn_none rfl) rfl (rd_pickF rfl rfl rfl) ?_
   refine GL_rd (v := .bool _) (wn_none rfl) rfl (rd_assign rfl rfl) ?_
   refine GL_nil ?_
   refine GW_ret ?_
   have e : maskB i = decide (252 ≤ (i : Int)) := by unfold maskB; rw [decide_eq_decide]; omega
   exact ⟨_, res1 Try.results91 (rv_tmp (v := .bool _) rfl rfl), by rw [e], hp⟩
 ·intro hb; (try simp only [decide_eq_true_eq, decide_eq_false_iff_not, Bool.not_eq_true', Bool.not_eq_false', Bool.not_eq_eq_eq_not, Bool.not_true, Bool.not_false, Int.not_lt, Int.not_le] at hb)
  have h1 := hb
  refine GL_pass (nw_off rfl rfl rfl rfl rfl) rfl ?_
  refine GL_pass (nw_off rfl rfl rfl rfl rfl) rfl ?_
  refine GL_rd (v := .bool _) (wn_none rfl) rfl (rd_pickF rfl rfl rfl) ?_
  refine GL_rd (v := .bool _) (wn_none rfl) rfl (rd_move rfl rfl) ?_
  refine GL_rd (v := .int _ _) (wn_on rfl rfl rfl rfl) rfl (rd_move rfl rfl) ?_
  refine GL_rd (wn_on rfl rfl rfl rfl) rfl (rd_bin rfl rfl rfl bo_geq) ?_
  refine GL_rd (v := .bool _) (wn_none rfl) rfl (rd_pickF rfl rfl rfl) ?_
  refine GL_rd (v := .bool _) (wn_none rfl) rfl (rd_assign rfl rfl) ?_
  refine GL_nil ?_
  refine GW_ret ?_
  have e : maskB i = decide (252 ≤ (i : Int)) := by unfold maskB; rw [decide_eq_decide]; omega
  exact ⟨_, res1 Try.results91 (rv_tmp (v := .bool _) rfl rfl), by rw [e], hp⟩

set_option maxRecDepth 100000 in
theorem ref_mApply (p : Pl) (sv : Value) (m : Nat) (l : List Sec) (w0 : World) (hpl : planB p = true) (hI : Sl w0 sv 256 m (l.flatMap seC)) (hm : m ≤ 1000000) : Does Try.prog 22 #[.agg ⟨plC p⟩, sv] w0 fun v w' => Hp w0 [] w' [.row 44 256 v m ((imask p l).flatMap seC)] := by
 obtain ⟨A, c, rfl⟩ := sl_shape hI
 have hlen := flat_len seC_len (by decide) hI.len
 refine does_of (l := [.agg ⟨plC p⟩, .slice A m c]) Try.func22 (by kernel_rfl) rfl Try.ntmps22 rfl rfl ?_
 have hp := Hp.refl w0 []
 refine GW_seq ?_
 refine GW_region ?_
 refine GL_box (wn_none rfl) rfl rfl rfl rfl hp ?_
 intro g w hp
 refine GL_rd (v := .slice _ _ _) (wn_none rfl) rfl (rd_assign rfl rfl) ?_
 refine GL_nil ?_
 refine GW_seq ?_
 refine GW_region ?_
 refine GL_rd (wn_none rfl) rfl (rd_loadC rfl rfl Try.underlying23 rfl ts23 (hp.get 0 rfl) (by first | rfl | simp [bys_length, *])) ?_
 refine GL_call (wn_none rfl) rfl rfl (ref_plParts p _ hpl) rfl ?_
 intro vp w hk
 have hp := hp.comp hk
 obtain ⟨Ap, cp, rfl⟩ := row_shape (hp.get 0 rfl)
 refine GL_rd (v := .slice _ _ _) (wn_none rfl) rfl (rd_assign rfl rfl) ?_
 refine GL_nil ?_
 refine GW_seq ?_
 refine GW_region ?_
 refine GL_rd (v := .slice _ _ _) (wn_none rfl) rfl (rd_assign rfl rfl) ?_
 refine GL_nil ?_
 refine GW_seq ?_
 refine GW_seq ?_
 refine GW_region ?_
 refine GL_rd (v := .int _ _) (wn_none rfl) rfl (rd_assign rfl rfl) ?_
 refine GL_nil ?_
 refine GW_block ?_
 refine GW_loop ?_
 refine Lp_ind (α := Nat × Value × Option Addr) (fun a_0 f_0 w' => match a_0 with | (i, v, Ap) => ∃ fz, f_0 = (upd (upd (upd (upd fz 1 (.slice A m c)) 5 (.slice Ap (partsL p).length cp)) 6 (v)) 7 (.int .i64 (i : Int))) ∧ Hp w0 [] w' [.row 44 256 v i ((imask p (l.take i)).flatMap seC), .row 9 1 (.slice Ap (partsL p).length cp) (partsL p).length ((partsL p).map Value.string)] ∧ (i ≤ m)) (fun a_0 => match a_0 with | (i, v, Ap) => m - i) ?_ (0, .slice none 0 0, Ap) _ _ ?_
 ·rintro ⟨i, v, Ap⟩ f wz ⟨fz, rfl, hp, hi0⟩ ihL0
  refine Lp_round ?_
  refine GW_seq ?_
  refine GW_seq ?_
  refine GW_region ?_
  refine GL_rd (v := .int _ _) (wn_none rfl) rfl (rd_move rfl rfl) ?_
  refine GL_rd (v := .slice _ _ _) (wn_none rfl) rfl (rd_move rfl rfl) ?_
  refine GL_rd (wn_none rfl) rfl (rd_len rfl rfl Try.underlying24) ?_
  refine GL_rd (wn_none rfl) rfl (rd_bin rfl rfl rfl bo_lss) ?_
  refine GL_nil ?_
  refine GW_cond rfl (fun hb => ?_) (fun hb => ?_)
  ·(try simp only [decide_eq_true_eq, decide_eq_false_iff_not, Bool.not_eq_true', Bool.not_eq_false', Bool.not_eq_eq_eq_not, Bool.not_true, Bool.not_false, Int.not_lt, Int.not_le] at hb)
   obtain ⟨gB, bB, rfl⟩ := hI.addr (by rw [flat_length seC_len]; omega)
   refine GW_skip ?_
   refine GW_seq ?_
   refine GW_block ?_
   refine GW_seq ?_
   refine GW_region ?_
   refine GL_rd (v := .slice _ _ _) (wn_none rfl) rfl (rd_move rfl rfl) ?_
   refine GL_rd (v := .int _ _) (wn_none rfl) rfl (rd_move rfl rfl) ?_
   refine GL_rd (wn_none rfl) rfl (rd_indexS (j := i) rfl rfl rfl Try.underlying24 ts44 rfl (by omega) _ rfl) ?_
   refine GL_rd (wn_none rfl) rfl (rd_loadN (L := seC (seAt l i)) rfl rfl Try.underlying44 rfl ts44 (seC_len _) (fun jq u hj => (hI.keep hp.mod).elem seC_len i jq (seC_lt hj) (seAt_some (by omega)) hj)) ?_
   refine GL_alloc (wn_none rfl) rfl rfl tz44 rfl hp ?_
   intro g2 w hp
   refine GL_store (i := 0) (wn_none rfl) rfl rfl rfl rfl ts44 rfl (seC_len _) (seC_one _) hp rfl (by rw [List.length_replicate]; decide) (splice_all _ _ (by rw [seC_len, List.length_replicate])) ?_
   intro w hp
   refine GL_nil ?_
   refine GW_seq ?_
   refine GW_seq ?_
   refine GW_region ?_
   refine GL_rd (v := .int _ _) (wn_none rfl) rfl (rd_assign rfl rfl) ?_
   refine GL_nil ?_
   refine GW_block ?_
   refine GW_loop ?_
   refine Lp_ind (α := Nat × Option Addr) (fun a_0 f_0 w' => match a_0 with | (j, Ap) => ∃ fz, f_0 = (upd (upd (upd (upd (upd (upd fz 1 (.slice (some ⟨gB, bB, none⟩) m c)) 5 (.slice Ap (partsL p).length cp)) 6 (v)) 7 (.int .i64 (i : Int))) 8 (.pointer (some ⟨g2, 0, none⟩))) 9 (.int .i64 (j : Int))) ∧ Hp w0 [] w' [cells g2 44 (bys (hidK (if partS p i = bsAudit then j else 0) (seAt l i).1)), .row 9 1 (.slice Ap (partsL p).length cp) (partsL p).length ((partsL p).map Value.string), .row 44 256 v i ((imask p (l.take i)).flatMap seC)] ∧ (j ≤ 256)) (fun a_0 => match a_0 with | (j, Ap) => 256 - j) ?_ (0, Ap) _ _ ?_
   ·rintro ⟨j, Ap⟩ f wz ⟨fz, rfl, hp, hj0⟩ ihL1
    refine Lp_round ?_
    refine GW_seq ?_
    refine GW_seq ?_
    refine GW_region ?_
    refine GL_rd (v := .int _ _) (wn_none rfl) rfl (rd_move rfl rfl) ?_
    refine GL_rd (wn_none rfl) rfl (rd_bin rfl rfl rfl bo_lss) ?_
    refine GL_nil ?_
    refine GW_cond rfl (fun hb2 => ?_) (fun hb2 => ?_)
    ·(try simp only [decide_eq_true_eq, decide_eq_false_iff_not, Bool.not_eq_true', Bool.not_eq_false', Bool.not_eq_eq_eq_not, Bool.not_true, Bool.not_false, Int.not_lt, Int.not_le] at hb2)
     refine GW_skip ?_
     refine GW_seq ?_
     refine GW_block ?_
     refine GW_seq ?_
     refine GW_region ?_
     refine GL_rd (v := .int _ _) (wn_none rfl) rfl (rd_move rfl rfl) ?_
     refine GL_rd (v := .slice _ _ _) (wn_none rfl) rfl (rd_move rfl rfl) ?_
     refine GL_rd (wn_none rfl) rfl (rd_len rfl rfl Try.underlying40) ?_
     refine GL_rd (wn_none rfl) rfl (rd_bin rfl rfl rfl bo_lss) ?_
     refine GL_rd (v := .bool _) (wn_none rfl) rfl (rd_move rfl rfl) ?_
     refine GL_split (t := 30) (b := _) rfl ?_ ?_
     ·intro hb3; (try simp only [decide_eq_true_eq, decide_eq_false_iff_not, Bool.not_eq_true', Bool.not_eq_false', Bool.not_eq_eq_eq_not, Bool.not_true, Bool.not_false, Int.not_lt, Int.not_le] at hb3)
      have hip : i < (partsL p).length := by have := hb3; omega
      obtain ⟨gP, bP, rfl⟩ := (Sl.row (hp.get 1 rfl)).addr (by rw [List.length_map]; omega)
      refine GL_rd (v := .slice _ _ _) (wn_on rfl rfl rfl rfl) rfl (rd_move rfl rfl) ?_
      refine GL_rd (v := .int _ _) (wn_on rfl rfl rfl rfl) rfl (rd_move rfl rfl) ?_
      refine GL_rd (wn_on rfl rfl rfl rfl) rfl (rd_indexS (j := i) rfl rfl rfl Try.underlying40 ts9 rfl hip _ rfl) ?_
      refine GL_rd (wn_on rfl rfl rfl rfl) rfl (rd_load rfl rfl Try.underlying9 rfl ((Sl.row (hp.get 1 rfl)).get _ _ (str_cell hip (parts_at hpl hip)))) ?_
      refine GL_rd (wn_on rfl rfl rfl rfl) rfl (rd_bin rfl rfl rfl bo_seql) ?_
      refine GL_rd (v := .bool _) (wn_none rfl) rfl (rd_pickT rfl rfl rfl) ?_
      refine GL_rd (v := .bool _) (wn_none rfl) rfl (rd_move rfl rfl) ?_
      refine GL_split (t := 37) (b := _) rfl ?_ ?_
      ·intro hb4; (try simp only [decide_eq_true_eq, decide_eq_false_iff_not, Bool.not_eq_true', Bool.not_eq_false', Bool.not_eq_eq_eq_not, Bool.not_true, Bool.not_false, Int.not_lt, Int.not_le] at hb4)
       have ha : partS p i = bsAudit := hb4
       refine GL_rd (v := .int _ _) (wn_on rfl rfl rfl rfl) rfl (rd_move rfl rfl) ?_
       refine GL_call (wn_on rfl rfl rfl rfl) rfl rfl (ref_Masked j _) rfl ?_
       rintro _ w ⟨rfl, hk⟩
       have hp := hp.comp hk
       refine GL_rd (v := .bool _) (wn_none rfl) rfl (rd_pickT rfl rfl rfl) ?_
       refine GL_nil ?_
       refine GW_cond rfl (fun hb5 => ?_) (fun hb5 => ?_)
       ·(try simp only [decide_eq_true_eq, decide_eq_false_iff_not, Bool.not_eq_true', Bool.not_eq_false', Bool.not_eq_eq_eq_not, Bool.not_true, Bool.not_false, Int.not_lt, Int.not_le] at hb5)
        have hmk : maskB j = true := hb5
        refine GW_region ?_
        refine GL_rd (v := .int _ _) (wn_none rfl) rfl (rd_move rfl rfl) ?_
        refine GL_rd (wn_none rfl) rfl (rd_indexA (j := j) rfl rfl rfl Try.underlying44 ts5 rfl (by omega) _ rfl) ?_
        refine GL_store (i := 0) (wn_none rfl) rfl rfl rfl rfl ts5 rfl rfl (one1 rfl) hp rfl (by rw [bys_length, hidK_length, (seAt l i).2]; omega) (hid_step ha (by rw [(seAt l i).2]; omega) hmk) ?_
        intro w hp
        refine GL_nil ?_
        refine GW_region ?_
        refine GL_rd (v := .int _ _) (wn_none rfl) rfl (rd_move rfl rfl) ?_
        refine GL_rd (wn_none rfl) rfl (rd_bin rfl rfl rfl (bo_add64 (by omega))) ?_
        refine GL_rd (v := .int _ _) (wn_none rfl) rfl (rd_assign rfl rfl) ?_
        refine GL_nil ?_
        have hp := ((((hp.front 2 rfl).front 2 rfl).front 2 rfl).take 3)
        exact ihL1 (j + 1, _) _ _ (by simp only []; omega) ⟨_, slots6 rfl rfl rfl rfl rfl rfl, hp, by omega⟩
       ·(try simp only [decide_eq_true_eq, decide_eq_false_iff_not, Bool.not_eq_true', Bool.not_eq_false', Bool.not_eq_eq_eq_not, Bool.not_true, Bool.not_false, Int.not_lt, Int.not_le] at hb5)
        have hmk : maskB j = false := hb5
        refine GW_skip ?_
        refine GW_region ?_
        refine GL_rd (v := .int _ _) (wn_none rfl) rfl (rd_move rfl rfl) ?_
        refine GL_rd (wn_none rfl) rfl (rd_bin rfl rfl rfl (bo_add64 (by omega))) ?_
        refine GL_rd (v := .int _ _) (wn_none rfl) rfl (rd_assign rfl rfl) ?_
        refine GL_nil ?_
        have hp := ((((hp.front 2 rfl).front 2 rfl).front 2 rfl).take 3)
        have e1 : (hidK (if partS p i = bsAudit then j else 0) (seAt l i).1) = (hidK (if partS p i = bsAudit then (j + 1) else 0) (seAt l i).1) := by rw [if_pos ha, if_pos ha]; exact hidK_no hmk
        rw [e1] at hp
        exact ihL1 (j + 1, _) _ _ (by simp only []; omega) ⟨_, slots6 rfl rfl rfl rfl rfl rfl, hp, by omega⟩
      ·intro hb4; (try simp only [decide_eq_true_eq, decide_eq_false_iff_not, Bool.not_eq_true', Bool.not_eq_false', Bool.not_eq_eq_eq_not, Bool.not_true, Bool.not_false, Int.not_lt, Int.not_le] at hb4)
       have hna : ¬ partS p i = bsAudit := hb4
       refine GL_pass (nw_off rfl rfl rfl rfl rfl) rfl ?_
       refine GL_pass (nw_off rfl rfl rfl rfl rfl) rfl ?_
       refine GL_rd (v := .bool _) (wn_none rfl) rfl (rd_pickF rfl rfl rfl) ?_
       refine GL_nil ?_
       refine GW_false rfl ?_
       refine GW_skip ?_
       refine GW_region ?_
       refine GL_rd (v := .int _ _) (wn_none rfl) rfl (rd_move rfl rfl) ?_
       refine GL_rd (wn_none rfl) rfl (rd_bin rfl rfl rfl (bo_add64 (by omega))) ?_
       refine GL_rd (v := .int _ _) (wn_none rfl) rfl (rd_assign rfl rfl) ?_
       refine GL_nil ?_
       have hp := ((((hp.front 2 rfl).front 2 rfl).front 2 rfl).take 3)
       have e1 : (hidK (if partS p i = bsAudit then j else 0) (seAt l i).1) = (hidK (if partS p i = bsAudit then (j + 1) else 0) (seAt l i).1) := by rw [if_neg hna, if_neg hna]
       rw [e1] at hp
       exact ihL1 (j + 1, _) _ _ (by simp only []; omega) ⟨_, slots6 rfl rfl rfl rfl rfl rfl, hp, by omega⟩
     ·intro hb3; (try simp only [decide_eq_true_eq, decide_eq_false_iff_not, Bool.not_eq_true', Bool.not_eq_false', Bool.not_eq_eq_eq_not, Bool.not_true, Bool.not_false, Int.not_lt, Int.not_le] at hb3)
      have hna : ¬ partS p i = bsAudit := by rw [parts_out hpl (by have := hb3; omega)]; decide
      refine GL_pass (nw_off rfl rfl rfl rfl rfl) rfl ?_
      refine GL_pass (nw_off rfl rfl rfl rfl rfl) rfl ?_
      refine GL_pass (nw_off rfl rfl rfl rfl rfl) rfl ?_
      refine GL_pass (nw_off rfl rfl rfl rfl rfl) rfl ?_
      refine GL_pass (nw_off rfl rfl rfl rfl rfl) rfl ?_
      refine GL_rd (v := .bool _) (wn_none rfl) rfl (rd_pickF rfl rfl rfl) ?_
      refine GL_rd (v := .bool _) (wn_none rfl) rfl (rd_move rfl rfl) ?_
      refine GL_pass (nw_off rfl rfl rfl rfl rfl) rfl ?_
      refine GL_pass (nw_off rfl rfl rfl rfl rfl) rfl ?_
      refine GL_rd (v := .bool _) (wn_none rfl) rfl (rd_pickF rfl rfl rfl) ?_
      refine GL_nil ?_
      refine GW_false rfl ?_
      refine GW_skip ?_
      refine GW_region ?_
      refine GL_rd (v := .int _ _) (wn_none rfl) rfl (rd_move rfl rfl) ?_
      refine GL_rd (wn_none rfl) rfl (rd_bin rfl rfl rfl (bo_add64 (by omega))) ?_
      refine GL_rd (v := .int _ _) (wn_none rfl) rfl (rd_assign rfl rfl) ?_
      refine GL_nil ?_
      have hp := ((((hp.front 2 rfl).front 2 rfl).front 2 rfl).take 3)
      have e1 : (hidK (if partS p i = bsAudit then j else 0) (seAt l i).1) = (hidK (if partS p i = bsAudit then (j + 1) else 0) (seAt l i).1) := by rw [if_neg hna, if_neg hna]
      rw [e1] at hp
      exact ihL1 (j + 1, _) _ _ (by simp only []; omega) ⟨_, slots6 rfl rfl rfl rfl rfl rfl, hp, by omega⟩
    ·(try simp only [decide_eq_true_eq, decide_eq_false_iff_not, Bool.not_eq_true', Bool.not_eq_false', Bool.not_eq_eq_eq_not, Bool.not_true, Bool.not_false, Int.not_lt, Int.not_le] at hb2)
     obtain rfl : j = 256 := by omega
     refine GW_exit ?_
     refine GW_region ?_
     refine GL_rd (v := v) (wn_none rfl) rfl (rd_move rfl rfl) ?_
     refine GL_rd (wn_none rfl) rfl (rd_loadC rfl rfl Try.underlying44 rfl ts44 (hp.get 0 rfl) (by rw [bys_length, hidK_length, (seAt l i).2])) ?_
     have em : bys (hidK (if partS p i = bsAudit then 256 else 0) (seAt l i).1) = seC (mskA p i (seAt l i)) := hid_all p i (seAt l i)
     rw [em]
     refine GL_lit1 (L := (seC (mskA p i (seAt l i)))) (wn_none rfl) rfl rfl rfl rfl Try.underlying24 ts44 tz44 (by kernel_rfl) (seC_len _) hp ?_
     intro g3 w hp
     refine GL_append (i := 3) (wn_none rfl) rfl rfl rfl rfl Try.underlying24 ti44 rfl (by decide) hp rfl (Sl.row (hp.get 0 rfl)) (seC_one _) (by omega) (by omega) ?_
     intro v w hp
     refine GL_rd (v := v) (wn_none rfl) rfl (rd_assign rfl rfl) ?_
     refine GL_nil ?_
     refine GW_region ?_
     refine GL_rd (v := .int _ _) (wn_none rfl) rfl (rd_move rfl rfl) ?_
     refine GL_rd (wn_none rfl) rfl (rd_bin rfl rfl rfl (bo_add64 (by omega))) ?_
     refine GL_rd (v := .int _ _) (wn_none rfl) rfl (rd_assign rfl rfl) ?_
     refine GL_nil ?_
     have hp := (((hp.front 2 rfl).front 3 rfl).take 2)
     have hp : Hp w0 [] w [.row 44 256 v (i + 1) ((imask p (l.take (i + 1))).flatMap seC), .row 9 1 (.slice Ap (partsL p).length cp) (partsL p).length ((partsL p).map Value.string)] := by rw [imask_take (by omega), flat_snoc]; exact hp
     exact ihL0 (i + 1, v, Ap) _ _ (by simp only []; omega) ⟨_, slots4 rfl rfl rfl rfl, hp, by omega⟩
   ·have hp := ((((hp.front 1 rfl).front 2 rfl).front 2 rfl).take 3)
    have e0 : bys (hidK (if partS p i = bsAudit then 0 else 0) (seAt l i).1) = seC (seAt l i) := by rw [ite_self, hidK_zero]; rfl
    have hp := hp.cast (by rw [← e0])
    refine ⟨_, slots6 rfl rfl rfl rfl rfl rfl, hp, Nat.zero_le _⟩
  ·(try simp only [decide_eq_true_eq, decide_eq_false_iff_not, Bool.not_eq_true', Bool.not_eq_false', Bool.not_eq_eq_eq_not, Bool.not_true, Bool.not_false, Int.not_lt, Int.not_le] at hb)
   refine GW_exit ?_
   refine GW_seq ?_
   refine GW_region ?_
   refine GL_rd (v := v) (wn_none rfl) rfl (rd_move rfl rfl) ?_
   refine GL_rd (v := v) (wn_none rfl) rfl (rd_assign rfl rfl) ?_
   refine GL_nil ?_
   refine GW_ret ?_
   obtain rfl : m = i := by omega
   rw [List.take_of_length_le (by omega)] at hp
   refine ⟨_, res1 Try.results22 (rv_tmp (v := v) rfl rfl), ?_⟩
   have hp := ((hp.front 0 rfl).take 1)
   exact hp
 ·have hp := ((hp.front 0 rfl).take 1)
  have hp := hp.nilRow 44 256
  refine ⟨_, slots4 rfl rfl rfl rfl, hp, Nat.zero_le _⟩

theorem mask_Unlike (p : Pl) (sv tv : Value) (m k : Nat) (l q : List Sec) (w0 : World) (hI : Sl w0 sv 256 m (l.flatMap seC)) (hm : m ≤ 100000) (hJ : Sl w0 tv 256 k (q.flatMap seC)) (hk2 : k ≤ 100000) : Does Try.prog 18 #[.agg ⟨layC p⟩, sv, tv] w0 fun v w' => Hp w0 [] w' [.row 3 1 v (unl (imask p l) (imask p q) (max m k)).length ((unl (imask p l) (imask p q) (max m k)).map (Value.int .i64))] := by
 have hlen := flat_len seC_len (by decide) hI.len
 have hlek := flat_len seC_len (by decide) hJ.len
 refine does_of (l := [.agg ⟨layC p⟩, sv, tv]) Try.func18 (by kernel_rfl) rfl Try.ntmps18 rfl rfl ?_
 have hp := Hp.refl w0 []
 refine GW_seq ?_
 refine GW_region ?_
 refine GL_box (wn_none rfl) rfl rfl rfl rfl hp ?_
 intro g w hp
 refine GL_rd (v := .slice _ _ _) (wn_none rfl) rfl (rd_assign rfl rfl) ?_
 refine GL_nil ?_
 refine GW_seq ?_
 refine GW_drawnK 8 (.one 0 true (.one 1 true (.one 3 true (.one 4 true (.one 2 false (.one 5 false (.one 6 true (.one 7 true .nil)))))))) mixed (by kernel_rfl) hp (fun _ h => h) fun w hp => ?_
 have hpS := hp
 refine GO_rd rfl rfl (wn_none rfl) rfl hpS (fun w hp => (rd_loadC rfl rfl Try.underlying28 rfl ts28 (hp.get 0 rfl) (by first | rfl | simp [bys_length, *]))) ?_
 refine GO_rdT (v := sv) rfl (wn_none rfl) rfl (fun w => (rd_move rfl rfl)) ?_
 refine GO_rd rfl rfl (wn_none rfl) rfl hpS (fun w hp => (rd_loadC rfl rfl Try.underlying28 rfl ts28 (hp.get 0 rfl) (by first | rfl | simp [bys_length, *]))) ?_
 refine GO_rdT (v := tv) rfl (wn_none rfl) rfl (fun w => (rd_move rfl rfl)) ?_
 refine GO_of_GL rfl ?_
 refine GL_call (wn_none rfl) rfl rfl (mask_Apply p sv m l _ (hI.keep hp.mod) (by omega)) rfl ?_
 intro vx w hk
 have hp := hp.comp hk
 obtain ⟨Ax, cx, rfl⟩ := row_shape (hp.get 0 rfl)
 have hpS2 := (hp.sub (.cons _ (.cons_cons _ .slnil)))
 refine GL_nil ⟨fun _ => hpS2, ?_⟩
 refine GO_of_GL rfl ?_
 refine GL_call (wn_none rfl) rfl rfl (mask_Apply p tv k q _ (hJ.keep hp.mod) (by omega)) rfl ?_
 intro vy w hk
 have hp := hp.comp hk
 obtain ⟨Ay, cy, rfl⟩ := row_shape (hp.get 0 rfl)
 have hpS3 := (hp.sub (.cons _ (.cons _ (.cons_cons _ .slnil))))
 refine GL_nil ⟨fun _ => hpS3, ?_⟩
 refine GO_rdT (v := .slice _ _ _) rfl (wn_none rfl) rfl (fun w => (rd_assign rfl rfl)) ?_
 refine GO_rdT (v := .slice _ _ _) rfl (wn_none rfl) rfl (fun w => (rd_assign rfl rfl)) ?_
 refine GO_nil ?_
 refine GW_seq ?_
 refine GW_region ?_
 refine GL_rd (v := .slice _ _ _) (wn_none rfl) rfl (rd_assign rfl rfl) ?_
 refine GL_nil ?_
 refine GW_seq ?_
 refine GW_seq ?_
 refine GW_region ?_
 refine GL_rd (v := .slice _ _ _) (wn_none rfl) rfl (rd_move rfl rfl) ?_
 refine GL_rd (wn_none rfl) rfl (rd_len rfl rfl Try.underlying24) ?_
 refine GL_rd (v := .slice _ _ _) (wn_none rfl) rfl (rd_move rfl rfl) ?_
 refine GL_rd (wn_none rfl) rfl (rd_len rfl rfl Try.underlying24) ?_
 refine GL_rd (wn_none rfl) rfl (rd_max rfl rfl rfl) ?_
 refine GL_rd (v := .int _ _) (wn_none rfl) rfl (rd_move rfl rfl) ?_
 refine GL_nil ?_
 refine GW_block ?_
 refine GW_loop ?_
 refine Lp_ind (α := Nat × Value × Option Addr × Option Addr) (fun a_0 f_0 w' => match a_0 with | (i, v, Ax, Ay) => ∃ fz, f_0 = (upd (upd (upd (upd (upd fz 7 (.slice Ax m cx)) 8 (.slice Ay k cy)) 9 (v)) 21 (.int .i64 (max (m : Int) (k : Int)))) 22 (.int .i64 (i : Int))) ∧ Hp w0 [] w' [.row 3 1 v (unl (imask p l) (imask p q) i).length ((unl (imask p l) (imask p q) i).map (Value.int .i64)), .row 44 256 (.slice Ax m cx) m ((imask p l).flatMap seC), .row 44 256 (.slice Ay k cy) k ((imask p q).flatMap seC)] ∧ (i ≤ max m k)) (fun a_0 => match a_0 with | (i, v, Ax, Ay) => max m k - i) ?_ (0, .slice none 0 0, Ax, Ay) _ _ ?_
 ·rintro ⟨i, v, Ax, Ay⟩ f wz ⟨fz, rfl, hp, hi0⟩ ihL0
  have hle := unl_le (imask p l) (imask p q) i
  have hXl : (imask p l).length = m := by rw [imask_length, hlen]
  have hYl : (imask p q).length = k := by rw [imask_length, hlek]
  refine Lp_round ?_
  refine GW_seq ?_
  refine GW_region ?_
  refine GL_rd (wn_none rfl) rfl (rd_bin rfl rfl rfl bo_lss) ?_
  refine GL_nil ?_
  refine GW_seq ?_
  refine GW_cond rfl (fun hb => ?_) (fun hb => ?_)
  ·(try simp only [decide_eq_true_eq, decide_eq_false_iff_not, Bool.not_eq_true', Bool.not_eq_false', Bool.not_eq_eq_eq_not, Bool.not_true, Bool.not_false, Int.not_lt, Int.not_le] at hb)
   refine GW_skip ?_
   refine GW_seq ?_
   refine GW_block ?_
   refine GW_seq ?_
   refine GW_region ?_
   refine GL_rd (v := .int _ _) (wn_none rfl) rfl (rd_move rfl rfl) ?_
   refine GL_rd (v := .int _ _) (wn_none rfl) rfl (rd_assign rfl rfl) ?_
   refine GL_nil ?_
   refine GW_seq ?_
   refine GW_drawnK 21 (.one 0 true (.one 1 true (.one 2 true (.one 3 true (.one 4 true (.one 5 true (.one 6 true (.one 7 true (.one 8 true (.one 9 true (.one 10 true (.one 11 true (.one 12 true (.one 13 true (.one 14 true (.one 15 true (.one 16 true (.one 17 true (.one 18 true (.one 19 true (.one 20 true .nil))))))))))))))))))))) mixed (by kernel_rfl) hp (fun _ h => h) fun w hp => ?_
   have hpS4 := hp
   refine GO_rdT (v := .int _ _) rfl (wn_none rfl) rfl (fun w => (rd_move rfl rfl)) ?_
   refine GO_rdT (v := .slice _ _ _) rfl (wn_none rfl) rfl (fun w => (rd_move rfl rfl)) ?_
   refine GO_rd rfl rfl (wn_none rfl) rfl hpS4 (fun w hp => (rd_len rfl rfl Try.underlying24)) ?_
   refine GO_rd rfl rfl (wn_none rfl) rfl hpS4 (fun w hp => (rd_bin rfl rfl rfl bo_geq)) ?_
   refine GO_rdT (v := .bool _) rfl (wn_none rfl) rfl (fun w => (rd_move rfl rfl)) ?_
   refine GO_split (t := 29) (b := _) rfl ?_ ?_
   ·intro hb2; (try simp only [decide_eq_true_eq, decide_eq_false_iff_not, Bool.not_eq_true', Bool.not_eq_false', Bool.not_eq_eq_eq_not, Bool.not_true, Bool.not_false, Int.not_lt, Int.not_le] at hb2)
    have hu : unB (imask p l) (imask p q) i = true := unB_1 (by omega)
    refine GO_pass rfl (nw_off rfl rfl rfl rfl rfl) rfl ?_
    refine GO_pass rfl (nw_off rfl rfl rfl rfl rfl) rfl ?_
    refine GO_pass rfl (nw_off rfl rfl rfl rfl rfl) rfl ?_
    refine GO_pass rfl (nw_off rfl rfl rfl rfl rfl) rfl ?_
    refine GO_rdT (v := .bool _) rfl (wn_none rfl) rfl (fun w => (rd_pickT rfl rfl rfl)) ?_
    refine GO_rdT (v := .bool _) rfl (wn_none rfl) rfl (fun w => (rd_move rfl rfl)) ?_
    refine GO_pass rfl (nw_off rfl rfl rfl rfl rfl) rfl ?_
    refine GO_pass rfl (nw_off rfl rfl rfl rfl rfl) rfl ?_
    refine GO_pass rfl (nw_off rfl rfl rfl rfl rfl) rfl ?_
    refine GO_pass rfl (nw_off rfl rfl rfl rfl rfl) rfl ?_
    refine GO_pass rfl (nw_off rfl rfl rfl rfl rfl) rfl ?_
    refine GO_pass rfl (nw_off rfl rfl rfl rfl rfl) rfl ?_
    refine GO_pass rfl (nw_off rfl rfl rfl rfl rfl) rfl ?_
    refine GO_pass rfl (nw_off rfl rfl rfl rfl rfl) rfl ?_
    refine GO_pass rfl (nw_off rfl rfl rfl rfl rfl) rfl ?_
    refine GO_rdT (v := .bool _) rfl (wn_none rfl) rfl (fun w => (rd_pickT rfl rfl rfl)) ?_
    refine GO_nil ?_
    refine GW_true rfl ?_
    refine GW_region ?_
    refine GL_rd (v := v) (wn_none rfl) rfl (rd_move rfl rfl) ?_
    refine GL_rd (v := .int _ _) (wn_none rfl) rfl (rd_move rfl rfl) ?_
    refine GL_lit (L := [.int .i64 (i : Int)]) (wn_none rfl) rfl rfl Try.underlying32 ts3 tz3 rfl (by kernel_rfl) rfl rfl hp ?_
    intro g2 w hp
    refine GL_append (i := 1) (wn_none rfl) rfl rfl rfl rfl Try.underlying32 ti3 rfl (by decide) hp rfl (Sl.row (hp.get 0 rfl)) (one1 rfl) (by omega) (by omega) ?_
    intro v w hp
    refine GL_rd (v := v) (wn_none rfl) rfl (rd_assign rfl rfl) ?_
    refine GL_nil ?_
    refine GW_region ?_
    refine GL_rd (wn_none rfl) rfl (rd_bin rfl rfl rfl (bo_add64 (by omega))) ?_
    refine GL_rd (v := .int _ _) (wn_none rfl) rfl (rd_move rfl rfl) ?_
    refine GL_nil ?_
    have hp := ((((hp.front 3 rfl).front 3 rfl).front 3 rfl).take 3)
    have eU : Res.row 3 1 v ((unl (imask p l) (imask p q) i).length + 1) ((unl (imask p l) (imask p q) i).map (Value.int .i64) ++ [.int .i64 (i : Int)]) = .row 3 1 v (unl (imask p l) (imask p q) (i + 1)).length ((unl (imask p l) (imask p q) (i + 1)).map (Value.int .i64)) := by rw [unl_yes hu, List.length_append, List.map_append]; rfl
    rw [eU] at hp
    exact ihL0 (i + 1, v, _, _) _ _ (by simp only []; omega) ⟨_, slots5 rfl rfl rfl rfl rfl, hp, by omega⟩
   ·intro hb2; (try simp only [decide_eq_true_eq, decide_eq_false_iff_not, Bool.not_eq_true', Bool.not_eq_false', Bool.not_eq_eq_eq_not, Bool.not_true, Bool.not_false, Int.not_lt, Int.not_le] at hb2)
    have hi1 : i < m := by have := hb2; omega
    obtain ⟨gX, bX, rfl⟩ := (Sl.row (hp.get 1 rfl)).addr (by rw [flat_length seC_len]; omega)
    refine GO_rdT (v := .int _ _) rfl (wn_on rfl rfl rfl rfl) rfl (fun w => (rd_move rfl rfl)) ?_
    refine GO_rdT (v := .slice _ _ _) rfl (wn_on rfl rfl rfl rfl) rfl (fun w => (rd_move rfl rfl)) ?_
    refine GO_rd rfl rfl (wn_on rfl rfl rfl rfl) rfl hpS4 (fun w hp => (rd_len rfl rfl Try.underlying24)) ?_
    refine GO_rd rfl rfl (wn_on rfl rfl rfl rfl) rfl hpS4 (fun w hp => (rd_bin rfl rfl rfl bo_geq)) ?_
    refine GO_rdT (v := .bool _) rfl (wn_none rfl) rfl (fun w => (rd_pickF rfl rfl rfl)) ?_
    refine GO_rdT (v := .bool _) rfl (wn_none rfl) rfl (fun w => (rd_move rfl rfl)) ?_
    refine GO_split (t := 35) (b := _) rfl ?_ ?_
    ·intro hb3; (try simp only [decide_eq_true_eq, decide_eq_false_iff_not, Bool.not_eq_true', Bool.not_eq_false', Bool.not_eq_eq_eq_not, Bool.not_true, Bool.not_false, Int.not_lt, Int.not_le] at hb3)
     have hu : unB (imask p l) (imask p q) i = true := unB_2 (by omega)
     refine GO_pass rfl (nw_off rfl rfl rfl rfl rfl) rfl ?_
     refine GO_pass rfl (nw_off rfl rfl rfl rfl rfl) rfl ?_
     refine GO_pass rfl (nw_off rfl rfl rfl rfl rfl) rfl ?_
     refine GO_pass rfl (nw_off rfl rfl rfl rfl rfl) rfl ?_
     refine GO_pass rfl (nw_off rfl rfl rfl rfl rfl) rfl ?_
     refine GO_pass rfl (nw_off rfl rfl rfl rfl rfl) rfl ?_
     refine GO_pass rfl (nw_off rfl rfl rfl rfl rfl) rfl ?_
     refine GO_pass rfl (nw_off rfl rfl rfl rfl rfl) rfl ?_
     refine GO_pass rfl (nw_off rfl rfl rfl rfl rfl) rfl ?_
     refine GO_rdT (v := .bool _) rfl (wn_none rfl) rfl (fun w => (rd_pickT rfl rfl rfl)) ?_
     refine GO_nil ?_
     refine GW_true rfl ?_
     refine GW_region ?_
     refine GL_rd (v := v) (wn_none rfl) rfl (rd_move rfl rfl) ?_
     refine GL_rd (v := .int _ _) (wn_none rfl) rfl (rd_move rfl rfl) ?_
     refine GL_lit (L := [.int .i64 (i : Int)]) (wn_none rfl) rfl rfl Try.underlying32 ts3 tz3 rfl (by kernel_rfl) rfl rfl hp ?_
     intro g3 w hp
     refine GL_append (i := 1) (wn_none rfl) rfl rfl rfl rfl Try.underlying32 ti3 rfl (by decide) hp rfl (Sl.row (hp.get 0 rfl)) (one1 rfl) (by omega) (by omega) ?_
     intro v2 w hp
     refine GL_rd (v := v2) (wn_none rfl) rfl (rd_assign rfl rfl) ?_
     refine GL_nil ?_
     refine GW_region ?_
     refine GL_rd (wn_none rfl) rfl (rd_bin rfl rfl rfl (bo_add64 (by omega))) ?_
     refine GL_rd (v := .int _ _) (wn_none rfl) rfl (rd_move rfl rfl) ?_
     refine GL_nil ?_
     have hp := ((((hp.front 3 rfl).front 3 rfl).front 3 rfl).take 3)
     have eU : Res.row 3 1 v2 ((unl (imask p l) (imask p q) i).length + 1) ((unl (imask p l) (imask p q) i).map (Value.int .i64) ++ [.int .i64 (i : Int)]) = .row 3 1 v2 (unl (imask p l) (imask p q) (i + 1)).length ((unl (imask p l) (imask p q) (i + 1)).map (Value.int .i64)) := by rw [unl_yes hu, List.length_append, List.map_append]; rfl
     rw [eU] at hp
     exact ihL0 (i + 1, v2, _, _) _ _ (by simp only []; omega) ⟨_, slots5 rfl rfl rfl rfl rfl, hp, by omega⟩
    ·intro hb3; (try simp only [decide_eq_true_eq, decide_eq_false_iff_not, Bool.not_eq_true', Bool.not_eq_false', Bool.not_eq_eq_eq_not, Bool.not_true, Bool.not_false, Int.not_lt, Int.not_le] at hb3)
     have hi2 : i < k := by have := hb3; omega
     obtain ⟨gY, bY, rfl⟩ := (Sl.row (hp.get 2 rfl)).addr (by rw [flat_length seC_len]; omega)
     refine GO_rdT (v := .slice _ _ _) rfl (wn_on rfl rfl rfl rfl) rfl (fun w => (rd_move rfl rfl)) ?_
     refine GO_rdT (v := .int _ _) rfl (wn_on rfl rfl rfl rfl) rfl (fun w => (rd_move rfl rfl)) ?_
     refine GO_rdT rfl (wn_on rfl rfl rfl rfl) rfl (fun w => (rd_indexS (j := i) rfl rfl rfl Try.underlying24 ts44 rfl hi1 _ rfl)) ?_
     refine GO_rd rfl rfl (wn_on rfl rfl rfl rfl) rfl hpS4 (fun w hp => (rd_loadN (L := seC (seAt (imask p l) i)) rfl rfl Try.underlying44 rfl ts44 (seC_len _) (fun j u hj => (Sl.row (hp.get 1 rfl)).elem seC_len i j (seC_lt hj) (seAt_some (by rw [imask_length]; omega)) hj))) ?_
     refine GO_rdT (v := .slice _ _ _) rfl (wn_on rfl rfl rfl rfl) rfl (fun w => (rd_move rfl rfl)) ?_
     refine GO_rdT (v := .int _ _) rfl (wn_on rfl rfl rfl rfl) rfl (fun w => (rd_move rfl rfl)) ?_
     refine GO_rdT rfl (wn_on rfl rfl rfl rfl) rfl (fun w => (rd_indexS (j := i) rfl rfl rfl Try.underlying24 ts44 rfl hi2 _ rfl)) ?_
     refine GO_rd rfl rfl (wn_on rfl rfl rfl rfl) rfl hpS4 (fun w hp => (rd_loadN (L := seC (seAt (imask p q) i)) rfl rfl Try.underlying44 rfl ts44 (seC_len _) (fun j u hj => (Sl.row (hp.get 2 rfl)).elem seC_len i j (seC_lt hj) (seAt_some (by rw [imask_length]; omega)) hj))) ?_
     refine GO_rd rfl rfl (wn_on rfl rfl rfl rfl) rfl hpS4 (fun w hp => (rd_bin rfl rfl rfl (bo_arrB Try.underlying44 Try.underlying5 ts5 (by kernel_rfl) (seAt _ _).2 (seAt _ _).2).2)) ?_
     refine GO_rdT (v := .bool _) rfl (wn_none rfl) rfl (fun w => (rd_pickF rfl rfl rfl)) ?_
     refine GO_nil ?_
     refine GW_cond rfl (fun hb4 => ?_) (fun hb4 => ?_)
     ·(try simp only [decide_eq_true_eq, decide_eq_false_iff_not, Bool.not_eq_true', Bool.not_eq_false', Bool.not_eq_eq_eq_not, Bool.not_true, Bool.not_false, Int.not_lt, Int.not_le] at hb4)
      have hu : unB (imask p l) (imask p q) i = true := unB_3 hb4
      refine GW_region ?_
      refine GL_rd (v := v) (wn_none rfl) rfl (rd_move rfl rfl) ?_
      refine GL_rd (v := .int _ _) (wn_none rfl) rfl (rd_move rfl rfl) ?_
      refine GL_lit (L := [.int .i64 (i : Int)]) (wn_none rfl) rfl rfl Try.underlying32 ts3 tz3 rfl (by kernel_rfl) rfl rfl hp ?_
      intro g4 w hp
      refine GL_append (i := 1) (wn_none rfl) rfl rfl rfl rfl Try.underlying32 ti3 rfl (by decide) hp rfl (Sl.row (hp.get 0 rfl)) (one1 rfl) (by omega) (by omega) ?_
      intro v3 w hp
      refine GL_rd (v := v3) (wn_none rfl) rfl (rd_assign rfl rfl) ?_
      refine GL_nil ?_
      refine GW_region ?_
      refine GL_rd (wn_none rfl) rfl (rd_bin rfl rfl rfl (bo_add64 (by omega))) ?_
      refine GL_rd (v := .int _ _) (wn_none rfl) rfl (rd_move rfl rfl) ?_
      refine GL_nil ?_
      have hp := ((((hp.front 3 rfl).front 3 rfl).front 3 rfl).take 3)
      have eU : Res.row 3 1 v3 ((unl (imask p l) (imask p q) i).length + 1) ((unl (imask p l) (imask p q) i).map (Value.int .i64) ++ [.int .i64 (i : Int)]) = .row 3 1 v3 (unl (imask p l) (imask p q) (i + 1)).length ((unl (imask p l) (imask p q) (i + 1)).map (Value.int .i64)) := by rw [unl_yes hu, List.length_append, List.map_append]; rfl
      rw [eU] at hp
      exact ihL0 (i + 1, v3, _, _) _ _ (by simp only []; omega) ⟨_, slots5 rfl rfl rfl rfl rfl, hp, by omega⟩
     ·(try simp only [decide_eq_true_eq, decide_eq_false_iff_not, Bool.not_eq_true', Bool.not_eq_false', Bool.not_eq_eq_eq_not, Bool.not_true, Bool.not_false, Int.not_lt, Int.not_le] at hb4)
      have hu : unB (imask p l) (imask p q) i = false := unB_no (by omega) (by omega) hb4
      refine GW_skip ?_
      refine GW_region ?_
      refine GL_rd (wn_none rfl) rfl (rd_bin rfl rfl rfl (bo_add64 (by omega))) ?_
      refine GL_rd (v := .int _ _) (wn_none rfl) rfl (rd_move rfl rfl) ?_
      refine GL_nil ?_
      have hp := ((((hp.front 2 rfl).front 2 rfl).front 2 rfl).take 3)
      rw [← unl_no hu] at hp
      exact ihL0 (i + 1, v, _, _) _ _ (by simp only []; omega) ⟨_, slots5 rfl rfl rfl rfl rfl, hp, by omega⟩
  ·(try simp only [decide_eq_true_eq, decide_eq_false_iff_not, Bool.not_eq_true', Bool.not_eq_false', Bool.not_eq_eq_eq_not, Bool.not_true, Bool.not_false, Int.not_lt, Int.not_le] at hb)
   refine GW_exit ?_
   refine GW_seq ?_
   refine GW_region ?_
   refine GL_rd (v := v) (wn_none rfl) rfl (rd_move rfl rfl) ?_
   refine GL_rd (v := v) (wn_none rfl) rfl (rd_assign rfl rfl) ?_
   refine GL_nil ?_
   refine GW_ret ?_
   obtain rfl : i = max m k := by omega
   refine ⟨_, res1 Try.results18 (rv_tmp (v := v) rfl rfl), ?_⟩
   have hp := ((hp.front 0 rfl).take 1)
   exact hp
 ·have hp := (((hp.front 0 rfl).front 1 rfl).take 2)
  have hp := hp.nilRow 3 1
  refine ⟨_, slots5 rfl rfl rfl rfl rfl, hp, Nat.zero_le _⟩

theorem ref_mUnlike (p : Pl) (sv tv : Value) (m k : Nat) (l q : List Sec) (w0 : World) (hpl : planB p = true) (hI : Sl w0 sv 256 m (l.flatMap seC)) (hm : m ≤ 100000) (hJ : Sl w0 tv 256 k (q.flatMap seC)) (hk2 : k ≤ 100000) : Does Try.prog 19 #[.agg ⟨plC p⟩, sv, tv] w0 fun v w' => Hp w0 [] w' [.row 3 1 v (unl (imask p l) (imask p q) (max m k)).length ((unl (imask p l) (imask p q) (max m k)).map (Value.int .i64))] := by
 have hlen := flat_len seC_len (by decide) hI.len
 have hlek := flat_len seC_len (by decide) hJ.len
 refine does_of (l := [.agg ⟨plC p⟩, sv, tv]) Try.func19 (by kernel_rfl) rfl Try.ntmps19 rfl rfl ?_
 have hp := Hp.refl w0 []
 refine GW_seq ?_
 refine GW_region ?_
 refine GL_box (wn_none rfl) rfl rfl rfl rfl hp ?_
 intro g w hp
 refine GL_rd (v := .slice _ _ _) (wn_none rfl) rfl (rd_assign rfl rfl) ?_
 refine GL_nil ?_
 refine GW_seq ?_
 refine GW_region ?_
 refine GL_rd (wn_none rfl) rfl (rd_loadC rfl rfl Try.underlying23 rfl ts23 (hp.get 0 rfl) (by first | rfl | simp [bys_length, *])) ?_
 refine GL_rd (v := sv) (wn_none rfl) rfl (rd_move rfl rfl) ?_
 refine GL_call (wn_none rfl) rfl rfl (ref_mApply p sv m l _ hpl (hI.keep hp.mod) (by omega)) rfl ?_
 intro vx w hk
 have hp := hp.comp hk
 obtain ⟨Ax, cx, rfl⟩ := row_shape (hp.get 0 rfl)
 refine GL_rd (v := .slice _ _ _) (wn_none rfl) rfl (rd_assign rfl rfl) ?_
 refine GL_nil ?_
 refine GW_seq ?_
 refine GW_region ?_
 refine GL_rd (wn_none rfl) rfl (rd_loadC rfl rfl Try.underlying23 rfl ts23 (hp.get 1 rfl) (by first | rfl | simp [bys_length, *])) ?_
 refine GL_rd (v := tv) (wn_none rfl) rfl (rd_move rfl rfl) ?_
 refine GL_call (wn_none rfl) rfl rfl (ref_mApply p tv k q _ hpl (hJ.keep hp.mod) (by omega)) rfl ?_
 intro vy w hk
 have hp := hp.comp hk
 obtain ⟨Ay, cy, rfl⟩ := row_shape (hp.get 0 rfl)
 refine GL_rd (v := .slice _ _ _) (wn_none rfl) rfl (rd_assign rfl rfl) ?_
 refine GL_nil ?_
 refine GW_seq ?_
 refine GW_region ?_
 refine GL_rd (v := .slice _ _ _) (wn_none rfl) rfl (rd_assign rfl rfl) ?_
 refine GL_nil ?_
 refine GW_seq ?_
 refine GW_seq ?_
 refine GW_region ?_
 refine GL_rd (v := .int _ _) (wn_none rfl) rfl (rd_assign rfl rfl) ?_
 refine GL_nil ?_
 refine GW_block ?_
 refine GW_loop ?_
 refine Lp_ind (α := Nat × Value × Option Addr × Option Addr) (fun a_0 f_0 w' => match a_0 with | (i, v, Ax, Ay) => ∃ fz, f_0 = (upd (upd (upd (upd fz 7 (.slice Ax m cx)) 8 (.slice Ay k cy)) 9 (v)) 10 (.int .i64 (i : Int))) ∧ Hp w0 [] w' [.row 3 1 v (unl (imask p l) (imask p q) i).length ((unl (imask p l) (imask p q) i).map (Value.int .i64)), .row 44 256 (.slice Ax m cx) m ((imask p l).flatMap seC), .row 44 256 (.slice Ay k cy) k ((imask p q).flatMap seC)] ∧ (i ≤ max m k)) (fun a_0 => match a_0 with | (i, v, Ax, Ay) => max m k - i) ?_ (0, .slice none 0 0, Ax, Ay) _ _ ?_
 ·rintro ⟨i, v, Ax, Ay⟩ f wz ⟨fz, rfl, hp, hi0⟩ ihL0
  have hle := unl_le (imask p l) (imask p q) i
  have hXl : (imask p l).length = m := by rw [imask_length, hlen]
  have hYl : (imask p q).length = k := by rw [imask_length, hlek]
  refine Lp_round ?_
  refine GW_seq ?_
  refine GW_seq ?_
  refine GW_region ?_
  refine GL_rd (v := .int _ _) (wn_none rfl) rfl (rd_move rfl rfl) ?_
  refine GL_rd (v := .slice _ _ _) (wn_none rfl) rfl (rd_move rfl rfl) ?_
  refine GL_rd (wn_none rfl) rfl (rd_len rfl rfl Try.underlying24) ?_
  refine GL_rd (wn_none rfl) rfl (rd_bin rfl rfl rfl bo_lss) ?_
  refine GL_rd (v := .bool _) (wn_none rfl) rfl (rd_move rfl rfl) ?_
  refine GL_split (t := 21) (b := _) rfl ?_ ?_
  ·intro hb; (try simp only [decide_eq_true_eq, decide_eq_false_iff_not, Bool.not_eq_true', Bool.not_eq_false', Bool.not_eq_eq_eq_not, Bool.not_true, Bool.not_false, Int.not_lt, Int.not_le] at hb)
   refine GL_pass (nw_off rfl rfl rfl rfl rfl) rfl ?_
   refine GL_pass (nw_off rfl rfl rfl rfl rfl) rfl ?_
   refine GL_pass (nw_off rfl rfl rfl rfl rfl) rfl ?_
   refine GL_pass (nw_off rfl rfl rfl rfl rfl) rfl ?_
   refine GL_rd (v := .bool _) (wn_none rfl) rfl (rd_pickT rfl rfl rfl) ?_
   refine GL_nil ?_
   refine GW_true rfl ?_
   refine GW_skip ?_
   refine GW_seq ?_
   refine GW_block ?_
   refine GW_seq ?_
   refine GW_drawnK 21 (.one 0 true (.one 1 true (.one 2 true (.one 3 true (.one 4 true (.one 5 true (.one 6 true (.one 7 true (.one 8 true (.one 9 true (.one 10 true (.one 11 true (.one 12 true (.one 13 true (.one 14 true (.one 15 true (.one 16 true (.one 17 true (.one 18 true (.one 19 true (.one 20 true .nil))))))))))))))))))))) mixed (by kernel_rfl) hp (fun _ h => h) fun w hp => ?_
   have hpS := hp
   refine GO_rdT (v := .int _ _) rfl (wn_none rfl) rfl (fun w => (rd_move rfl rfl)) ?_
   refine GO_rdT (v := .slice _ _ _) rfl (wn_none rfl) rfl (fun w => (rd_move rfl rfl)) ?_
   refine GO_rd rfl rfl (wn_none rfl) rfl hpS (fun w hp => (rd_len rfl rfl Try.underlying24)) ?_
   refine GO_rd rfl rfl (wn_none rfl) rfl hpS (fun w hp => (rd_bin rfl rfl rfl bo_geq)) ?_
   refine GO_rdT (v := .bool _) rfl (wn_none rfl) rfl (fun w => (rd_move rfl rfl)) ?_
   refine GO_split (t := 33) (b := _) rfl ?_ ?_
   ·intro hb2; (try simp only [decide_eq_true_eq, decide_eq_false_iff_not, Bool.not_eq_true', Bool.not_eq_false', Bool.not_eq_eq_eq_not, Bool.not_true, Bool.not_false, Int.not_lt, Int.not_le] at hb2)
    have hu : unB (imask p l) (imask p q) i = true := unB_1 (by omega)
    refine GO_pass rfl (nw_off rfl rfl rfl rfl rfl) rfl ?_
    refine GO_pass rfl (nw_off rfl rfl rfl rfl rfl) rfl ?_
    refine GO_pass rfl (nw_off rfl rfl rfl rfl rfl) rfl ?_
    refine GO_pass rfl (nw_off rfl rfl rfl rfl rfl) rfl ?_
    refine GO_rdT (v := .bool _) rfl (wn_none rfl) rfl (fun w => (rd_pickT rfl rfl rfl)) ?_
    refine GO_rdT (v := .bool _) rfl (wn_none rfl) rfl (fun w => (rd_move rfl rfl)) ?_
    refine GO_pass rfl (nw_off rfl rfl rfl rfl rfl) rfl ?_
    refine GO_pass rfl (nw_off rfl rfl rfl rfl rfl) rfl ?_
    refine GO_pass rfl (nw_off rfl rfl rfl rfl rfl) rfl ?_
    refine GO_pass rfl (nw_off rfl rfl rfl rfl rfl) rfl ?_
    refine GO_pass rfl (nw_off rfl rfl rfl rfl rfl) rfl ?_
    refine GO_pass rfl (nw_off rfl rfl rfl rfl rfl) rfl ?_
    refine GO_pass rfl (nw_off rfl rfl rfl rfl rfl) rfl ?_
    refine GO_pass rfl (nw_off rfl rfl rfl rfl rfl) rfl ?_
    refine GO_pass rfl (nw_off rfl rfl rfl rfl rfl) rfl ?_
    refine GO_rdT (v := .bool _) rfl (wn_none rfl) rfl (fun w => (rd_pickT rfl rfl rfl)) ?_
    refine GO_nil ?_
    refine GW_true rfl ?_
    refine GW_region ?_
    refine GL_rd (v := v) (wn_none rfl) rfl (rd_move rfl rfl) ?_
    refine GL_rd (v := .int _ _) (wn_none rfl) rfl (rd_move rfl rfl) ?_
    refine GL_lit (L := [.int .i64 (i : Int)]) (wn_none rfl) rfl rfl Try.underlying32 ts3 tz3 rfl (by kernel_rfl) rfl rfl hp ?_
    intro g2 w hp
    refine GL_append (i := 1) (wn_none rfl) rfl rfl rfl rfl Try.underlying32 ti3 rfl (by decide) hp rfl (Sl.row (hp.get 0 rfl)) (one1 rfl) (by omega) (by omega) ?_
    intro v w hp
    refine GL_rd (v := v) (wn_none rfl) rfl (rd_assign rfl rfl) ?_
    refine GL_nil ?_
    refine GW_region ?_
    refine GL_rd (v := .int _ _) (wn_none rfl) rfl (rd_move rfl rfl) ?_
    refine GL_rd (wn_none rfl) rfl (rd_bin rfl rfl rfl (bo_add64 (by omega))) ?_
    refine GL_rd (v := .int _ _) (wn_none rfl) rfl (rd_assign rfl rfl) ?_
    refine GL_nil ?_
    have hp := ((((hp.front 3 rfl).front 3 rfl).front 3 rfl).take 3)
    have eU : Res.row 3 1 v ((unl (imask p l) (imask p q) i).length + 1) ((unl (imask p l) (imask p q) i).map (Value.int .i64) ++ [.int .i64 (i : Int)]) = .row 3 1 v (unl (imask p l) (imask p q) (i + 1)).length ((unl (imask p l) (imask p q) (i + 1)).map (Value.int .i64)) := by rw [unl_yes hu, List.length_append, List.map_append]; rfl
    rw [eU] at hp
    exact ihL0 (i + 1, v, _, _) _ _ (by simp only []; omega) ⟨_, slots4 rfl rfl rfl rfl, hp, by omega⟩
   ·intro hb2; (try simp only [decide_eq_true_eq, decide_eq_false_iff_not, Bool.not_eq_true', Bool.not_eq_false', Bool.not_eq_eq_eq_not, Bool.not_true, Bool.not_false, Int.not_lt, Int.not_le] at hb2)
    have hi1 : i < m := by have := hb2; omega
    obtain ⟨gX, bX, rfl⟩ := (Sl.row (hp.get 1 rfl)).addr (by rw [flat_length seC_len]; omega)
    refine GO_rdT (v := .int _ _) rfl (wn_on rfl rfl rfl rfl) rfl (fun w => (rd_move rfl rfl)) ?_
    refine GO_rdT (v := .slice _ _ _) rfl (wn_on rfl rfl rfl rfl) rfl (fun w => (rd_move rfl rfl)) ?_
    refine GO_rd rfl rfl (wn_on rfl rfl rfl rfl) rfl hpS (fun w hp => (rd_len rfl rfl Try.underlying24)) ?_
    refine GO_rd rfl rfl (wn_on rfl rfl rfl rfl) rfl hpS (fun w hp => (rd_bin rfl rfl rfl bo_geq)) ?_
    refine GO_rdT (v := .bool _) rfl (wn_none rfl) rfl (fun w => (rd_pickF rfl rfl rfl)) ?_
    refine GO_rdT (v := .bool _) rfl (wn_none rfl) rfl (fun w => (rd_move rfl rfl)) ?_
    refine GO_split (t := 39) (b := _) rfl ?_ ?_
    ·intro hb3; (try simp only [decide_eq_true_eq, decide_eq_false_iff_not, Bool.not_eq_true', Bool.not_eq_false', Bool.not_eq_eq_eq_not, Bool.not_true, Bool.not_false, Int.not_lt, Int.not_le] at hb3)
     have hu : unB (imask p l) (imask p q) i = true := unB_2 (by omega)
     refine GO_pass rfl (nw_off rfl rfl rfl rfl rfl) rfl ?_
     refine GO_pass rfl (nw_off rfl rfl rfl rfl rfl) rfl ?_
     refine GO_pass rfl (nw_off rfl rfl rfl rfl rfl) rfl ?_
     refine GO_pass rfl (nw_off rfl rfl rfl rfl rfl) rfl ?_
     refine GO_pass rfl (nw_off rfl rfl rfl rfl rfl) rfl ?_
     refine GO_pass rfl (nw_off rfl rfl rfl rfl rfl) rfl ?_
     refine GO_pass rfl (nw_off rfl rfl rfl rfl rfl) rfl ?_
     refine GO_pass rfl (nw_off rfl rfl rfl rfl rfl) rfl ?_
     refine GO_pass rfl (nw_off rfl rfl rfl rfl rfl) rfl ?_
     refine GO_rdT (v := .bool _) rfl (wn_none rfl) rfl (fun w => (rd_pickT rfl rfl rfl)) ?_
     refine GO_nil ?_
     refine GW_true rfl ?_
     refine GW_region ?_
     refine GL_rd (v := v) (wn_none rfl) rfl (rd_move rfl rfl) ?_
     refine GL_rd (v := .int _ _) (wn_none rfl) rfl (rd_move rfl rfl) ?_
     refine GL_lit (L := [.int .i64 (i : Int)]) (wn_none rfl) rfl rfl Try.underlying32 ts3 tz3 rfl (by kernel_rfl) rfl rfl hp ?_
     intro g3 w hp
     refine GL_append (i := 1) (wn_none rfl) rfl rfl rfl rfl Try.underlying32 ti3 rfl (by decide) hp rfl (Sl.row (hp.get 0 rfl)) (one1 rfl) (by omega) (by omega) ?_
     intro v2 w hp
     refine GL_rd (v := v2) (wn_none rfl) rfl (rd_assign rfl rfl) ?_
     refine GL_nil ?_
     refine GW_region ?_
     refine GL_rd (v := .int _ _) (wn_none rfl) rfl (rd_move rfl rfl) ?_
     refine GL_rd (wn_none rfl) rfl (rd_bin rfl rfl rfl (bo_add64 (by omega))) ?_
     refine GL_rd (v := .int _ _) (wn_none rfl) rfl (rd_assign rfl rfl) ?_
     refine GL_nil ?_
     have hp := ((((hp.front 3 rfl).front 3 rfl).front 3 rfl).take 3)
     have eU : Res.row 3 1 v2 ((unl (imask p l) (imask p q) i).length + 1) ((unl (imask p l) (imask p q) i).map (Value.int .i64) ++ [.int .i64 (i : Int)]) = .row 3 1 v2 (unl (imask p l) (imask p q) (i + 1)).length ((unl (imask p l) (imask p q) (i + 1)).map (Value.int .i64)) := by rw [unl_yes hu, List.length_append, List.map_append]; rfl
     rw [eU] at hp
     exact ihL0 (i + 1, v2, _, _) _ _ (by simp only []; omega) ⟨_, slots4 rfl rfl rfl rfl, hp, by omega⟩
    ·intro hb3; (try simp only [decide_eq_true_eq, decide_eq_false_iff_not, Bool.not_eq_true', Bool.not_eq_false', Bool.not_eq_eq_eq_not, Bool.not_true, Bool.not_false, Int.not_lt, Int.not_le] at hb3)
     have hi2 : i < k := by have := hb3; omega
     obtain ⟨gY, bY, rfl⟩ := (Sl.row (hp.get 2 rfl)).addr (by rw [flat_length seC_len]; omega)
     refine GO_rdT (v := .slice _ _ _) rfl (wn_on rfl rfl rfl rfl) rfl (fun w => (rd_move rfl rfl)) ?_
     refine GO_rdT (v := .int _ _) rfl (wn_on rfl rfl rfl rfl) rfl (fun w => (rd_move rfl rfl)) ?_
     refine GO_rdT rfl (wn_on rfl rfl rfl rfl) rfl (fun w => (rd_indexS (j := i) rfl rfl rfl Try.underlying24 ts44 rfl hi1 _ rfl)) ?_
     refine GO_rd rfl rfl (wn_on rfl rfl rfl rfl) rfl hpS (fun w hp => (rd_loadN (L := seC (seAt (imask p l) i)) rfl rfl Try.underlying44 rfl ts44 (seC_len _) (fun j u hj => (Sl.row (hp.get 1 rfl)).elem seC_len i j (seC_lt hj) (seAt_some (by rw [imask_length]; omega)) hj))) ?_
     refine GO_rdT (v := .slice _ _ _) rfl (wn_on rfl rfl rfl rfl) rfl (fun w => (rd_move rfl rfl)) ?_
     refine GO_rdT (v := .int _ _) rfl (wn_on rfl rfl rfl rfl) rfl (fun w => (rd_move rfl rfl)) ?_
     refine GO_rdT rfl (wn_on rfl rfl rfl rfl) rfl (fun w => (rd_indexS (j := i) rfl rfl rfl Try.underlying24 ts44 rfl hi2 _ rfl)) ?_
     refine GO_rd rfl rfl (wn_on rfl rfl rfl rfl) rfl hpS (fun w hp => (rd_loadN (L := seC (seAt (imask p q) i)) rfl rfl Try.underlying44 rfl ts44 (seC_len _) (fun j u hj => (Sl.row (hp.get 2 rfl)).elem seC_len i j (seC_lt hj) (seAt_some (by rw [imask_length]; omega)) hj))) ?_
     refine GO_rd rfl rfl (wn_on rfl rfl rfl rfl) rfl hpS (fun w hp => (rd_bin rfl rfl rfl (bo_arrB Try.underlying44 Try.underlying5 ts5 (by kernel_rfl) (seAt _ _).2 (seAt _ _).2).2)) ?_
     refine GO_rdT (v := .bool _) rfl (wn_none rfl) rfl (fun w => (rd_pickF rfl rfl rfl)) ?_
     refine GO_nil ?_
     refine GW_cond rfl (fun hb4 => ?_) (fun hb4 => ?_)
     ·(try simp only [decide_eq_true_eq, decide_eq_false_iff_not, Bool.not_eq_true', Bool.not_eq_false', Bool.not_eq_eq_eq_not, Bool.not_true, Bool.not_false, Int.not_lt, Int.not_le] at hb4)
      have hu : unB (imask p l) (imask p q) i = true := unB_3 hb4
      refine GW_region ?_
      refine GL_rd (v := v) (wn_none rfl) rfl (rd_move rfl rfl) ?_
      refine GL_rd (v := .int _ _) (wn_none rfl) rfl (rd_move rfl rfl) ?_
      refine GL_lit (L := [.int .i64 (i : Int)]) (wn_none rfl) rfl rfl Try.underlying32 ts3 tz3 rfl (by kernel_rfl) rfl rfl hp ?_
      intro g4 w hp
      refine GL_append (i := 1) (wn_none rfl) rfl rfl rfl rfl Try.underlying32 ti3 rfl (by decide) hp rfl (Sl.row (hp.get 0 rfl)) (one1 rfl) (by omega) (by omega) ?_
      intro v3 w hp
      refine GL_rd (v := v3) (wn_none rfl) rfl (rd_assign rfl rfl) ?_
      refine GL_nil ?_
      refine GW_region ?_
      refine GL_rd (v := .int _ _) (wn_none rfl) rfl (rd_move rfl rfl) ?_
      refine GL_rd (wn_none rfl) rfl (rd_bin rfl rfl rfl (bo_add64 (by omega))) ?_
      refine GL_rd (v := .int _ _) (wn_none rfl) rfl (rd_assign rfl rfl) ?_
      refine GL_nil ?_
      have hp := ((((hp.front 3 rfl).front 3 rfl).front 3 rfl).take 3)
      have eU : Res.row 3 1 v3 ((unl (imask p l) (imask p q) i).length + 1) ((unl (imask p l) (imask p q) i).map (Value.int .i64) ++ [.int .i64 (i : Int)]) = .row 3 1 v3 (unl (imask p l) (imask p q) (i + 1)).length ((unl (imask p l) (imask p q) (i + 1)).map (Value.int .i64)) := by rw [unl_yes hu, List.length_append, List.map_append]; rfl
      rw [eU] at hp
      exact ihL0 (i + 1, v3, _, _) _ _ (by simp only []; omega) ⟨_, slots4 rfl rfl rfl rfl, hp, by omega⟩
     ·(try simp only [decide_eq_true_eq, decide_eq_false_iff_not, Bool.not_eq_true', Bool.not_eq_false', Bool.not_eq_eq_eq_not, Bool.not_true, Bool.not_false, Int.not_lt, Int.not_le] at hb4)
      have hu : unB (imask p l) (imask p q) i = false := unB_no (by omega) (by omega) hb4
      refine GW_skip ?_
      refine GW_region ?_
      refine GL_rd (v := .int _ _) (wn_none rfl) rfl (rd_move rfl rfl) ?_
      refine GL_rd (wn_none rfl) rfl (rd_bin rfl rfl rfl (bo_add64 (by omega))) ?_
      refine GL_rd (v := .int _ _) (wn_none rfl) rfl (rd_assign rfl rfl) ?_
      refine GL_nil ?_
      have hp := ((((hp.front 2 rfl).front 2 rfl).front 2 rfl).take 3)
      rw [← unl_no hu] at hp
      exact ihL0 (i + 1, v, _, _) _ _ (by simp only []; omega) ⟨_, slots4 rfl rfl rfl rfl, hp, by omega⟩
  ·intro hb; (try simp only [decide_eq_true_eq, decide_eq_false_iff_not, Bool.not_eq_true', Bool.not_eq_false', Bool.not_eq_eq_eq_not, Bool.not_true, Bool.not_false, Int.not_lt, Int.not_le] at hb)
   refine GL_rd (v := .int _ _) (wn_on rfl rfl rfl rfl) rfl (rd_move rfl rfl) ?_
   refine GL_rd (v := .slice _ _ _) (wn_on rfl rfl rfl rfl) rfl (rd_move rfl rfl) ?_
   refine GL_rd (wn_on rfl rfl rfl rfl) rfl (rd_len rfl rfl Try.underlying24) ?_
   refine GL_rd (wn_on rfl rfl rfl rfl) rfl (rd_bin rfl rfl rfl bo_lss) ?_
   refine GL_rd (v := .bool _) (wn_none rfl) rfl (rd_pickF rfl rfl rfl) ?_
   refine GL_nil ?_
   refine GW_cond rfl (fun hb5 => ?_) (fun hb5 => ?_)
   ·(try simp only [decide_eq_true_eq, decide_eq_false_iff_not, Bool.not_eq_true', Bool.not_eq_false', Bool.not_eq_eq_eq_not, Bool.not_true, Bool.not_false, Int.not_lt, Int.not_le] at hb5)
    refine GW_skip ?_
    refine GW_seq ?_
    refine GW_block ?_
    refine GW_seq ?_
    refine GW_drawnK 21 (.one 0 true (.one 1 true (.one 2 true (.one 3 true (.one 4 true (.one 5 true (.one 6 true (.one 7 true (.one 8 true (.one 9 true (.one 10 true (.one 11 true (.one 12 true (.one 13 true (.one 14 true (.one 15 true (.one 16 true (.one 17 true (.one 18 true (.one 19 true (.one 20 true .nil))))))))))))))))))))) mixed (by kernel_rfl) hp (fun _ h => h) fun w hp => ?_
    have hpS2 := hp
    refine GO_rdT (v := .int _ _) rfl (wn_none rfl) rfl (fun w => (rd_move rfl rfl)) ?_
    refine GO_rdT (v := .slice _ _ _) rfl (wn_none rfl) rfl (fun w => (rd_move rfl rfl)) ?_
    refine GO_rd rfl rfl (wn_none rfl) rfl hpS2 (fun w hp => (rd_len rfl rfl Try.underlying24)) ?_
    refine GO_rd rfl rfl (wn_none rfl) rfl hpS2 (fun w hp => (rd_bin rfl rfl rfl bo_geq)) ?_
    refine GO_rdT (v := .bool _) rfl (wn_none rfl) rfl (fun w => (rd_move rfl rfl)) ?_
    refine GO_split (t := 33) (b := _) rfl ?_ ?_
    ·intro hb6; (try simp only [decide_eq_true_eq, decide_eq_false_iff_not, Bool.not_eq_true', Bool.not_eq_false', Bool.not_eq_eq_eq_not, Bool.not_true, Bool.not_false, Int.not_lt, Int.not_le] at hb6)
     have hu : unB (imask p l) (imask p q) i = true := unB_1 (by omega)
     refine GO_pass rfl (nw_off rfl rfl rfl rfl rfl) rfl ?_
     refine GO_pass rfl (nw_off rfl rfl rfl rfl rfl) rfl ?_
     refine GO_pass rfl (nw_off rfl rfl rfl rfl rfl) rfl ?_
     refine GO_pass rfl (nw_off rfl rfl rfl rfl rfl) rfl ?_
     refine GO_rdT (v := .bool _) rfl (wn_none rfl) rfl (fun w => (rd_pickT rfl rfl rfl)) ?_
     refine GO_rdT (v := .bool _) rfl (wn_none rfl) rfl (fun w => (rd_move rfl rfl)) ?_
     refine GO_pass rfl (nw_off rfl rfl rfl rfl rfl) rfl ?_
     refine GO_pass rfl (nw_off rfl rfl rfl rfl rfl) rfl ?_
     refine GO_pass rfl (nw_off rfl rfl rfl rfl rfl) rfl ?_
     refine GO_pass rfl (nw_off rfl rfl rfl rfl rfl) rfl ?_
     refine GO_pass rfl (nw_off rfl rfl rfl rfl rfl) rfl ?_
     refine GO_pass rfl (nw_off rfl rfl rfl rfl rfl) rfl ?_
     refine GO_pass rfl (nw_off rfl rfl rfl rfl rfl) rfl ?_
     refine GO_pass rfl (nw_off rfl rfl rfl rfl rfl) rfl ?_
     refine GO_pass rfl (nw_off rfl rfl rfl rfl rfl) rfl ?_
     refine GO_rdT (v := .bool _) rfl (wn_none rfl) rfl (fun w => (rd_pickT rfl rfl rfl)) ?_
     refine GO_nil ?_
     refine GW_true rfl ?_
     refine GW_region ?_
     refine GL_rd (v := v) (wn_none rfl) rfl (rd_move rfl rfl) ?_
     refine GL_rd (v := .int _ _) (wn_none rfl) rfl (rd_move rfl rfl) ?_
     refine GL_lit (L := [.int .i64 (i : Int)]) (wn_none rfl) rfl rfl Try.underlying32 ts3 tz3 rfl (by kernel_rfl) rfl rfl hp ?_
     intro g5 w hp
     refine GL_append (i := 1) (wn_none rfl) rfl rfl rfl rfl Try.underlying32 ti3 rfl (by decide) hp rfl (Sl.row (hp.get 0 rfl)) (one1 rfl) (by omega) (by omega) ?_
     intro v4 w hp
     refine GL_rd (v := v4) (wn_none rfl) rfl (rd_assign rfl rfl) ?_
     refine GL_nil ?_
     refine GW_region ?_
     refine GL_rd (v := .int _ _) (wn_none rfl) rfl (rd_move rfl rfl) ?_
     refine GL_rd (wn_none rfl) rfl (rd_bin rfl rfl rfl (bo_add64 (by omega))) ?_
     refine GL_rd (v := .int _ _) (wn_none rfl) rfl (rd_assign rfl rfl) ?_
     refine GL_nil ?_
     have hp := ((((hp.front 3 rfl).front 3 rfl).front 3 rfl).take 3)
     have eU : Res.row 3 1 v4 ((unl (imask p l) (imask p q) i).length + 1) ((unl (imask p l) (imask p q) i).map (Value.int .i64) ++ [.int .i64 (i : Int)]) = .row 3 1 v4 (unl (imask p l) (imask p q) (i + 1)).length ((unl (imask p l) (imask p q) (i + 1)).map (Value.int .i64)) := by rw [unl_yes hu, List.length_append, List.map_append]; rfl
     rw [eU] at hp
     exact ihL0 (i + 1, v4, _, _) _ _ (by simp only []; omega) ⟨_, slots4 rfl rfl rfl rfl, hp, by omega⟩
    ·intro hb6; (try simp only [decide_eq_true_eq, decide_eq_false_iff_not, Bool.not_eq_true', Bool.not_eq_false', Bool.not_eq_eq_eq_not, Bool.not_true, Bool.not_false, Int.not_lt, Int.not_le] at hb6)
     have hi1 : i < m := by have := hb6; omega
     obtain ⟨gX, bX, rfl⟩ := (Sl.row (hp.get 1 rfl)).addr (by rw [flat_length seC_len]; omega)
     refine GO_rdT (v := .int _ _) rfl (wn_on rfl rfl rfl rfl) rfl (fun w => (rd_move rfl rfl)) ?_
     refine GO_rdT (v := .slice _ _ _) rfl (wn_on rfl rfl rfl rfl) rfl (fun w => (rd_move rfl rfl)) ?_
     refine GO_rd rfl rfl (wn_on rfl rfl rfl rfl) rfl hpS2 (fun w hp => (rd_len rfl rfl Try.underlying24)) ?_
     refine GO_rd rfl rfl (wn_on rfl rfl rfl rfl) rfl hpS2 (fun w hp => (rd_bin rfl rfl rfl bo_geq)) ?_
     refine GO_rdT (v := .bool _) rfl (wn_none rfl) rfl (fun w => (rd_pickF rfl rfl rfl)) ?_
     refine GO_rdT (v := .bool _) rfl (wn_none rfl) rfl (fun w => (rd_move rfl rfl)) ?_
     refine GO_split (t := 39) (b := _) rfl ?_ ?_
     ·intro hb7; (try simp only [decide_eq_true_eq, decide_eq_false_iff_not, Bool.not_eq_true', Bool.not_eq_false', Bool.not_eq_eq_eq_not, Bool.not_true, Bool.not_false, Int.not_lt, Int.not_le] at hb7)
      have hu : unB (imask p l) (imask p q) i = true := unB_2 (by omega)
      refine GO_pass rfl (nw_off rfl rfl rfl rfl rfl) rfl ?_
      refine GO_pass rfl (nw_off rfl rfl rfl rfl rfl) rfl ?_
      refine GO_pass rfl (nw_off rfl rfl rfl rfl rfl) rfl ?_
      refine GO_pass rfl (nw_off rfl rfl rfl rfl rfl) rfl ?_
      refine GO_pass rfl (nw_off rfl rfl rfl rfl rfl) rfl ?_
      refine GO_pass rfl (nw_off rfl rfl rfl rfl rfl) rfl ?_
      refine GO_pass rfl (nw_off rfl rfl rfl rfl rfl) rfl ?_
      refine GO_pass rfl (nw_off rfl rfl rfl rfl rfl) rfl ?_
      refine GO_pass rfl (nw_off rfl rfl rfl rfl rfl) rfl ?_
      refine GO_rdT (v := .bool _) rfl (wn_none rfl) rfl (fun w => (rd_pickT rfl rfl rfl)) ?_
      refine GO_nil ?_
      refine GW_true rfl ?_
      refine GW_region ?_
      refine GL_rd (v := v) (wn_none rfl) rfl (rd_move rfl rfl) ?_
      refine GL_rd (v := .int _ _) (wn_none rfl) rfl (rd_move rfl rfl) ?_
      refine GL_lit (L := [.int .i64 (i : Int)]) (wn_none rfl) rfl rfl Try.underlying32 ts3 tz3 rfl (by kernel_rfl) rfl rfl hp ?_
      intro g6 w hp
      refine GL_append (i := 1) (wn_none rfl) rfl rfl rfl rfl Try.underlying32 ti3 rfl (by decide) hp rfl (Sl.row (hp.get 0 rfl)) (one1 rfl) (by omega) (by omega) ?_
      intro v5 w hp
      refine GL_rd (v := v5) (wn_none rfl) rfl (rd_assign rfl rfl) ?_
      refine GL_nil ?_
      refine GW_region ?_
      refine GL_rd (v := .int _ _) (wn_none rfl) rfl (rd_move rfl rfl) ?_
      refine GL_rd (wn_none rfl) rfl (rd_bin rfl rfl rfl (bo_add64 (by omega))) ?_
      refine GL_rd (v := .int _ _) (wn_none rfl) rfl (rd_assign rfl rfl) ?_
      refine GL_nil ?_
      have hp := ((((hp.front 3 rfl).front 3 rfl).front 3 rfl).take 3)
      have eU : Res.row 3 1 v5 ((unl (imask p l) (imask p q) i).length + 1) ((unl (imask p l) (imask p q) i).map (Value.int .i64) ++ [.int .i64 (i : Int)]) = .row 3 1 v5 (unl (imask p l) (imask p q) (i + 1)).length ((unl (imask p l) (imask p q) (i + 1)).map (Value.int .i64)) := by rw [unl_yes hu, List.length_append, List.map_append]; rfl
      rw [eU] at hp
      exact ihL0 (i + 1, v5, _, _) _ _ (by simp only []; omega) ⟨_, slots4 rfl rfl rfl rfl, hp, by omega⟩
     ·intro hb7; (try simp only [decide_eq_true_eq, decide_eq_false_iff_not, Bool.not_eq_true', Bool.not_eq_false', Bool.not_eq_eq_eq_not, Bool.not_true, Bool.not_false, Int.not_lt, Int.not_le] at hb7)
      have hi2 : i < k := by have := hb7; omega
      obtain ⟨gY, bY, rfl⟩ := (Sl.row (hp.get 2 rfl)).addr (by rw [flat_length seC_len]; omega)
      refine GO_rdT (v := .slice _ _ _) rfl (wn_on rfl rfl rfl rfl) rfl (fun w => (rd_move rfl rfl)) ?_
      refine GO_rdT (v := .int _ _) rfl (wn_on rfl rfl rfl rfl) rfl (fun w => (rd_move rfl rfl)) ?_
      refine GO_rdT rfl (wn_on rfl rfl rfl rfl) rfl (fun w => (rd_indexS (j := i) rfl rfl rfl Try.underlying24 ts44 rfl hi1 _ rfl)) ?_
      refine GO_rd rfl rfl (wn_on rfl rfl rfl rfl) rfl hpS2 (fun w hp => (rd_loadN (L := seC (seAt (imask p l) i)) rfl rfl Try.underlying44 rfl ts44 (seC_len _) (fun j u hj => (Sl.row (hp.get 1 rfl)).elem seC_len i j (seC_lt hj) (seAt_some (by rw [imask_length]; omega)) hj))) ?_
      refine GO_rdT (v := .slice _ _ _) rfl (wn_on rfl rfl rfl rfl) rfl (fun w => (rd_move rfl rfl)) ?_
      refine GO_rdT (v := .int _ _) rfl (wn_on rfl rfl rfl rfl) rfl (fun w => (rd_move rfl rfl)) ?_
      refine GO_rdT rfl (wn_on rfl rfl rfl rfl) rfl (fun w => (rd_indexS (j := i) rfl rfl rfl Try.underlying24 ts44 rfl hi2 _ rfl)) ?_
      refine GO_rd rfl rfl (wn_on rfl rfl rfl rfl) rfl hpS2 (fun w hp => (rd_loadN (L := seC (seAt (imask p q) i)) rfl rfl Try.underlying44 rfl ts44 (seC_len _) (fun j u hj => (Sl.row (hp.get 2 rfl)).elem seC_len i j (seC_lt hj) (seAt_some (by rw [imask_length]; omega)) hj))) ?_
      refine GO_rd rfl rfl (wn_on rfl rfl rfl rfl) rfl hpS2 (fun w hp => (rd_bin rfl rfl rfl (bo_arrB Try.underlying44 Try.underlying5 ts5 (by kernel_rfl) (seAt _ _).2 (seAt _ _).2).2)) ?_
      refine GO_rdT (v := .bool _) rfl (wn_none rfl) rfl (fun w => (rd_pickF rfl rfl rfl)) ?_
      refine GO_nil ?_
      refine GW_cond rfl (fun hb8 => ?_) (fun hb8 => ?_)
      ·(try simp only [decide_eq_true_eq, decide_eq_false_iff_not, Bool.not_eq_true', Bool.not_eq_false', Bool.not_eq_eq_eq_not, Bool.not_true, Bool.not_false, Int.not_lt, Int.not_le] at hb8)
       have hu : unB (imask p l) (imask p q) i = true := unB_3 hb8
       refine GW_region ?_
       refine GL_rd (v := v) (wn_none rfl) rfl (rd_move rfl rfl) ?_
       refine GL_rd (v := .int _ _) (wn_none rfl) rfl (rd_move rfl rfl) ?_
       refine GL_lit (L := [.int .i64 (i : Int)]) (wn_none rfl) rfl rfl Try.underlying32 ts3 tz3 rfl (by kernel_rfl) rfl rfl hp ?_
       intro g7 w hp
       refine GL_append (i := 1) (wn_none rfl) rfl rfl rfl rfl Try.underlying32 ti3 rfl (by decide) hp rfl (Sl.row (hp.get 0 rfl)) (one1 rfl) (by omega) (by omega) ?_
       intro v6 w hp
       refine GL_rd (v := v6) (wn_none rfl) rfl (rd_assign rfl rfl) ?_
       refine GL_nil ?_
       refine GW_region ?_
       refine GL_rd (v := .int _ _) (wn_none rfl) rfl (rd_move rfl rfl) ?_
       refine GL_rd (wn_none rfl) rfl (rd_bin rfl rfl rfl (bo_add64 (by omega))) ?_
       refine GL_rd (v := .int _ _) (wn_none rfl) rfl (rd_assign rfl rfl) ?_
       refine GL_nil ?_
       have hp := ((((hp.front 3 rfl).front 3 rfl).front 3 rfl).take 3)
       have eU : Res.row 3 1 v6 ((unl (imask p l) (imask p q) i).length + 1) ((unl (imask p l) (imask p q) i).map (Value.int .i64) ++ [.int .i64 (i : Int)]) = .row 3 1 v6 (unl (imask p l) (imask p q) (i + 1)).length ((unl (imask p l) (imask p q) (i + 1)).map (Value.int .i64)) := by rw [unl_yes hu, List.length_append, List.map_append]; rfl
       rw [eU] at hp
       exact ihL0 (i + 1, v6, _, _) _ _ (by simp only []; omega) ⟨_, slots4 rfl rfl rfl rfl, hp, by omega⟩
      ·(try simp only [decide_eq_true_eq, decide_eq_false_iff_not, Bool.not_eq_true', Bool.not_eq_false', Bool.not_eq_eq_eq_not, Bool.not_true, Bool.not_false, Int.not_lt, Int.not_le] at hb8)
       have hu : unB (imask p l) (imask p q) i = false := unB_no (by omega) (by omega) hb8
       refine GW_skip ?_
       refine GW_region ?_
       refine GL_rd (v := .int _ _) (wn_none rfl) rfl (rd_move rfl rfl) ?_
       refine GL_rd (wn_none rfl) rfl (rd_bin rfl rfl rfl (bo_add64 (by omega))) ?_
       refine GL_rd (v := .int _ _) (wn_none rfl) rfl (rd_assign rfl rfl) ?_
       refine GL_nil ?_
       have hp := ((((hp.front 2 rfl).front 2 rfl).front 2 rfl).take 3)
       rw [← unl_no hu] at hp
       exact ihL0 (i + 1, v, _, _) _ _ (by simp only []; omega) ⟨_, slots4 rfl rfl rfl rfl, hp, by omega⟩
   ·(try simp only [decide_eq_true_eq, decide_eq_false_iff_not, Bool.not_eq_true', Bool.not_eq_false', Bool.not_eq_eq_eq_not, Bool.not_true, Bool.not_false, Int.not_lt, Int.not_le] at hb5)
    refine GW_exit ?_
    refine GW_seq ?_
    refine GW_region ?_
    refine GL_rd (v := v) (wn_none rfl) rfl (rd_move rfl rfl) ?_
    refine GL_rd (v := v) (wn_none rfl) rfl (rd_assign rfl rfl) ?_
    refine GL_nil ?_
    refine GW_ret ?_
    obtain rfl : i = max m k := by omega
    refine ⟨_, res1 Try.results19 (rv_tmp (v := v) rfl rfl), ?_⟩
    have hp := ((hp.front 0 rfl).take 1)
    exact hp
 ·have hp := (((hp.front 0 rfl).front 1 rfl).take 2)
  have hp := hp.nilRow 3 1
  refine ⟨_, slots4 rfl rfl rfl rfl, hp, Nat.zero_le _⟩

theorem ref_SameImage (sv tv : Value) (m : Nat) (l : List Sec) (w0 : World) (hI : Sl w0 sv 256 m (l.flatMap seC)) (hJ : Sl w0 tv 256 m (l.flatMap seC)) (hm : m ≤ 100000) : Does Try.prog 20 #[sv, tv] w0 fun v w' => v = .bool true ∧ Hp w0 [] w' [] := by
 obtain ⟨A, c, rfl⟩ := sl_shape hI
 have hlen := flat_len seC_len (by decide) hI.len
 obtain ⟨B, d, rfl⟩ := sl_shape hJ
 refine does_of (l := [.slice A m c, .slice B m d]) Try.func20 (by kernel_rfl) rfl Try.ntmps20 rfl rfl ?_
 have hp := Hp.refl w0 []
 refine GW_seq ?_
 refine GW_region ?_
 refine GL_rd (v := .bool _) (wn_none rfl) rfl (rd_assign rfl rfl) ?_
 refine GL_nil ?_
 refine GW_seq ?_
 refine GW_seq ?_
 refine GW_region ?_
 refine GL_rd (v := .slice _ _ _) (wn_none rfl) rfl (rd_move rfl rfl) ?_
 refine GL_rd (wn_none rfl) rfl (rd_len rfl rfl Try.underlying24) ?_
 refine GL_rd (v := .slice _ _ _) (wn_none rfl) rfl (rd_move rfl rfl) ?_
 refine GL_rd (wn_none rfl) rfl (rd_len rfl rfl Try.underlying24) ?_
 refine GL_rd (wn_none rfl) rfl (rd_bin rfl rfl rfl bo_neq) ?_
 refine GL_nil ?_
 refine GW_cond rfl (fun hb => ?_) (fun hb => ?_)
 ·(try simp only [decide_eq_true_eq, decide_eq_false_iff_not, Bool.not_eq_true', Bool.not_eq_false', Bool.not_eq_eq_eq_not, Bool.not_true, Bool.not_false, Int.not_lt, Int.not_le] at hb)
  exact absurd trivial hb
 ·(try simp only [decide_eq_true_eq, decide_eq_false_iff_not, Bool.not_eq_true', Bool.not_eq_false', Bool.not_eq_eq_eq_not, Bool.not_true, Bool.not_false, Int.not_lt, Int.not_le] at hb)
  refine GW_skip ?_
  refine GW_seq ?_
  refine GW_seq ?_
  refine GW_region ?_
  refine GL_rd (v := .int _ _) (wn_none rfl) rfl (rd_assign rfl rfl) ?_
  refine GL_nil ?_
  refine GW_block ?_
  refine GW_loop ?_
  refine Lp_ind (α := Nat) (fun a_0 f_0 w' => match a_0 with | i => ∃ fz, f_0 = (upd (upd (upd fz 0 (.slice A m c)) 1 (.slice B m d)) 5 (.int .i64 (i : Int))) ∧ Hp w0 [] w' [] ∧ (i ≤ m)) (fun a_0 => match a_0 with | i => m - i) ?_ 0 _ _ ?_
  ·rintro i f wz ⟨fz, rfl, hp, hi0⟩ ihL0
   refine Lp_round ?_
   refine GW_seq ?_
   refine GW_seq ?_
   refine GW_region ?_
   refine GL_rd (v := .int _ _) (wn_none rfl) rfl (rd_move rfl rfl) ?_
   refine GL_rd (v := .slice _ _ _) (wn_none rfl) rfl (rd_move rfl rfl) ?_
   refine GL_rd (wn_none rfl) rfl (rd_len rfl rfl Try.underlying24) ?_
   refine GL_rd (wn_none rfl) rfl (rd_bin rfl rfl rfl bo_lss) ?_
   refine GL_nil ?_
   refine GW_cond rfl (fun hb2 => ?_) (fun hb2 => ?_)
   ·(try simp only [decide_eq_true_eq, decide_eq_false_iff_not, Bool.not_eq_true', Bool.not_eq_false', Bool.not_eq_eq_eq_not, Bool.not_true, Bool.not_false, Int.not_lt, Int.not_le] at hb2)
    obtain ⟨gB, bB, rfl⟩ := hI.addr (by rw [flat_length seC_len]; omega)
    obtain ⟨gC, bC, rfl⟩ := hJ.addr (by rw [flat_length seC_len]; omega)
    refine GW_skip ?_
    refine GW_seq ?_
    refine GW_block ?_
    refine GW_seq ?_
    refine GW_drawnK 9 (.one 0 true (.one 1 true (.one 2 true (.one 3 true (.one 4 true (.one 5 true (.one 6 true (.one 7 true (.one 8 true .nil))))))))) mixed (by kernel_rfl) hp (fun _ h => h) fun w hp => ?_
    have hpS := hp
    refine GO_rdT (v := .slice _ _ _) rfl (wn_none rfl) rfl (fun w => (rd_move rfl rfl)) ?_
    refine GO_rdT (v := .int _ _) rfl (wn_none rfl) rfl (fun w => (rd_move rfl rfl)) ?_
    refine GO_rdT rfl (wn_none rfl) rfl (fun w => (rd_indexS (j := i) rfl rfl rfl Try.underlying24 ts44 rfl (by omega) _ rfl)) ?_
    refine GO_rd rfl rfl (wn_none rfl) rfl hpS (fun w hp => (rd_loadN (L := seC (seAt l i)) rfl rfl Try.underlying44 rfl ts44 (seC_len _) (fun jq u hj => (hI.keep hp.mod).elem seC_len i jq (seC_lt hj) (seAt_some (by omega)) hj))) ?_
    refine GO_rdT (v := .slice _ _ _) rfl (wn_none rfl) rfl (fun w => (rd_move rfl rfl)) ?_
    refine GO_rdT (v := .int _ _) rfl (wn_none rfl) rfl (fun w => (rd_move rfl rfl)) ?_
    refine GO_rdT rfl (wn_none rfl) rfl (fun w => (rd_indexS (j := i) rfl rfl rfl Try.underlying24 ts44 rfl (by omega) _ rfl)) ?_
    refine GO_rd rfl rfl (wn_none rfl) rfl hpS (fun w hp => (rd_loadN (L := seC (seAt l i)) rfl rfl Try.underlying44 rfl ts44 (seC_len _) (fun j u hj => (hJ.keep hp.mod).elem seC_len i j (seC_lt hj) (seAt_some (by omega)) hj))) ?_
    refine GO_rd rfl rfl (wn_none rfl) rfl hpS (fun w hp => (rd_bin rfl rfl rfl (bo_arrB Try.underlying44 Try.underlying5 ts5 (by kernel_rfl) (seAt _ _).2 (seAt _ _).2).2)) ?_
    refine GO_nil ?_
    refine GW_cond rfl (fun hb3 => ?_) (fun hb3 => ?_)
    ·(try simp only [decide_eq_true_eq, decide_eq_false_iff_not, Bool.not_eq_true', Bool.not_eq_false', Bool.not_eq_eq_eq_not, Bool.not_true, Bool.not_false, Int.not_lt, Int.not_le] at hb3)
     exact absurd trivial hb3
    ·(try simp only [decide_eq_true_eq, decide_eq_false_iff_not, Bool.not_eq_true', Bool.not_eq_false', Bool.not_eq_eq_eq_not, Bool.not_true, Bool.not_false, Int.not_lt, Int.not_le] at hb3)
     refine GW_skip ?_
     refine GW_region ?_
     refine GL_rd (v := .int _ _) (wn_none rfl) rfl (rd_move rfl rfl) ?_
     refine GL_rd (wn_none rfl) rfl (rd_bin rfl rfl rfl (bo_add64 (by omega))) ?_
     refine GL_rd (v := .int _ _) (wn_none rfl) rfl (rd_assign rfl rfl) ?_
     refine GL_nil ?_
     exact ihL0 (i + 1) _ _ (by simp only []; omega) ⟨_, slots3 rfl rfl rfl, hp, by omega⟩
   ·(try simp only [decide_eq_true_eq, decide_eq_false_iff_not, Bool.not_eq_true', Bool.not_eq_false', Bool.not_eq_eq_eq_not, Bool.not_true, Bool.not_false, Int.not_lt, Int.not_le] at hb2)
    refine GW_exit ?_
    refine GW_seq ?_
    refine GW_region ?_
    refine GL_rd (v := .bool _) (wn_none rfl) rfl (rd_assign rfl rfl) ?_
    refine GL_nil ?_
    refine GW_ret ?_
    exact ⟨_, res1 Try.results20 (rv_tmp (v := .bool _) rfl rfl), rfl, hp.mods⟩
  ·refine ⟨_, slots3 rfl rfl rfl, hp, Nat.zero_le _⟩

theorem mask_Differ (sv tv : Value) (m k : Nat) (l q : List Sec) (w0 : World) (hI : Sl w0 sv 256 m (l.flatMap seC)) (hm : m ≤ 100000) (hJ : Sl w0 tv 256 k (q.flatMap seC)) (hk2 : k ≤ 100000) : Does Try.prog 23 #[sv, tv] w0 fun v w' => v = .int .i64 ((difN l q (max m k) : Nat) : Int) ∧ Hp w0 [] w' [] := by
 have hlen := flat_len seC_len (by decide) hI.len
 have hlek := flat_len seC_len (by decide) hJ.len
 obtain ⟨A, c, rfl⟩ := sl_shape hI
 obtain ⟨B, d, rfl⟩ := sl_shape hJ
 refine does_of (l := [.slice A m c, .slice B k d]) Try.func23 (by kernel_rfl) rfl Try.ntmps23 rfl rfl ?_
 have hp := Hp.refl w0 []
 refine GW_seq ?_
 refine GW_region ?_
 refine GL_rd (v := .int _ _) (wn_none rfl) rfl (rd_assign rfl rfl) ?_
 refine GL_nil ?_
 refine GW_seq ?_
 refine GW_region ?_
 refine GL_rd (v := .int _ _) (wn_none rfl) rfl (rd_assign rfl rfl) ?_
 refine GL_nil ?_
 refine GW_seq ?_
 refine GW_seq ?_
 refine GW_region ?_
 refine GL_rd (v := .slice _ _ _) (wn_none rfl) rfl (rd_move rfl rfl) ?_
 refine GL_rd (wn_none rfl) rfl (rd_len rfl rfl Try.underlying24) ?_
 refine GL_rd (v := .slice _ _ _) (wn_none rfl) rfl (rd_move rfl rfl) ?_
 refine GL_rd (wn_none rfl) rfl (rd_len rfl rfl Try.underlying24) ?_
 refine GL_rd (wn_none rfl) rfl (rd_max rfl rfl rfl) ?_
 refine GL_rd (v := .int _ _) (wn_none rfl) rfl (rd_move rfl rfl) ?_
 refine GL_nil ?_
 refine GW_block ?_
 refine GW_loop ?_
 refine Lp_ind (α := Nat) (fun a_0 f_0 w' => match a_0 with | i => ∃ fz, f_0 = (upd (upd (upd (upd (upd fz 0 (.slice A m c)) 1 (.slice B k d)) 5 (.int .i64 ((difN l q i : Nat) : Int))) 12 (.int .i64 (max (m : Int) (k : Int)))) 13 (.int .i64 (i : Int))) ∧ Hp w0 [] w' [] ∧ (i ≤ max m k)) (fun a_0 => match a_0 with | i => max m k - i) ?_ 0 _ _ ?_
 ·rintro i f wz ⟨fz, rfl, hp, hi0⟩ ihL0
  have hn1 := difN_le l q i
  refine Lp_round ?_
  refine GW_seq ?_
  refine GW_region ?_
  refine GL_rd (wn_none rfl) rfl (rd_bin rfl rfl rfl bo_lss) ?_
  refine GL_nil ?_
  refine GW_seq ?_
  refine GW_cond rfl (fun hb => ?_) (fun hb => ?_)
  ·(try simp only [decide_eq_true_eq, decide_eq_false_iff_not, Bool.not_eq_true', Bool.not_eq_false', Bool.not_eq_eq_eq_not, Bool.not_true, Bool.not_false, Int.not_lt, Int.not_le] at hb)
   refine GW_skip ?_
   refine GW_seq ?_
   refine GW_block ?_
   refine GW_seq ?_
   refine GW_region ?_
   refine GL_rd (v := .int _ _) (wn_none rfl) rfl (rd_move rfl rfl) ?_
   refine GL_rd (v := .int _ _) (wn_none rfl) rfl (rd_assign rfl rfl) ?_
   refine GL_nil ?_
   refine GW_seq ?_
   refine GW_seq ?_
   refine GW_region ?_
   refine GL_rd (v := .int _ _) (wn_none rfl) rfl (rd_move rfl rfl) ?_
   refine GL_rd (v := .slice _ _ _) (wn_none rfl) rfl (rd_move rfl rfl) ?_
   refine GL_rd (wn_none rfl) rfl (rd_len rfl rfl Try.underlying24) ?_
   refine GL_rd (wn_none rfl) rfl (rd_bin rfl rfl rfl bo_geq) ?_
   refine GL_rd (v := .bool _) (wn_none rfl) rfl (rd_move rfl rfl) ?_
   refine GL_split (t := 20) (b := _) rfl ?_ ?_
   ·intro hb2; (try simp only [decide_eq_true_eq, decide_eq_false_iff_not, Bool.not_eq_true', Bool.not_eq_false', Bool.not_eq_eq_eq_not, Bool.not_true, Bool.not_false, Int.not_lt, Int.not_le] at hb2)
    have ho : difO l q i = true := difO_1 (by omega)
    have hdn : ((difN l q i : Nat) : Int) + 256 = ((difN l q (i + 1) : Nat) : Int) := by rw [difN, dfJ_all ho]; omega
    refine GL_pass (nw_off rfl rfl rfl rfl rfl) rfl ?_
    refine GL_pass (nw_off rfl rfl rfl rfl rfl) rfl ?_
    refine GL_pass (nw_off rfl rfl rfl rfl rfl) rfl ?_
    refine GL_pass (nw_off rfl rfl rfl rfl rfl) rfl ?_
    refine GL_rd (v := .bool _) (wn_none rfl) rfl (rd_pickT rfl rfl rfl) ?_
    refine GL_nil ?_
    refine GW_true rfl ?_
    refine GW_seq ?_
    refine GW_region ?_
    refine GL_rd (v := .int _ _) (wn_none rfl) rfl (rd_move rfl rfl) ?_
    refine GL_rd (wn_none rfl) rfl (rd_bin rfl rfl rfl (bo_int (q := ((difN l q (i + 1) : Nat) : Int)) (bo_add64 (by omega)) hdn)) ?_
    refine GL_rd (v := .int _ _) (wn_none rfl) rfl (rd_assign rfl rfl) ?_
    refine GL_nil ?_
    refine GW_exit ?_
    refine GW_region ?_
    refine GL_rd (wn_none rfl) rfl (rd_bin rfl rfl rfl (bo_add64 (by omega))) ?_
    refine GL_rd (v := .int _ _) (wn_none rfl) rfl (rd_move rfl rfl) ?_
    refine GL_nil ?_
    exact ihL0 (i + 1) _ _ (by simp only []; omega) ⟨_, slots5 rfl rfl (by first | rfl | (rw [hdn]; rfl) | exact congrArg (fun z : Nat => Value.int .i64 (z : Int)) hdn) rfl rfl, hp, by omega⟩
   ·intro hb2; (try simp only [decide_eq_true_eq, decide_eq_false_iff_not, Bool.not_eq_true', Bool.not_eq_false', Bool.not_eq_eq_eq_not, Bool.not_true, Bool.not_false, Int.not_lt, Int.not_le] at hb2)
    have hi1 : i < m := by have := hb2; omega
    refine GL_rd (v := .int _ _) (wn_on rfl rfl rfl rfl) rfl (rd_move rfl rfl) ?_
    refine GL_rd (v := .slice _ _ _) (wn_on rfl rfl rfl rfl) rfl (rd_move rfl rfl) ?_
    refine GL_rd (wn_on rfl rfl rfl rfl) rfl (rd_len rfl rfl Try.underlying24) ?_
    refine GL_rd (wn_on rfl rfl rfl rfl) rfl (rd_bin rfl rfl rfl bo_geq) ?_
    refine GL_rd (v := .bool _) (wn_none rfl) rfl (rd_pickF rfl rfl rfl) ?_
    refine GL_nil ?_
    refine GW_cond rfl (fun hb3 => ?_) (fun hb3 => ?_)
    ·(try simp only [decide_eq_true_eq, decide_eq_false_iff_not, Bool.not_eq_true', Bool.not_eq_false', Bool.not_eq_eq_eq_not, Bool.not_true, Bool.not_false, Int.not_lt, Int.not_le] at hb3)
     have ho : difO l q i = true := difO_2 (by have := hb3; omega)
     have hdn : ((difN l q i : Nat) : Int) + 256 = ((difN l q (i + 1) : Nat) : Int) := by rw [difN, dfJ_all ho]; omega
     refine GW_seq ?_
     refine GW_region ?_
     refine GL_rd (v := .int _ _) (wn_none rfl) rfl (rd_move rfl rfl) ?_
     refine GL_rd (wn_none rfl) rfl (rd_bin rfl rfl rfl (bo_int (q := ((difN l q (i + 1) : Nat) : Int)) (bo_add64 (by omega)) hdn)) ?_
     refine GL_rd (v := .int _ _) (wn_none rfl) rfl (rd_assign rfl rfl) ?_
     refine GL_nil ?_
     refine GW_exit ?_
     refine GW_region ?_
     refine GL_rd (wn_none rfl) rfl (rd_bin rfl rfl rfl (bo_add64 (by omega))) ?_
     refine GL_rd (v := .int _ _) (wn_none rfl) rfl (rd_move rfl rfl) ?_
     refine GL_nil ?_
     exact ihL0 (i + 1) _ _ (by simp only []; omega) ⟨_, slots5 rfl rfl (by first | rfl | (rw [hdn]; rfl) | exact congrArg (fun z : Nat => Value.int .i64 (z : Int)) hdn) rfl rfl, hp, by omega⟩
    ·(try simp only [decide_eq_true_eq, decide_eq_false_iff_not, Bool.not_eq_true', Bool.not_eq_false', Bool.not_eq_eq_eq_not, Bool.not_true, Bool.not_false, Int.not_lt, Int.not_le] at hb3)
     have hi2 : i < k := by have := hb3; omega
     have hno : difO l q i = false := difO_no (by omega) (by omega)
     obtain ⟨gB, bB, rfl⟩ := hI.addr (by rw [flat_length seC_len]; omega)
     obtain ⟨gC, bC, rfl⟩ := hJ.addr (by rw [flat_length seC_len]; omega)
     refine GW_skip ?_
     refine GW_seq ?_
     refine GW_region ?_
     refine GL_rd (v := .int _ _) (wn_none rfl) rfl (rd_move rfl rfl) ?_
     refine GL_nil ?_
     refine GW_block ?_
     refine GW_loop ?_
     refine Lp_ind (α := Nat) (fun a_0 f_0 w' => match a_0 with | j => ∃ fz, f_0 = (upd (upd (upd (upd (upd (upd (upd fz 0 (.slice (some ⟨gB, bB, none⟩) m c)) 1 (.slice (some ⟨gC, bC, none⟩) k d)) 5 (.int .i64 ((difN l q i + dfJ l q i j : Nat) : Int))) 6 (.int .i64 (i : Int))) 12 (.int .i64 (max (m : Int) (k : Int)))) 13 (.int .i64 (i : Int))) 28 (.int .i64 (j : Int))) ∧ Hp w0 [] w' [] ∧ (j ≤ 256)) (fun a_0 => match a_0 with | j => 256 - j) ?_ 0 _ _ ?_
     ·rintro j f wz ⟨fz, rfl, hp, hj0⟩ ihL1
      have hn2 := dfJ_le l q i j
      refine Lp_round ?_
      refine GW_seq ?_
      refine GW_region ?_
      refine GL_rd (wn_none rfl) rfl (rd_bin rfl rfl rfl bo_lss) ?_
      refine GL_nil ?_
      refine GW_seq ?_
      refine GW_cond rfl (fun hb4 => ?_) (fun hb4 => ?_)
      ·(try simp only [decide_eq_true_eq, decide_eq_false_iff_not, Bool.not_eq_true', Bool.not_eq_false', Bool.not_eq_eq_eq_not, Bool.not_true, Bool.not_false, Int.not_lt, Int.not_le] at hb4)
       refine GW_skip ?_
       refine GW_seq ?_
       refine GW_block ?_
       refine GW_seq ?_
       refine GW_region ?_
       refine GL_rd (v := .int _ _) (wn_none rfl) rfl (rd_move rfl rfl) ?_
       refine GL_rd (v := .int _ _) (wn_none rfl) rfl (rd_assign rfl rfl) ?_
       refine GL_nil ?_
       refine GW_seq ?_
       refine GW_drawnK 13 (.one 0 true (.one 1 true (.one 2 true (.one 3 true (.one 4 true (.one 5 true (.one 6 true (.one 7 true (.one 8 true (.one 9 true (.one 10 true (.one 11 true (.one 12 true .nil))))))))))))) mixed (by kernel_rfl) hp (fun _ h => h) fun w hp => ?_
       have hpS := hp
       refine GO_rdT (v := .slice _ _ _) rfl (wn_none rfl) rfl (fun w => (rd_move rfl rfl)) ?_
       refine GO_rdT (v := .int _ _) rfl (wn_none rfl) rfl (fun w => (rd_move rfl rfl)) ?_
       refine GO_rdT (v := .int _ _) rfl (wn_none rfl) rfl (fun w => (rd_move rfl rfl)) ?_
       refine GO_rdT rfl (wn_none rfl) rfl (fun w => (rd_indexS (j := i) rfl rfl rfl Try.underlying24 ts44 rfl (by omega) _ rfl)) ?_
       refine GO_rdT rfl (wn_none rfl) rfl (fun w => (rd_indexA (j := j) rfl rfl rfl Try.underlying44 ts5 rfl (by omega) _ rfl)) ?_
       refine GO_rd rfl rfl (wn_none rfl) rfl hpS (fun w hp => (rd_load rfl rfl Try.underlying5 rfl (se_byte (hI.keep hp.mod) (by omega) (by omega)))) ?_
       refine GO_rdT (v := .slice _ _ _) rfl (wn_none rfl) rfl (fun w => (rd_move rfl rfl)) ?_
       refine GO_rdT (v := .int _ _) rfl (wn_none rfl) rfl (fun w => (rd_move rfl rfl)) ?_
       refine GO_rdT (v := .int _ _) rfl (wn_none rfl) rfl (fun w => (rd_move rfl rfl)) ?_
       refine GO_rdT rfl (wn_none rfl) rfl (fun w => (rd_indexS (j := i) rfl rfl rfl Try.underlying24 ts44 rfl (by omega) _ rfl)) ?_
       refine GO_rdT rfl (wn_none rfl) rfl (fun w => (rd_indexA (j := j) rfl rfl rfl Try.underlying44 ts5 rfl (by omega) _ rfl)) ?_
       refine GO_rd rfl rfl (wn_none rfl) rfl hpS (fun w hp => (rd_load rfl rfl Try.underlying5 rfl (se_byte (hJ.keep hp.mod) (by omega) (by omega)))) ?_
       refine GO_rd rfl rfl (wn_none rfl) rfl hpS (fun w hp => (rd_bin rfl rfl rfl bo_neq)) ?_
       refine GO_nil ?_
       refine GW_cond rfl (fun hb5 => ?_) (fun hb5 => ?_)
       ·(try simp only [decide_eq_true_eq, decide_eq_false_iff_not, Bool.not_eq_true', Bool.not_eq_false', Bool.not_eq_eq_eq_not, Bool.not_true, Bool.not_false, Int.not_lt, Int.not_le] at hb5)
        have hne := hb5
        refine GW_region ?_
        refine GL_rd (v := .int _ _) (wn_none rfl) rfl (rd_move rfl rfl) ?_
        refine GL_rd (wn_none rfl) rfl (rd_bin rfl rfl rfl (bo_int (q := ((difN l q i + dfJ l q i (j + 1) : Nat) : Int)) (bo_add64 (by omega)) (by rw [dfJ_yes (dfB_2 hne)]; omega))) ?_
        refine GL_rd (v := .int _ _) (wn_none rfl) rfl (rd_assign rfl rfl) ?_
        refine GL_nil ?_
        refine GW_region ?_
        refine GL_rd (wn_none rfl) rfl (rd_bin rfl rfl rfl (bo_add64 (by omega))) ?_
        refine GL_rd (v := .int _ _) (wn_none rfl) rfl (rd_move rfl rfl) ?_
        refine GL_nil ?_
        exact ihL1 (j + 1) _ _ (by simp only []; omega) ⟨_, slots7 rfl rfl (by first | rfl | (rw [dfJ_no hno hne]; rfl)) rfl rfl rfl rfl, hp, by omega⟩
       ·(try simp only [decide_eq_true_eq, decide_eq_false_iff_not, Bool.not_eq_true', Bool.not_eq_false', Bool.not_eq_eq_eq_not, Bool.not_true, Bool.not_false, Int.not_lt, Int.not_le] at hb5)
        have hne := hb5
        refine GW_skip ?_
        refine GW_region ?_
        refine GL_rd (wn_none rfl) rfl (rd_bin rfl rfl rfl (bo_add64 (by omega))) ?_
        refine GL_rd (v := .int _ _) (wn_none rfl) rfl (rd_move rfl rfl) ?_
        refine GL_nil ?_
        exact ihL1 (j + 1) _ _ (by simp only []; omega) ⟨_, slots7 rfl rfl (by first | rfl | (rw [dfJ_no hno hne]; rfl)) rfl rfl rfl rfl, hp, by omega⟩
      ·(try simp only [decide_eq_true_eq, decide_eq_false_iff_not, Bool.not_eq_true', Bool.not_eq_false', Bool.not_eq_eq_eq_not, Bool.not_true, Bool.not_false, Int.not_lt, Int.not_le] at hb4)
       obtain rfl : j = 256 := by omega
       refine GW_exit ?_
       refine GW_region ?_
       refine GL_rd (wn_none rfl) rfl (rd_bin rfl rfl rfl (bo_add64 (by omega))) ?_
       refine GL_rd (v := .int _ _) (wn_none rfl) rfl (rd_move rfl rfl) ?_
       refine GL_nil ?_
       exact ihL0 (i + 1) _ _ (by simp only []; omega) ⟨_, slots5 rfl rfl (by first | rfl | (rw [hdn]; rfl) | exact congrArg (fun z : Nat => Value.int .i64 (z : Int)) hdn) rfl rfl, hp, by omega⟩
     ·refine ⟨_, slots7 rfl rfl rfl rfl rfl rfl rfl, hp, Nat.zero_le _⟩
  ·(try simp only [decide_eq_true_eq, decide_eq_false_iff_not, Bool.not_eq_true', Bool.not_eq_false', Bool.not_eq_eq_eq_not, Bool.not_true, Bool.not_false, Int.not_lt, Int.not_le] at hb)
   refine GW_exit ?_
   refine GW_seq ?_
   refine GW_region ?_
   refine GL_rd (v := .int _ _) (wn_none rfl) rfl (rd_move rfl rfl) ?_
   refine GL_rd (v := .int _ _) (wn_none rfl) rfl (rd_assign rfl rfl) ?_
   refine GL_nil ?_
   refine GW_ret ?_
   obtain rfl : i = max m k := by omega
   exact ⟨_, res1 Try.results23 (rv_tmp (v := .int _ _) rfl rfl), rfl, hp⟩
 ·refine ⟨_, slots5 rfl rfl rfl rfl rfl, hp, Nat.zero_le _⟩

theorem ref_Differ (sv tv : Value) (m k : Nat) (l q : List Sec) (w0 : World) (hI : Sl w0 sv 256 m (l.flatMap seC)) (hm : m ≤ 100000) (hJ : Sl w0 tv 256 k (q.flatMap seC)) (hk2 : k ≤ 100000) : Does Try.prog 24 #[sv, tv] w0 fun v w' => v = .int .i64 ((difN l q (max m k) : Nat) : Int) ∧ Hp w0 [] w' [] := by
 have hlen := flat_len seC_len (by decide) hI.len
 have hlek := flat_len seC_len (by decide) hJ.len
 obtain ⟨A, c, rfl⟩ := sl_shape hI
 obtain ⟨B, d, rfl⟩ := sl_shape hJ
 refine does_of (l := [.slice A m c, .slice B k d]) Try.func24 (by kernel_rfl) rfl Try.ntmps24 rfl rfl ?_
 have hp := Hp.refl w0 []
 refine GW_seq ?_
 refine GW_region ?_
 refine GL_rd (v := .int _ _) (wn_none rfl) rfl (rd_assign rfl rfl) ?_
 refine GL_nil ?_
 refine GW_seq ?_
 refine GW_region ?_
 refine GL_rd (v := .int _ _) (wn_none rfl) rfl (rd_assign rfl rfl) ?_
 refine GL_nil ?_
 refine GW_seq ?_
 refine GW_seq ?_
 refine GW_region ?_
 refine GL_rd (v := .int _ _) (wn_none rfl) rfl (rd_assign rfl rfl) ?_
 refine GL_nil ?_
 refine GW_block ?_
 refine GW_loop ?_
 refine Lp_ind (α := Nat × Option Addr × Option Addr) (fun a_0 f_0 w' => match a_0 with | (i, A, B) => ∃ fz, f_0 = (upd (upd (upd (upd fz 0 (.slice A m c)) 1 (.slice B k d)) 5 (.int .i64 ((difN l q i : Nat) : Int))) 6 (.int .i64 (i : Int))) ∧ Hp w0 [] w' [] ∧ (i ≤ max m k) ∧ (Sl w0 (.slice A m c) 256 m (l.flatMap seC)) ∧ (Sl w0 (.slice B k d) 256 k (q.flatMap seC))) (fun a_0 => match a_0 with | (i, A, B) => max m k - i) ?_ (0, A, B) _ _ ?_
 ·rintro ⟨i, A, B⟩ f wz ⟨fz, rfl, hp, hi0, hI, hJ⟩ ihL0
  have hn1 := difN_le l q i
  refine Lp_round ?_
  refine GW_seq ?_
  refine GW_seq ?_
  refine GW_region ?_
  refine GL_rd (v := .int _ _) (wn_none rfl) rfl (rd_move rfl rfl) ?_
  refine GL_rd (v := .slice _ _ _) (wn_none rfl) rfl (rd_move rfl rfl) ?_
  refine GL_rd (wn_none rfl) rfl (rd_len rfl rfl Try.underlying24) ?_
  refine GL_rd (wn_none rfl) rfl (rd_bin rfl rfl rfl bo_lss) ?_
  refine GL_rd (v := .bool _) (wn_none rfl) rfl (rd_move rfl rfl) ?_
  refine GL_split (t := 12) (b := _) rfl ?_ ?_
  ·intro hb; (try simp only [decide_eq_true_eq, decide_eq_false_iff_not, Bool.not_eq_true', Bool.not_eq_false', Bool.not_eq_eq_eq_not, Bool.not_true, Bool.not_false, Int.not_lt, Int.not_le] at hb)
   refine GL_pass (nw_off rfl rfl rfl rfl rfl) rfl ?_
   refine GL_pass (nw_off rfl rfl rfl rfl rfl) rfl ?_
   refine GL_pass (nw_off rfl rfl rfl rfl rfl) rfl ?_
   refine GL_pass (nw_off rfl rfl rfl rfl rfl) rfl ?_
   refine GL_rd (v := .bool _) (wn_none rfl) rfl (rd_pickT rfl rfl rfl) ?_
   refine GL_nil ?_
   refine GW_true rfl ?_
   refine GW_skip ?_
   refine GW_seq ?_
   refine GW_block ?_
   refine GW_seq ?_
   refine GW_region ?_
   refine GL_rd (v := .int _ _) (wn_none rfl) rfl (rd_assign rfl rfl) ?_
   refine GL_nil ?_
   refine GW_block ?_
   refine GW_loop ?_
   refine Lp_ind (α := Nat × Option Addr × Option Addr) (fun a_0 f_0 w' => match a_0 with | (j, A, B) => ∃ fz, f_0 = (upd (upd (upd (upd (upd fz 0 (.slice A m c)) 1 (.slice B k d)) 5 (.int .i64 ((difN l q i + dfJ l q i j : Nat) : Int))) 6 (.int .i64 (i : Int))) 7 (.int .i64 (j : Int))) ∧ Hp w0 [] w' [] ∧ (j ≤ 256) ∧ (Sl w0 (.slice A m c) 256 m (l.flatMap seC)) ∧ (Sl w0 (.slice B k d) 256 k (q.flatMap seC))) (fun a_0 => match a_0 with | (j, A, B) => 256 - j) ?_ (0, A, B) _ _ ?_
   ·rintro ⟨j, A, B⟩ f wz ⟨fz, rfl, hp, hj0, hI, hJ⟩ ihL1
    have hn2 := dfJ_le l q i j
    refine Lp_round ?_
    refine GW_seq ?_
    refine GW_seq ?_
    refine GW_region ?_
    refine GL_rd (v := .int _ _) (wn_none rfl) rfl (rd_move rfl rfl) ?_
    refine GL_rd (wn_none rfl) rfl (rd_bin rfl rfl rfl bo_lss) ?_
    refine GL_nil ?_
    refine GW_cond rfl (fun hb2 => ?_) (fun hb2 => ?_)
    ·(try simp only [decide_eq_true_eq, decide_eq_false_iff_not, Bool.not_eq_true', Bool.not_eq_false', Bool.not_eq_eq_eq_not, Bool.not_true, Bool.not_false, Int.not_lt, Int.not_le] at hb2)
     refine GW_skip ?_
     refine GW_seq ?_
     refine GW_block ?_
     refine GW_seq ?_
     refine GW_drawnK 25 (.one 0 true (.one 1 true (.one 2 true (.one 3 true (.one 4 true (.one 5 true (.one 6 true (.one 7 true (.one 8 true (.one 9 true (.one 10 true (.one 11 true (.one 12 true (.one 13 true (.one 14 true (.one 15 true (.one 16 true (.one 17 true (.one 18 true (.one 19 true (.one 20 true (.one 21 true (.one 22 true (.one 23 true (.one 24 true .nil))))))))))))))))))))))))) mixed (by kernel_rfl) hp (fun _ h => h) fun w hp => ?_
     have hpS := hp
     refine GO_rdT (v := .int _ _) rfl (wn_none rfl) rfl (fun w => (rd_move rfl rfl)) ?_
     refine GO_rdT (v := .slice _ _ _) rfl (wn_none rfl) rfl (fun w => (rd_move rfl rfl)) ?_
     refine GO_rd rfl rfl (wn_none rfl) rfl hpS (fun w hp => (rd_len rfl rfl Try.underlying24)) ?_
     refine GO_rd rfl rfl (wn_none rfl) rfl hpS (fun w hp => (rd_bin rfl rfl rfl bo_geq)) ?_
     refine GO_rdT (v := .bool _) rfl (wn_none rfl) rfl (fun w => (rd_move rfl rfl)) ?_
     refine GO_split (t := 28) (b := _) rfl ?_ ?_
     ·intro hb3; (try simp only [decide_eq_true_eq, decide_eq_false_iff_not, Bool.not_eq_true', Bool.not_eq_false', Bool.not_eq_eq_eq_not, Bool.not_true, Bool.not_false, Int.not_lt, Int.not_le] at hb3)
      have hd : dfB l q i j = true := dfB_1 (difO_1 (by omega))
      refine GO_pass rfl (nw_off rfl rfl rfl rfl rfl) rfl ?_
      refine GO_pass rfl (nw_off rfl rfl rfl rfl rfl) rfl ?_
      refine GO_pass rfl (nw_off rfl rfl rfl rfl rfl) rfl ?_
      refine GO_pass rfl (nw_off rfl rfl rfl rfl rfl) rfl ?_
      refine GO_rdT (v := .bool _) rfl (wn_none rfl) rfl (fun w => (rd_pickT rfl rfl rfl)) ?_
      refine GO_rdT (v := .bool _) rfl (wn_none rfl) rfl (fun w => (rd_move rfl rfl)) ?_
      refine GO_pass rfl (nw_off rfl rfl rfl rfl rfl) rfl ?_
      refine GO_pass rfl (nw_off rfl rfl rfl rfl rfl) rfl ?_
      refine GO_pass rfl (nw_off rfl rfl rfl rfl rfl) rfl ?_
      refine GO_pass rfl (nw_off rfl rfl rfl rfl rfl) rfl ?_
      refine GO_pass rfl (nw_off rfl rfl rfl rfl rfl) rfl ?_
      refine GO_pass rfl (nw_off rfl rfl rfl rfl rfl) rfl ?_
      refine GO_pass rfl (nw_off rfl rfl rfl rfl rfl) rfl ?_
      refine GO_pass rfl (nw_off rfl rfl rfl rfl rfl) rfl ?_
      refine GO_pass rfl (nw_off rfl rfl rfl rfl rfl) rfl ?_
      refine GO_pass rfl (nw_off rfl rfl rfl rfl rfl) rfl ?_
      refine GO_pass rfl (nw_off rfl rfl rfl rfl rfl) rfl ?_
      refine GO_pass rfl (nw_off rfl rfl rfl rfl rfl) rfl ?_
      refine GO_pass rfl (nw_off rfl rfl rfl rfl rfl) rfl ?_
      refine GO_rdT (v := .bool _) rfl (wn_none rfl) rfl (fun w => (rd_pickT rfl rfl rfl)) ?_
      refine GO_nil ?_
      refine GW_true rfl ?_
      refine GW_region ?_
      refine GL_rd (v := .int _ _) (wn_none rfl) rfl (rd_move rfl rfl) ?_
      refine GL_rd (wn_none rfl) rfl (rd_bin rfl rfl rfl (bo_int (q := ((difN l q i + dfJ l q i (j + 1) : Nat) : Int)) (bo_add64 (by omega)) (by rw [dfJ_yes hd]; omega))) ?_
      refine GL_rd (v := .int _ _) (wn_none rfl) rfl (rd_assign rfl rfl) ?_
      refine GL_nil ?_
      refine GW_region ?_
      refine GL_rd (v := .int _ _) (wn_none rfl) rfl (rd_move rfl rfl) ?_
      refine GL_rd (wn_none rfl) rfl (rd_bin rfl rfl rfl (bo_add64 (by omega))) ?_
      refine GL_rd (v := .int _ _) (wn_none rfl) rfl (rd_assign rfl rfl) ?_
      refine GL_nil ?_
      exact ihL1 (j + 1, _, _) _ _ (by simp only []; omega) ⟨_, slots5 rfl rfl (by first | rfl | (rw [dfJ_no hno hne]; rfl)) rfl rfl, hp, by omega, hI, hJ⟩
     ·intro hb3; (try simp only [decide_eq_true_eq, decide_eq_false_iff_not, Bool.not_eq_true', Bool.not_eq_false', Bool.not_eq_eq_eq_not, Bool.not_true, Bool.not_false, Int.not_lt, Int.not_le] at hb3)
      have hi1 : i < m := by have := hb3; omega
      obtain ⟨gB, bB, rfl⟩ := hI.addr (by rw [flat_length seC_len]; omega)
      refine GO_rdT (v := .int _ _) rfl (wn_on rfl rfl rfl rfl) rfl (fun w => (rd_move rfl rfl)) ?_
      refine GO_rdT (v := .slice _ _ _) rfl (wn_on rfl rfl rfl rfl) rfl (fun w => (rd_move rfl rfl)) ?_
      refine GO_rd rfl rfl (wn_on rfl rfl rfl rfl) rfl hpS (fun w hp => (rd_len rfl rfl Try.underlying24)) ?_
      refine GO_rd rfl rfl (wn_on rfl rfl rfl rfl) rfl hpS (fun w hp => (rd_bin rfl rfl rfl bo_geq)) ?_
      refine GO_rdT (v := .bool _) rfl (wn_none rfl) rfl (fun w => (rd_pickF rfl rfl rfl)) ?_
      refine GO_rdT (v := .bool _) rfl (wn_none rfl) rfl (fun w => (rd_move rfl rfl)) ?_
      refine GO_split (t := 34) (b := _) rfl ?_ ?_
      ·intro hb4; (try simp only [decide_eq_true_eq, decide_eq_false_iff_not, Bool.not_eq_true', Bool.not_eq_false', Bool.not_eq_eq_eq_not, Bool.not_true, Bool.not_false, Int.not_lt, Int.not_le] at hb4)
       have hd : dfB l q i j = true := dfB_1 (difO_2 (by have := hb4; omega))
       refine GO_pass rfl (nw_off rfl rfl rfl rfl rfl) rfl ?_
       refine GO_pass rfl (nw_off rfl rfl rfl rfl rfl) rfl ?_
       refine GO_pass rfl (nw_off rfl rfl rfl rfl rfl) rfl ?_
       refine GO_pass rfl (nw_off rfl rfl rfl rfl rfl) rfl ?_
       refine GO_pass rfl (nw_off rfl rfl rfl rfl rfl) rfl ?_
       refine GO_pass rfl (nw_off rfl rfl rfl rfl rfl) rfl ?_
       refine GO_pass rfl (nw_off rfl rfl rfl rfl rfl) rfl ?_
       refine GO_pass rfl (nw_off rfl rfl rfl rfl rfl) rfl ?_
       refine GO_pass rfl (nw_off rfl rfl rfl rfl rfl) rfl ?_
       refine GO_pass rfl (nw_off rfl rfl rfl rfl rfl) rfl ?_
       refine GO_pass rfl (nw_off rfl rfl rfl rfl rfl) rfl ?_
       refine GO_pass rfl (nw_off rfl rfl rfl rfl rfl) rfl ?_
       refine GO_pass rfl (nw_off rfl rfl rfl rfl rfl) rfl ?_
       refine GO_rdT (v := .bool _) rfl (wn_none rfl) rfl (fun w => (rd_pickT rfl rfl rfl)) ?_
       refine GO_nil ?_
       refine GW_true rfl ?_
       refine GW_region ?_
       refine GL_rd (v := .int _ _) (wn_none rfl) rfl (rd_move rfl rfl) ?_
       refine GL_rd (wn_none rfl) rfl (rd_bin rfl rfl rfl (bo_int (q := ((difN l q i + dfJ l q i (j + 1) : Nat) : Int)) (bo_add64 (by omega)) (by rw [dfJ_yes hd]; omega))) ?_
       refine GL_rd (v := .int _ _) (wn_none rfl) rfl (rd_assign rfl rfl) ?_
       refine GL_nil ?_
       refine GW_region ?_
       refine GL_rd (v := .int _ _) (wn_none rfl) rfl (rd_move rfl rfl) ?_
       refine GL_rd (wn_none rfl) rfl (rd_bin rfl rfl rfl (bo_add64 (by omega))) ?_
       refine GL_rd (v := .int _ _) (wn_none rfl) rfl (rd_assign rfl rfl) ?_
       refine GL_nil ?_
       exact ihL1 (j + 1, _, _) _ _ (by simp only []; omega) ⟨_, slots5 rfl rfl (by first | rfl | (rw [dfJ_no hno hne]; rfl)) rfl rfl, hp, by omega, hI, hJ⟩
      ·intro hb4; (try simp only [decide_eq_true_eq, decide_eq_false_iff_not, Bool.not_eq_true', Bool.not_eq_false', Bool.not_eq_eq_eq_not, Bool.not_true, Bool.not_false, Int.not_lt, Int.not_le] at hb4)
       have hi2 : i < k := by have := hb4; omega
       have hno : difO l q i = false := difO_no (by omega) (by omega)
       obtain ⟨gC, bC, rfl⟩ := hJ.addr (by rw [flat_length seC_len]; omega)
       refine GO_rdT (v := .slice _ _ _) rfl (wn_on rfl rfl rfl rfl) rfl (fun w => (rd_move rfl rfl)) ?_
       refine GO_rdT (v := .int _ _) rfl (wn_on rfl rfl rfl rfl) rfl (fun w => (rd_move rfl rfl)) ?_
       refine GO_rdT (v := .int _ _) rfl (wn_on rfl rfl rfl rfl) rfl (fun w => (rd_move rfl rfl)) ?_
       refine GO_rdT rfl (wn_on rfl rfl rfl rfl) rfl (fun w => (rd_indexS (j := i) rfl rfl rfl Try.underlying24 ts44 rfl hi1 _ rfl)) ?_
       refine GO_rdT rfl (wn_on rfl rfl rfl rfl) rfl (fun w => (rd_indexA (j := j) rfl rfl rfl Try.underlying44 ts5 rfl (by omega) _ rfl)) ?_
       refine GO_rd rfl rfl (wn_on rfl rfl rfl rfl) rfl hpS (fun w hp => (rd_load rfl rfl Try.underlying5 rfl (se_byte (hI.keep hp.mod) (by omega) (by omega)))) ?_
       refine GO_rdT (v := .slice _ _ _) rfl (wn_on rfl rfl rfl rfl) rfl (fun w => (rd_move rfl rfl)) ?_
       refine GO_rdT (v := .int _ _) rfl (wn_on rfl rfl rfl rfl) rfl (fun w => (rd_move rfl rfl)) ?_
       refine GO_rdT (v := .int _ _) rfl (wn_on rfl rfl rfl rfl) rfl (fun w => (rd_move rfl rfl)) ?_
       refine GO_rdT rfl (wn_on rfl rfl rfl rfl) rfl (fun w => (rd_indexS (j := i) rfl rfl rfl Try.underlying24 ts44 rfl hi2 _ rfl)) ?_
       refine GO_rdT rfl (wn_on rfl rfl rfl rfl) rfl (fun w => (rd_indexA (j := j) rfl rfl rfl Try.underlying44 ts5 rfl (by omega) _ rfl)) ?_
       refine GO_rd rfl rfl (wn_on rfl rfl rfl rfl) rfl hpS (fun w hp => (rd_load rfl rfl Try.underlying5 rfl (se_byte (hJ.keep hp.mod) (by omega) (by omega)))) ?_
       refine GO_rd rfl rfl (wn_on rfl rfl rfl rfl) rfl hpS (fun w hp => (rd_bin rfl rfl rfl bo_neq)) ?_
       refine GO_rdT (v := .bool _) rfl (wn_none rfl) rfl (fun w => (rd_pickF rfl rfl rfl)) ?_
       refine GO_nil ?_
       refine GW_cond rfl (fun hb5 => ?_) (fun hb5 => ?_)
       ·(try simp only [decide_eq_true_eq, decide_eq_false_iff_not, Bool.not_eq_true', Bool.not_eq_false', Bool.not_eq_eq_eq_not, Bool.not_true, Bool.not_false, Int.not_lt, Int.not_le] at hb5)
        have hd : dfB l q i j = true := dfB_2 hb5
        refine GW_region ?_
        refine GL_rd (v := .int _ _) (wn_none rfl) rfl (rd_move rfl rfl) ?_
        refine GL_rd (wn_none rfl) rfl (rd_bin rfl rfl rfl (bo_int (q := ((difN l q i + dfJ l q i (j + 1) : Nat) : Int)) (bo_add64 (by omega)) (by rw [dfJ_yes hd]; omega))) ?_
        refine GL_rd (v := .int _ _) (wn_none rfl) rfl (rd_assign rfl rfl) ?_
        refine GL_nil ?_
        refine GW_region ?_
        refine GL_rd (v := .int _ _) (wn_none rfl) rfl (rd_move rfl rfl) ?_
        refine GL_rd (wn_none rfl) rfl (rd_bin rfl rfl rfl (bo_add64 (by omega))) ?_
        refine GL_rd (v := .int _ _) (wn_none rfl) rfl (rd_assign rfl rfl) ?_
        refine GL_nil ?_
        exact ihL1 (j + 1, _, _) _ _ (by simp only []; omega) ⟨_, slots5 rfl rfl (by first | rfl | (rw [dfJ_no hno hne]; rfl)) rfl rfl, hp, by omega, hI, hJ⟩
       ·(try simp only [decide_eq_true_eq, decide_eq_false_iff_not, Bool.not_eq_true', Bool.not_eq_false', Bool.not_eq_eq_eq_not, Bool.not_true, Bool.not_false, Int.not_lt, Int.not_le] at hb5)
        have hne := hb5
        refine GW_skip ?_
        refine GW_region ?_
        refine GL_rd (v := .int _ _) (wn_none rfl) rfl (rd_move rfl rfl) ?_
        refine GL_rd (wn_none rfl) rfl (rd_bin rfl rfl rfl (bo_add64 (by omega))) ?_
        refine GL_rd (v := .int _ _) (wn_none rfl) rfl (rd_assign rfl rfl) ?_
        refine GL_nil ?_
        exact ihL1 (j + 1, _, _) _ _ (by simp only []; omega) ⟨_, slots5 rfl rfl (by first | rfl | (rw [dfJ_no hno hne]; rfl)) rfl rfl, hp, by omega, hI, hJ⟩
    ·(try simp only [decide_eq_true_eq, decide_eq_false_iff_not, Bool.not_eq_true', Bool.not_eq_false', Bool.not_eq_eq_eq_not, Bool.not_true, Bool.not_false, Int.not_lt, Int.not_le] at hb2)
     obtain rfl : j = 256 := by omega
     refine GW_exit ?_
     refine GW_region ?_
     refine GL_rd (v := .int _ _) (wn_none rfl) rfl (rd_move rfl rfl) ?_
     refine GL_rd (wn_none rfl) rfl (rd_bin rfl rfl rfl (bo_add64 (by omega))) ?_
     refine GL_rd (v := .int _ _) (wn_none rfl) rfl (rd_assign rfl rfl) ?_
     refine GL_nil ?_
     exact ihL0 (i + 1, _, _) _ _ (by simp only []; omega) ⟨_, slots4 rfl rfl (by first | rfl | (rw [hdn]; rfl) | exact congrArg (fun z : Nat => Value.int .i64 (z : Int)) hdn) rfl, hp, by omega, hI, hJ⟩
   ·refine ⟨_, slots5 rfl rfl rfl rfl rfl, hp, Nat.zero_le _, hI, hJ⟩
  ·intro hb; (try simp only [decide_eq_true_eq, decide_eq_false_iff_not, Bool.not_eq_true', Bool.not_eq_false', Bool.not_eq_eq_eq_not, Bool.not_true, Bool.not_false, Int.not_lt, Int.not_le] at hb)
   refine GL_rd (v := .int _ _) (wn_on rfl rfl rfl rfl) rfl (rd_move rfl rfl) ?_
   refine GL_rd (v := .slice _ _ _) (wn_on rfl rfl rfl rfl) rfl (rd_move rfl rfl) ?_
   refine GL_rd (wn_on rfl rfl rfl rfl) rfl (rd_len rfl rfl Try.underlying24) ?_
   refine GL_rd (wn_on rfl rfl rfl rfl) rfl (rd_bin rfl rfl rfl bo_lss) ?_
   refine GL_rd (v := .bool _) (wn_none rfl) rfl (rd_pickF rfl rfl rfl) ?_
   refine GL_nil ?_
   refine GW_cond rfl (fun hb6 => ?_) (fun hb6 => ?_)
   ·(try simp only [decide_eq_true_eq, decide_eq_false_iff_not, Bool.not_eq_true', Bool.not_eq_false', Bool.not_eq_eq_eq_not, Bool.not_true, Bool.not_false, Int.not_lt, Int.not_le] at hb6)
    refine GW_skip ?_
    refine GW_seq ?_
    refine GW_block ?_
    refine GW_seq ?_
    refine GW_region ?_
    refine GL_rd (v := .int _ _) (wn_none rfl) rfl (rd_assign rfl rfl) ?_
    refine GL_nil ?_
    refine GW_block ?_
    refine GW_loop ?_
    refine Lp_ind (α := Nat × Option Addr × Option Addr) (fun a_0 f_0 w' => match a_0 with | (j, A, B) => ∃ fz, f_0 = (upd (upd (upd (upd (upd fz 0 (.slice A m c)) 1 (.slice B k d)) 5 (.int .i64 ((difN l q i + dfJ l q i j : Nat) : Int))) 6 (.int .i64 (i : Int))) 7 (.int .i64 (j : Int))) ∧ Hp w0 [] w' [] ∧ (j ≤ 256) ∧ (Sl w0 (.slice A m c) 256 m (l.flatMap seC)) ∧ (Sl w0 (.slice B k d) 256 k (q.flatMap seC))) (fun a_0 => match a_0 with | (j, A, B) => 256 - j) ?_ (0, A, B) _ _ ?_
    ·rintro ⟨j, A, B⟩ f wz ⟨fz, rfl, hp, hj0, hI, hJ⟩ ihL2
     have hn2 := dfJ_le l q i j
     refine Lp_round ?_
     refine GW_seq ?_
     refine GW_seq ?_
     refine GW_region ?_
     refine GL_rd (v := .int _ _) (wn_none rfl) rfl (rd_move rfl rfl) ?_
     refine GL_rd (wn_none rfl) rfl (rd_bin rfl rfl rfl bo_lss) ?_
     refine GL_nil ?_
     refine GW_cond rfl (fun hb7 => ?_) (fun hb7 => ?_)
     ·(try simp only [decide_eq_true_eq, decide_eq_false_iff_not, Bool.not_eq_true', Bool.not_eq_false', Bool.not_eq_eq_eq_not, Bool.not_true, Bool.not_false, Int.not_lt, Int.not_le] at hb7)
      refine GW_skip ?_
      refine GW_seq ?_
      refine GW_block ?_
      refine GW_seq ?_
      refine GW_drawnK 25 (.one 0 true (.one 1 true (.one 2 true (.one 3 true (.one 4 true (.one 5 true (.one 6 true (.one 7 true (.one 8 true (.one 9 true (.one 10 true (.one 11 true (.one 12 true (.one 13 true (.one 14 true (.one 15 true (.one 16 true (.one 17 true (.one 18 true (.one 19 true (.one 20 true (.one 21 true (.one 22 true (.one 23 true (.one 24 true .nil))))))))))))))))))))))))) mixed (by kernel_rfl) hp (fun _ h => h) fun w hp => ?_
      have hpS2 := hp
      refine GO_rdT (v := .int _ _) rfl (wn_none rfl) rfl (fun w => (rd_move rfl rfl)) ?_
      refine GO_rdT (v := .slice _ _ _) rfl (wn_none rfl) rfl (fun w => (rd_move rfl rfl)) ?_
      refine GO_rd rfl rfl (wn_none rfl) rfl hpS2 (fun w hp => (rd_len rfl rfl Try.underlying24)) ?_
      refine GO_rd rfl rfl (wn_none rfl) rfl hpS2 (fun w hp => (rd_bin rfl rfl rfl bo_geq)) ?_
      refine GO_rdT (v := .bool _) rfl (wn_none rfl) rfl (fun w => (rd_move rfl rfl)) ?_
      refine GO_split (t := 28) (b := _) rfl ?_ ?_
      ·intro hb8; (try simp only [decide_eq_true_eq, decide_eq_false_iff_not, Bool.not_eq_true', Bool.not_eq_false', Bool.not_eq_eq_eq_not, Bool.not_true, Bool.not_false, Int.not_lt, Int.not_le] at hb8)
       have hd : dfB l q i j = true := dfB_1 (difO_1 (by omega))
       refine GO_pass rfl (nw_off rfl rfl rfl rfl rfl) rfl ?_
       refine GO_pass rfl (nw_off rfl rfl rfl rfl rfl) rfl ?_
       refine GO_pass rfl (nw_off rfl rfl rfl rfl rfl) rfl ?_
       refine GO_pass rfl (nw_off rfl rfl rfl rfl rfl) rfl ?_
       refine GO_rdT (v := .bool _) rfl (wn_none rfl) rfl (fun w => (rd_pickT rfl rfl rfl)) ?_
       refine GO_rdT (v := .bool _) rfl (wn_none rfl) rfl (fun w => (rd_move rfl rfl)) ?_
       refine GO_pass rfl (nw_off rfl rfl rfl rfl rfl) rfl ?_
       refine GO_pass rfl (nw_off rfl rfl rfl rfl rfl) rfl ?_
       refine GO_pass rfl (nw_off rfl rfl rfl rfl rfl) rfl ?_
       refine GO_pass rfl (nw_off rfl rfl rfl rfl rfl) rfl ?_
       refine GO_pass rfl (nw_off rfl rfl rfl rfl rfl) rfl ?_
       refine GO_pass rfl (nw_off rfl rfl rfl rfl rfl) rfl ?_
       refine GO_pass rfl (nw_off rfl rfl rfl rfl rfl) rfl ?_
       refine GO_pass rfl (nw_off rfl rfl rfl rfl rfl) rfl ?_
       refine GO_pass rfl (nw_off rfl rfl rfl rfl rfl) rfl ?_
       refine GO_pass rfl (nw_off rfl rfl rfl rfl rfl) rfl ?_
       refine GO_pass rfl (nw_off rfl rfl rfl rfl rfl) rfl ?_
       refine GO_pass rfl (nw_off rfl rfl rfl rfl rfl) rfl ?_
       refine GO_pass rfl (nw_off rfl rfl rfl rfl rfl) rfl ?_
       refine GO_rdT (v := .bool _) rfl (wn_none rfl) rfl (fun w => (rd_pickT rfl rfl rfl)) ?_
       refine GO_nil ?_
       refine GW_true rfl ?_
       refine GW_region ?_
       refine GL_rd (v := .int _ _) (wn_none rfl) rfl (rd_move rfl rfl) ?_
       refine GL_rd (wn_none rfl) rfl (rd_bin rfl rfl rfl (bo_int (q := ((difN l q i + dfJ l q i (j + 1) : Nat) : Int)) (bo_add64 (by omega)) (by rw [dfJ_yes hd]; omega))) ?_
       refine GL_rd (v := .int _ _) (wn_none rfl) rfl (rd_assign rfl rfl) ?_
       refine GL_nil ?_
       refine GW_region ?_
       refine GL_rd (v := .int _ _) (wn_none rfl) rfl (rd_move rfl rfl) ?_
       refine GL_rd (wn_none rfl) rfl (rd_bin rfl rfl rfl (bo_add64 (by omega))) ?_
       refine GL_rd (v := .int _ _) (wn_none rfl) rfl (rd_assign rfl rfl) ?_
       refine GL_nil ?_
       exact ihL2 (j + 1, _, _) _ _ (by simp only []; omega) ⟨_, slots5 rfl rfl (by first | rfl | (rw [dfJ_no hno hne]; rfl)) rfl rfl, hp, by omega, hI, hJ⟩
      ·intro hb8; (try simp only [decide_eq_true_eq, decide_eq_false_iff_not, Bool.not_eq_true', Bool.not_eq_false', Bool.not_eq_eq_eq_not, Bool.not_true, Bool.not_false, Int.not_lt, Int.not_le] at hb8)
       have hi1 : i < m := by have := hb8; omega
       obtain ⟨gB, bB, rfl⟩ := hI.addr (by rw [flat_length seC_len]; omega)
       refine GO_rdT (v := .int _ _) rfl (wn_on rfl rfl rfl rfl) rfl (fun w => (rd_move rfl rfl)) ?_
       refine GO_rdT (v := .slice _ _ _) rfl (wn_on rfl rfl rfl rfl) rfl (fun w => (rd_move rfl rfl)) ?_
       refine GO_rd rfl rfl (wn_on rfl rfl rfl rfl) rfl hpS2 (fun w hp => (rd_len rfl rfl Try.underlying24)) ?_
       refine GO_rd rfl rfl (wn_on rfl rfl rfl rfl) rfl hpS2 (fun w hp => (rd_bin rfl rfl rfl bo_geq)) ?_
       refine GO_rdT (v := .bool _) rfl (wn_none rfl) rfl (fun w => (rd_pickF rfl rfl rfl)) ?_
       refine GO_rdT (v := .bool _) rfl (wn_none rfl) rfl (fun w => (rd_move rfl rfl)) ?_
       refine GO_split (t := 34) (b := _) rfl ?_ ?_
       ·intro hb9; (try simp only [decide_eq_true_eq, decide_eq_false_iff_not, Bool.not_eq_true', Bool.not_eq_false', Bool.not_eq_eq_eq_not, Bool.not_true, Bool.not_false, Int.not_lt, Int.not_le] at hb9)
        have hd : dfB l q i j = true := dfB_1 (difO_2 (by have := hb9; omega))
        refine GO_pass rfl (nw_off rfl rfl rfl rfl rfl) rfl ?_
        refine GO_pass rfl (nw_off rfl rfl rfl rfl rfl) rfl ?_
        refine GO_pass rfl (nw_off rfl rfl rfl rfl rfl) rfl ?_
        refine GO_pass rfl (nw_off rfl rfl rfl rfl rfl) rfl ?_
        refine GO_pass rfl (nw_off rfl rfl rfl rfl rfl) rfl ?_
        refine GO_pass rfl (nw_off rfl rfl rfl rfl rfl) rfl ?_
        refine GO_pass rfl (nw_off rfl rfl rfl rfl rfl) rfl ?_
        refine GO_pass rfl (nw_off rfl rfl rfl rfl rfl) rfl ?_
        refine GO_pass rfl (nw_off rfl rfl rfl rfl rfl) rfl ?_
        refine GO_pass rfl (nw_off rfl rfl rfl rfl rfl) rfl ?_
        refine GO_pass rfl (nw_off rfl rfl rfl rfl rfl) rfl ?_
        refine GO_pass rfl (nw_off rfl rfl rfl rfl rfl) rfl ?_
        refine GO_pass rfl (nw_off rfl rfl rfl rfl rfl) rfl ?_
        refine GO_rdT (v := .bool _) rfl (wn_none rfl) rfl (fun w => (rd_pickT rfl rfl rfl)) ?_
        refine GO_nil ?_
        refine GW_true rfl ?_
        refine GW_region ?_
        refine GL_rd (v := .int _ _) (wn_none rfl) rfl (rd_move rfl rfl) ?_
        refine GL_rd (wn_none rfl) rfl (rd_bin rfl rfl rfl (bo_int (q := ((difN l q i + dfJ l q i (j + 1) : Nat) : Int)) (bo_add64 (by omega)) (by rw [dfJ_yes hd]; omega))) ?_
        refine GL_rd (v := .int _ _) (wn_none rfl) rfl (rd_assign rfl rfl) ?_
        refine GL_nil ?_
        refine GW_region ?_
        refine GL_rd (v := .int _ _) (wn_none rfl) rfl (rd_move rfl rfl) ?_
        refine GL_rd (wn_none rfl) rfl (rd_bin rfl rfl rfl (bo_add64 (by omega))) ?_
        refine GL_rd (v := .int _ _) (wn_none rfl) rfl (rd_assign rfl rfl) ?_
        refine GL_nil ?_
        exact ihL2 (j + 1, _, _) _ _ (by simp only []; omega) ⟨_, slots5 rfl rfl (by first | rfl | (rw [dfJ_no hno hne]; rfl)) rfl rfl, hp, by omega, hI, hJ⟩
       ·intro hb9; (try simp only [decide_eq_true_eq, decide_eq_false_iff_not, Bool.not_eq_true', Bool.not_eq_false', Bool.not_eq_eq_eq_not, Bool.not_true, Bool.not_false, Int.not_lt, Int.not_le] at hb9)
        have hi2 : i < k := by have := hb9; omega
        have hno : difO l q i = false := difO_no (by omega) (by omega)
        obtain ⟨gC, bC, rfl⟩ := hJ.addr (by rw [flat_length seC_len]; omega)
        refine GO_rdT (v := .slice _ _ _) rfl (wn_on rfl rfl rfl rfl) rfl (fun w => (rd_move rfl rfl)) ?_
        refine GO_rdT (v := .int _ _) rfl (wn_on rfl rfl rfl rfl) rfl (fun w => (rd_move rfl rfl)) ?_
        refine GO_rdT (v := .int _ _) rfl (wn_on rfl rfl rfl rfl) rfl (fun w => (rd_move rfl rfl)) ?_
        refine GO_rdT rfl (wn_on rfl rfl rfl rfl) rfl (fun w => (rd_indexS (j := i) rfl rfl rfl Try.underlying24 ts44 rfl hi1 _ rfl)) ?_
        refine GO_rdT rfl (wn_on rfl rfl rfl rfl) rfl (fun w => (rd_indexA (j := j) rfl rfl rfl Try.underlying44 ts5 rfl (by omega) _ rfl)) ?_
        refine GO_rd rfl rfl (wn_on rfl rfl rfl rfl) rfl hpS2 (fun w hp => (rd_load rfl rfl Try.underlying5 rfl (se_byte (hI.keep hp.mod) (by omega) (by omega)))) ?_
        refine GO_rdT (v := .slice _ _ _) rfl (wn_on rfl rfl rfl rfl) rfl (fun w => (rd_move rfl rfl)) ?_
        refine GO_rdT (v := .int _ _) rfl (wn_on rfl rfl rfl rfl) rfl (fun w => (rd_move rfl rfl)) ?_
        refine GO_rdT (v := .int _ _) rfl (wn_on rfl rfl rfl rfl) rfl (fun w => (rd_move rfl rfl)) ?_
        refine GO_rdT rfl (wn_on rfl rfl rfl rfl) rfl (fun w => (rd_indexS (j := i) rfl rfl rfl Try.underlying24 ts44 rfl hi2 _ rfl)) ?_
        refine GO_rdT rfl (wn_on rfl rfl rfl rfl) rfl (fun w => (rd_indexA (j := j) rfl rfl rfl Try.underlying44 ts5 rfl (by omega) _ rfl)) ?_
        refine GO_rd rfl rfl (wn_on rfl rfl rfl rfl) rfl hpS2 (fun w hp => (rd_load rfl rfl Try.underlying5 rfl (se_byte (hJ.keep hp.mod) (by omega) (by omega)))) ?_
        refine GO_rd rfl rfl (wn_on rfl rfl rfl rfl) rfl hpS2 (fun w hp => (rd_bin rfl rfl rfl bo_neq)) ?_
        refine GO_rdT (v := .bool _) rfl (wn_none rfl) rfl (fun w => (rd_pickF rfl rfl rfl)) ?_
        refine GO_nil ?_
        refine GW_cond rfl (fun hb10 => ?_) (fun hb10 => ?_)
        ·(try simp only [decide_eq_true_eq, decide_eq_false_iff_not, Bool.not_eq_true', Bool.not_eq_false', Bool.not_eq_eq_eq_not, Bool.not_true, Bool.not_false, Int.not_lt, Int.not_le] at hb10)
         have hd : dfB l q i j = true := dfB_2 hb10
         refine GW_region ?_
         refine GL_rd (v := .int _ _) (wn_none rfl) rfl (rd_move rfl rfl) ?_
         refine GL_rd (wn_none rfl) rfl (rd_bin rfl rfl rfl (bo_int (q := ((difN l q i + dfJ l q i (j + 1) : Nat) : Int)) (bo_add64 (by omega)) (by rw [dfJ_yes hd]; omega))) ?_
         refine GL_rd (v := .int _ _) (wn_none rfl) rfl (rd_assign rfl rfl) ?_
         refine GL_nil ?_
         refine GW_region ?_
         refine GL_rd (v := .int _ _) (wn_none rfl) rfl (rd_move rfl rfl) ?_
         refine GL_rd (wn_none rfl) rfl (rd_bin rfl rfl rfl (bo_add64 (by omega))) ?_
         refine GL_rd (v := .int _ _) (wn_none rfl) rfl (rd_assign rfl rfl) ?_
         refine GL_nil ?_
         exact ihL2 (j + 1, _, _) _ _ (by simp only []; omega) ⟨_, slots5 rfl rfl (by first | rfl | (rw [dfJ_no hno hne]; rfl)) rfl rfl, hp, by omega, hI, hJ⟩
        ·(try simp only [decide_eq_true_eq, decide_eq_false_iff_not, Bool.not_eq_true', Bool.not_eq_false', Bool.not_eq_eq_eq_not, Bool.not_true, Bool.not_false, Int.not_lt, Int.not_le] at hb10)
         have hne := hb10
         refine GW_skip ?_
         refine GW_region ?_
         refine GL_rd (v := .int _ _) (wn_none rfl) rfl (rd_move rfl rfl) ?_
         refine GL_rd (wn_none rfl) rfl (rd_bin rfl rfl rfl (bo_add64 (by omega))) ?_
         refine GL_rd (v := .int _ _) (wn_none rfl) rfl (rd_assign rfl rfl) ?_
         refine GL_nil ?_
         exact ihL2 (j + 1, _, _) _ _ (by simp only []; omega) ⟨_, slots5 rfl rfl (by first | rfl | (rw [dfJ_no hno hne]; rfl)) rfl rfl, hp, by omega, hI, hJ⟩
     ·(try simp only [decide_eq_true_eq, decide_eq_false_iff_not, Bool.not_eq_true', Bool.not_eq_false', Bool.not_eq_eq_eq_not, Bool.not_true, Bool.not_false, Int.not_lt, Int.not_le] at hb7)
      obtain rfl : j = 256 := by omega
      refine GW_exit ?_
      refine GW_region ?_
      refine GL_rd (v := .int _ _) (wn_none rfl) rfl (rd_move rfl rfl) ?_
      refine GL_rd (wn_none rfl) rfl (rd_bin rfl rfl rfl (bo_add64 (by omega))) ?_
      refine GL_rd (v := .int _ _) (wn_none rfl) rfl (rd_assign rfl rfl) ?_
      refine GL_nil ?_
      exact ihL0 (i + 1, _, _) _ _ (by simp only []; omega) ⟨_, slots4 rfl rfl (by first | rfl | (rw [hdn]; rfl) | exact congrArg (fun z : Nat => Value.int .i64 (z : Int)) hdn) rfl, hp, by omega, hI, hJ⟩
    ·refine ⟨_, slots5 rfl rfl rfl rfl rfl, hp, Nat.zero_le _, hI, hJ⟩
   ·(try simp only [decide_eq_true_eq, decide_eq_false_iff_not, Bool.not_eq_true', Bool.not_eq_false', Bool.not_eq_eq_eq_not, Bool.not_true, Bool.not_false, Int.not_lt, Int.not_le] at hb6)
    refine GW_exit ?_
    refine GW_seq ?_
    refine GW_region ?_
    refine GL_rd (v := .int _ _) (wn_none rfl) rfl (rd_move rfl rfl) ?_
    refine GL_rd (v := .int _ _) (wn_none rfl) rfl (rd_assign rfl rfl) ?_
    refine GL_nil ?_
    refine GW_ret ?_
    obtain rfl : i = max m k := by omega
    exact ⟨_, res1 Try.results24 (rv_tmp (v := .int _ _) rfl rfl), rfl, hp⟩
 ·refine ⟨_, slots4 rfl rfl rfl rfl, hp, Nat.zero_le _, hI, hJ⟩

theorem mask_Holds (sv bv : Value) (m n : Nat) (l : List Sec) (b : List UInt8) (w0 : World) (hI : Sl w0 sv 256 m (l.flatMap seC)) (hm : m ≤ 100000) (hB : Sl w0 bv 1 n (bys b)) (hn : n ≤ 1000000) : Does Try.prog 27 #[sv, bv] w0 fun v w' => v = .bool (holdsI l b) ∧ Hp w0 [] w' [] := by
 obtain ⟨A, c, rfl⟩ := sl_shape hI
 have hlen := flat_len seC_len (by decide) hI.len
 have hbl := hB.blen
 obtain ⟨B, d, rfl⟩ := sl_shape hB
 refine does_of (l := [.slice A m c, .slice B n d]) Try.func27 (by kernel_rfl) rfl Try.ntmps27 rfl rfl ?_
 have hp := Hp.refl w0 []
 refine GW_seq ?_
 refine GW_region ?_
 refine GL_rd (v := .bool _) (wn_none rfl) rfl (rd_assign rfl rfl) ?_
 refine GL_nil ?_
 refine GW_seq ?_
 refine GW_seq ?_
 refine GW_region ?_
 refine GL_rd (v := .slice _ _ _) (wn_none rfl) rfl (rd_move rfl rfl) ?_
 refine GL_rd (wn_none rfl) rfl (rd_len rfl rfl Try.underlying24) ?_
 refine GL_rd (v := .int _ _) (wn_none rfl) rfl (rd_move rfl rfl) ?_
 refine GL_nil ?_
 refine GW_block ?_
 refine GW_loop ?_
 refine Lp_ind (α := Nat) (fun a_0 f_0 w' => match a_0 with | i => ∃ fz, f_0 = (upd (upd (upd (upd fz 1 (.slice B n d)) 8 (.slice A m c)) 9 (.int .i64 (m : Int))) 10 (.int .i64 (i : Int))) ∧ Hp w0 [] w' [] ∧ (i ≤ m) ∧ (∀ q, q < i → holdS b (seAt l q) = false)) (fun a_0 => match a_0 with | i => m - i) ?_ 0 _ _ ?_
 ·rintro i f wz ⟨fz, rfl, hp, hi0, hall⟩ ihL0
  refine Lp_round ?_
  refine GW_seq ?_
  refine GW_region ?_
  refine GL_rd (wn_none rfl) rfl (rd_bin rfl rfl rfl bo_lss) ?_
  refine GL_nil ?_
  refine GW_seq ?_
  refine GW_cond rfl (fun hb => ?_) (fun hb => ?_)
  ·(try simp only [decide_eq_true_eq, decide_eq_false_iff_not, Bool.not_eq_true', Bool.not_eq_false', Bool.not_eq_eq_eq_not, Bool.not_true, Bool.not_false, Int.not_lt, Int.not_le] at hb)
   obtain ⟨gB, bB, rfl⟩ := hI.addr (by rw [flat_length seC_len]; omega)
   refine GW_skip ?_
   refine GW_seq ?_
   refine GW_block ?_
   refine GW_seq ?_
   refine GW_region ?_
   refine GL_rd (wn_none rfl) rfl (rd_indexS (j := i) rfl rfl rfl Try.underlying24 ts44 rfl (by omega) _ rfl) ?_
   refine GL_rd (wn_none rfl) rfl (rd_loadN (L := seC (seAt l i)) rfl rfl Try.underlying44 rfl ts44 (seC_len _) (fun jq u hj => (hI.keep hp.mod).elem seC_len i jq (seC_lt hj) (seAt_some (by omega)) hj)) ?_
   refine GL_alloc (wn_none rfl) rfl rfl tz44 rfl hp ?_
   intro g w hp
   refine GL_store (i := 0) (wn_none rfl) rfl rfl rfl rfl ts44 rfl (seC_len _) (seC_one _) hp rfl (by rw [List.length_replicate]; decide) (splice_all _ _ (by rw [seC_len, List.length_replicate])) ?_
   intro w hp
   refine GL_nil ?_
   refine GW_seq ?_
   refine GW_region ?_
   refine GL_rd (v := .int _ _) (wn_none rfl) rfl (rd_assign rfl rfl) ?_
   refine GL_nil ?_
   refine GW_block ?_
   refine GW_loop ?_
   refine Lp_ind (α := Nat) (fun a_0 f_0 w' => match a_0 with | j => ∃ fz, f_0 = (upd (upd (upd (upd (upd (upd fz 1 (.slice B n d)) 6 (.pointer (some ⟨g, 0, none⟩))) 7 (.int .i64 (j : Int))) 8 (.slice (some ⟨gB, bB, none⟩) m c)) 9 (.int .i64 (m : Int))) 10 (.int .i64 (i : Int))) ∧ Hp w0 [] w' [cells g 44 (seC (seAt l i))] ∧ (∀ q, q < j → standB (seAt l i).1 b q = false) ∧ (j ≤ 257)) (fun a_0 => match a_0 with | j => 257 - j) ?_ 0 _ _ ?_
   ·rintro j f wz ⟨fz, rfl, hp, hst, hj0⟩ ihL1
    refine Lp_round ?_
    refine GW_seq ?_
    refine GW_seq ?_
    refine GW_region ?_
    refine GL_rd (v := .int _ _) (wn_none rfl) rfl (rd_move rfl rfl) ?_
    refine GL_rd (v := .slice _ _ _) (wn_none rfl) rfl (rd_move rfl rfl) ?_
    refine GL_rd (wn_none rfl) rfl (rd_len rfl rfl Try.underlying39) ?_
    refine GL_rd (wn_none rfl) rfl (rd_bin rfl rfl rfl (bo_add64 (by omega))) ?_
    refine GL_rd (wn_none rfl) rfl (rd_bin rfl rfl rfl bo_leq) ?_
    refine GL_nil ?_
    refine GW_cond rfl (fun hb2 => ?_) (fun hb2 => ?_)
    ·(try simp only [decide_eq_true_eq, decide_eq_false_iff_not, Bool.not_eq_true', Bool.not_eq_false', Bool.not_eq_eq_eq_not, Bool.not_true, Bool.not_false, Int.not_lt, Int.not_le] at hb2)
     have hj : j + n ≤ 256 := by have := hb2; omega
     have hjl : j < 256 := by by_cases e : n = 0; (by_cases e2 : j = 0; omega; exact absurd (hst 0 (by omega)) (by rw [stand_nil (by omega)]; decide)); omega
     refine GW_skip ?_
     refine GW_seq ?_
     refine GW_block ?_
     refine GW_seq ?_
     refine GW_drawnK 10 (.one 0 true (.one 1 true (.one 2 true (.one 3 true (.one 4 true (.one 5 true (.one 6 true (.one 7 true (.one 8 true (.one 9 true .nil)))))))))) mixed (by kernel_rfl) hp (fun _ h => h) fun w hp => ?_
     have hpS := hp
     refine GO_rdT (v := .int _ _) rfl (wn_none rfl) rfl (fun w => (rd_move rfl rfl)) ?_
     refine GO_rdT (v := .int _ _) rfl (wn_none rfl) rfl (fun w => (rd_move rfl rfl)) ?_
     refine GO_rdT (v := .slice _ _ _) rfl (wn_none rfl) rfl (fun w => (rd_move rfl rfl)) ?_
     refine GO_rd rfl rfl (wn_none rfl) rfl hpS (fun w hp => (rd_len rfl rfl Try.underlying39)) ?_
     refine GO_rd rfl rfl (wn_none rfl) rfl hpS (fun w hp => (rd_bin rfl rfl rfl (bo_add64 (by omega)))) ?_
     refine GO_rd rfl rfl (wn_none rfl) rfl hpS (fun w hp => (rd_sliceA (lo := j) (hi := (j + n)) rfl rfl Try.underlying44 ts5 (at_some rfl rfl) (at_some rfl rfl) (by omega) hj hjl _ rfl)) ?_
     refine GO_rd rfl rfl (wn_none rfl) rfl hpS (fun w hp => (rd_toStr rfl rfl Try.underlying39 Try.underlying9 Try.underlying5 (stand_sl (hp.get 0 rfl) hj hbl))) ?_
     refine GO_rdT (v := .slice _ _ _) rfl (wn_none rfl) rfl (fun w => (rd_move rfl rfl)) ?_
     refine GO_rd rfl rfl (wn_none rfl) rfl hpS (fun w hp => (rd_toStr rfl rfl Try.underlying39 Try.underlying9 Try.underlying5 (hB.keep hp.mod))) ?_
     refine GO_rd rfl rfl (wn_none rfl) rfl hpS (fun w hp => (rd_bin rfl rfl rfl bo_seql)) ?_
     refine GO_nil ?_
     refine GW_cond rfl (fun hb3 => ?_) (fun hb3 => ?_)
     ·(try simp only [decide_eq_true_eq, decide_eq_false_iff_not, Bool.not_eq_true', Bool.not_eq_false', Bool.not_eq_eq_eq_not, Bool.not_true, Bool.not_false, Int.not_lt, Int.not_le] at hb3)
      have hy : standB (seAt l i).1 b j = true := decide_eq_true ((ba_inj _ _).1 hb3)
      refine GW_seq ?_
      refine GW_region ?_
      refine GL_rd (v := .bool _) (wn_none rfl) rfl (rd_assign rfl rfl) ?_
      refine GL_nil ?_
      refine GW_ret ?_
      have e : holdsI l b = true := holdsI_yes (by omega) (holdS_yes (by omega) hy)
      exact ⟨_, res1 Try.results27 (rv_tmp (v := .bool _) rfl rfl), by rw [e], hp.mods⟩
     ·(try simp only [decide_eq_true_eq, decide_eq_false_iff_not, Bool.not_eq_true', Bool.not_eq_false', Bool.not_eq_eq_eq_not, Bool.not_true, Bool.not_false, Int.not_lt, Int.not_le] at hb3)
      have hne : standB (seAt l i).1 b j = false := decide_eq_false (fun e => hb3 ((ba_inj _ _).2 e))
      refine GW_skip ?_
      refine GW_region ?_
      refine GL_rd (v := .int _ _) (wn_none rfl) rfl (rd_move rfl rfl) ?_
      refine GL_rd (wn_none rfl) rfl (rd_bin rfl rfl rfl (bo_add64 (by omega))) ?_
      refine GL_rd (v := .int _ _) (wn_none rfl) rfl (rd_assign rfl rfl) ?_
      refine GL_nil ?_
      have hp := ((hp.front 0 rfl).take 1)
      exact ihL1 (j + 1) _ _ (by simp only []; omega) ⟨_, slots6 rfl rfl rfl rfl rfl rfl, hp, fun q hq => by by_cases e : q = j; subst e; exact hne; exact hst q (by omega), by omega⟩
    ·(try simp only [decide_eq_true_eq, decide_eq_false_iff_not, Bool.not_eq_true', Bool.not_eq_false', Bool.not_eq_eq_eq_not, Bool.not_true, Bool.not_false, Int.not_lt, Int.not_le] at hb2)
     have hno : holdS b (seAt l i) = false := holdS_no (fun q hq => hst q (by omega))
     refine GW_exit ?_
     refine GW_region ?_
     refine GL_rd (wn_none rfl) rfl (rd_bin rfl rfl rfl (bo_add64 (by omega))) ?_
     refine GL_rd (v := .int _ _) (wn_none rfl) rfl (rd_move rfl rfl) ?_
     refine GL_nil ?_
     have hp := hp.mods
     exact ihL0 (i + 1) _ _ (by simp only []; omega) ⟨_, slots4 rfl rfl rfl rfl, hp, by omega, fun q hq => by by_cases e : q = i; subst e; exact hno; exact hall q (by omega)⟩
   ·refine ⟨_, slots6 rfl rfl rfl rfl rfl rfl, hp, fun q hq => absurd hq (Nat.not_lt_zero _), by omega⟩
  ·(try simp only [decide_eq_true_eq, decide_eq_false_iff_not, Bool.not_eq_true', Bool.not_eq_false', Bool.not_eq_eq_eq_not, Bool.not_true, Bool.not_false, Int.not_lt, Int.not_le] at hb)
   refine GW_exit ?_
   refine GW_seq ?_
   refine GW_region ?_
   refine GL_rd (v := .bool _) (wn_none rfl) rfl (rd_assign rfl rfl) ?_
   refine GL_nil ?_
   refine GW_ret ?_
   obtain rfl : m = i := by omega
   have e : holdsI l b = false := holdsI_no (fun q hq => hall q (by omega))
   exact ⟨_, res1 Try.results27 (rv_tmp (v := .bool _) rfl rfl), by rw [e], hp.mods⟩
 ·refine ⟨_, slots4 rfl rfl rfl rfl, hp, Nat.zero_le _, fun q hq => absurd hq (Nat.not_lt_zero _)⟩

theorem ref_Holds (sv bv : Value) (m n : Nat) (l : List Sec) (b : List UInt8) (w0 : World) (hI : Sl w0 sv 256 m (l.flatMap seC)) (hm : m ≤ 100000) (hB : Sl w0 bv 1 n (bys b)) (hn : n ≤ 1000000) : Does Try.prog 28 #[sv, bv] w0 fun v w' => v = .bool (holdsI l b) ∧ Hp w0 [] w' [] := by
 obtain ⟨A, c, rfl⟩ := sl_shape hI
 have hlen := flat_len seC_len (by decide) hI.len
 have hbl := hB.blen
 obtain ⟨B, d, rfl⟩ := sl_shape hB
 refine does_of (l := [.slice A m c, .slice B n d]) Try.func28 (by kernel_rfl) rfl Try.ntmps28 rfl rfl ?_
 have hp := Hp.refl w0 []
 refine GW_seq ?_
 refine GW_region ?_
 refine GL_rd (v := .bool _) (wn_none rfl) rfl (rd_assign rfl rfl) ?_
 refine GL_nil ?_
 refine GW_seq ?_
 refine GW_seq ?_
 refine GW_region ?_
 refine GL_rd (v := .int _ _) (wn_none rfl) rfl (rd_assign rfl rfl) ?_
 refine GL_nil ?_
 refine GW_block ?_
 refine GW_loop ?_
 refine Lp_ind (α := Nat) (fun a_0 f_0 w' => match a_0 with | i => ∃ fz, f_0 = (upd (upd (upd fz 0 (.slice A m c)) 1 (.slice B n d)) 5 (.int .i64 (i : Int))) ∧ Hp w0 [] w' [] ∧ (i ≤ m) ∧ (∀ q, q < i → holdS b (seAt l q) = false)) (fun a_0 => match a_0 with | i => m - i) ?_ 0 _ _ ?_
 ·rintro i f wz ⟨fz, rfl, hp, hi0, hall⟩ ihL0
  refine Lp_round ?_
  refine GW_seq ?_
  refine GW_seq ?_
  refine GW_region ?_
  refine GL_rd (v := .int _ _) (wn_none rfl) rfl (rd_move rfl rfl) ?_
  refine GL_rd (v := .slice _ _ _) (wn_none rfl) rfl (rd_move rfl rfl) ?_
  refine GL_rd (wn_none rfl) rfl (rd_len rfl rfl Try.underlying24) ?_
  refine GL_rd (wn_none rfl) rfl (rd_bin rfl rfl rfl bo_lss) ?_
  refine GL_nil ?_
  refine GW_cond rfl (fun hb => ?_) (fun hb => ?_)
  ·(try simp only [decide_eq_true_eq, decide_eq_false_iff_not, Bool.not_eq_true', Bool.not_eq_false', Bool.not_eq_eq_eq_not, Bool.not_true, Bool.not_false, Int.not_lt, Int.not_le] at hb)
   obtain ⟨gB, bB, rfl⟩ := hI.addr (by rw [flat_length seC_len]; omega)
   refine GW_skip ?_
   refine GW_seq ?_
   refine GW_block ?_
   refine GW_seq ?_
   refine GW_region ?_
   refine GL_rd (v := .slice _ _ _) (wn_none rfl) rfl (rd_assign rfl rfl) ?_
   refine GL_nil ?_
   refine GW_seq ?_
   refine GW_seq ?_
   refine GW_region ?_
   refine GL_rd (v := .int _ _) (wn_none rfl) rfl (rd_assign rfl rfl) ?_
   refine GL_nil ?_
   refine GW_block ?_
   refine GW_loop ?_
   refine Lp_ind (α := Nat × Value) (fun a_0 f_0 w' => match a_0 with | (j, v) => ∃ fz, f_0 = (upd (upd (upd (upd (upd fz 0 (.slice (some ⟨gB, bB, none⟩) m c)) 1 (.slice B n d)) 5 (.int .i64 (i : Int))) 6 (v)) 7 (.int .i64 (j : Int))) ∧ Hp w0 [] w' [.row 5 1 v j (bys ((seAt l i).1.take j))] ∧ (j ≤ 256)) (fun a_0 => match a_0 with | (j, v) => 256 - j) ?_ (0, .slice none 0 0) _ _ ?_
   ·rintro ⟨j, v⟩ f wz ⟨fz, rfl, hp, hj0⟩ ihL1
    refine Lp_round ?_
    refine GW_seq ?_
    refine GW_seq ?_
    refine GW_region ?_
    refine GL_rd (v := .int _ _) (wn_none rfl) rfl (rd_move rfl rfl) ?_
    refine GL_rd (wn_none rfl) rfl (rd_bin rfl rfl rfl bo_lss) ?_
    refine GL_nil ?_
    refine GW_cond rfl (fun hb2 => ?_) (fun hb2 => ?_)
    ·(try simp only [decide_eq_true_eq, decide_eq_false_iff_not, Bool.not_eq_true', Bool.not_eq_false', Bool.not_eq_eq_eq_not, Bool.not_true, Bool.not_false, Int.not_lt, Int.not_le] at hb2)
     refine GW_skip ?_
     refine GW_seq ?_
     refine GW_block ?_
     refine GW_region ?_
     refine GL_rd (v := v) (wn_none rfl) rfl (rd_move rfl rfl) ?_
     refine GL_rd (v := .slice _ _ _) (wn_none rfl) rfl (rd_move rfl rfl) ?_
     refine GL_rd (v := .int _ _) (wn_none rfl) rfl (rd_move rfl rfl) ?_
     refine GL_rd (v := .int _ _) (wn_none rfl) rfl (rd_move rfl rfl) ?_
     refine GL_rd (wn_none rfl) rfl (rd_indexS (j := i) rfl rfl rfl Try.underlying24 ts44 rfl (by omega) _ rfl) ?_
     refine GL_rd (wn_none rfl) rfl (rd_indexA (j := j) rfl rfl rfl Try.underlying44 ts5 rfl (by omega) _ rfl) ?_
     refine GL_rd (wn_none rfl) rfl (rd_load rfl rfl Try.underlying5 rfl (se_byte (hI.keep hp.mod) (by omega) (by omega))) ?_
     refine GL_lit (L := [.int .u8 (((seAt l i).1.getD j 0).toNat : Int)]) (wn_none rfl) rfl rfl Try.underlying39 ts5 tz5 rfl (by kernel_rfl) rfl rfl hp ?_
     intro g w hp
     refine GL_append (i := 1) (wn_none rfl) rfl rfl rfl rfl Try.underlying39 ti5 rfl (by decide) hp rfl (Sl.row (hp.get 0 rfl)) (one1 rfl) (by omega) (by omega) ?_
     intro v w hp
     refine GL_rd (v := v) (wn_none rfl) rfl (rd_assign rfl rfl) ?_
     refine GL_nil ?_
     refine GW_region ?_
     refine GL_rd (v := .int _ _) (wn_none rfl) rfl (rd_move rfl rfl) ?_
     refine GL_rd (wn_none rfl) rfl (rd_bin rfl rfl rfl (bo_add64 (by omega))) ?_
     refine GL_rd (v := .int _ _) (wn_none rfl) rfl (rd_assign rfl rfl) ?_
     refine GL_nil ?_
     have hp := ((hp.front 1 rfl).take 1)
     have hp : Hp w0 [] w [.row 5 1 v (j + 1) (bys ((seAt l i).1.take (j + 1)))] := by rw [← bys_next (by rw [(seAt l i).2]; omega)]; exact hp
     exact ihL1 (j + 1, v) _ _ (by simp only []; omega) ⟨_, slots5 rfl rfl rfl rfl rfl, hp, by omega⟩
    ·(try simp only [decide_eq_true_eq, decide_eq_false_iff_not, Bool.not_eq_true', Bool.not_eq_false', Bool.not_eq_eq_eq_not, Bool.not_true, Bool.not_false, Int.not_lt, Int.not_le] at hb2)
     obtain rfl : j = 256 := by omega
     rw [List.take_of_length_le (by rw [(seAt l i).2]; exact Nat.le_refl _)] at hp
     obtain ⟨Av, cv, rfl⟩ := row_shape (hp.get 0 rfl)
     refine GW_exit ?_
     refine GW_seq ?_
     refine GW_region ?_
     refine GL_rd (v := .int _ _) (wn_none rfl) rfl (rd_assign rfl rfl) ?_
     refine GL_nil ?_
     refine GW_block ?_
     refine GW_loop ?_
     refine Lp_ind (α := Nat) (fun a_0 f_0 w' => match a_0 with | j => ∃ fz, f_0 = (upd (upd (upd (upd (upd fz 0 (.slice (some ⟨gB, bB, none⟩) m c)) 1 (.slice B n d)) 5 (.int .i64 (i : Int))) 6 (.slice Av 256 cv)) 8 (.int .i64 (j : Int))) ∧ Hp w0 [] w' [.row 5 1 (.slice Av 256 cv) 256 (bys (seAt l i).1)] ∧ (∀ q, q < j → standB (seAt l i).1 b q = false) ∧ (j ≤ 257)) (fun a_0 => match a_0 with | j => 257 - j) ?_ 0 _ _ ?_
     ·rintro j f wz ⟨fz, rfl, hp, hst, hj0⟩ ihL2
      refine Lp_round ?_
      refine GW_seq ?_
      refine GW_seq ?_
      refine GW_region ?_
      refine GL_rd (v := .int _ _) (wn_none rfl) rfl (rd_move rfl rfl) ?_
      refine GL_rd (v := .slice _ _ _) (wn_none rfl) rfl (rd_move rfl rfl) ?_
      refine GL_rd (wn_none rfl) rfl (rd_len rfl rfl Try.underlying39) ?_
      refine GL_rd (wn_none rfl) rfl (rd_bin rfl rfl rfl (bo_add64 (by omega))) ?_
      refine GL_rd (wn_none rfl) rfl (rd_bin rfl rfl rfl bo_leq) ?_
      refine GL_nil ?_
      refine GW_cond rfl (fun hb3 => ?_) (fun hb3 => ?_)
      ·(try simp only [decide_eq_true_eq, decide_eq_false_iff_not, Bool.not_eq_true', Bool.not_eq_false', Bool.not_eq_eq_eq_not, Bool.not_true, Bool.not_false, Int.not_lt, Int.not_le] at hb3)
       have hj : j + n ≤ 256 := by have := hb3; omega
       have hjl : j < 256 := by by_cases e : n = 0; (by_cases e2 : j = 0; omega; exact absurd (hst 0 (by omega)) (by rw [stand_nil (by omega)]; decide)); omega
       refine GW_skip ?_
       refine GW_seq ?_
       refine GW_block ?_
       refine GW_seq ?_
       refine GW_drawnK 11 (.one 0 true (.one 1 true (.one 2 true (.one 3 true (.one 4 true (.one 5 true (.one 6 true (.one 7 true (.one 8 true (.one 9 true (.one 10 true .nil))))))))))) mixed (by kernel_rfl) hp (fun _ h => h) fun w hp => ?_
       have hpS := hp
       refine GO_rdT (v := .slice _ _ _) rfl (wn_none rfl) rfl (fun w => (rd_move rfl rfl)) ?_
       refine GO_rdT (v := .int _ _) rfl (wn_none rfl) rfl (fun w => (rd_move rfl rfl)) ?_
       refine GO_rdT (v := .int _ _) rfl (wn_none rfl) rfl (fun w => (rd_move rfl rfl)) ?_
       refine GO_rdT (v := .slice _ _ _) rfl (wn_none rfl) rfl (fun w => (rd_move rfl rfl)) ?_
       refine GO_rd rfl rfl (wn_none rfl) rfl hpS (fun w hp => (rd_len rfl rfl Try.underlying39)) ?_
       refine GO_rd rfl rfl (wn_none rfl) rfl hpS (fun w hp => (rd_bin rfl rfl rfl (bo_add64 (by omega)))) ?_
       refine GO_rd rfl rfl (wn_none rfl) rfl hpS (fun w hp => (rd_sliceS (lo := j) (hi := (j + n)) rfl rfl Try.underlying39 ts5 (at_some rfl rfl) (at_some rfl rfl) (by omega) (by have := (Sl.cap (Sl.row (hp.get 0 rfl))).1; omega))) ?_
       refine GO_rd rfl rfl (wn_none rfl) rfl hpS (fun w hp => (rd_toStr rfl rfl Try.underlying39 Try.underlying9 Try.underlying5 (Sl.cutB (Sl.row (hp.get 0 rfl)) j (j + n) (by omega) hj))) ?_
       refine GO_rdT (v := .slice _ _ _) rfl (wn_none rfl) rfl (fun w => (rd_move rfl rfl)) ?_
       refine GO_rd rfl rfl (wn_none rfl) rfl hpS (fun w hp => (rd_toStr rfl rfl Try.underlying39 Try.underlying9 Try.underlying5 (hB.keep hp.mod))) ?_
       refine GO_rd rfl rfl (wn_none rfl) rfl hpS (fun w hp => (rd_bin rfl rfl rfl bo_seql)) ?_
       refine GO_nil ?_
       refine GW_cond rfl (fun hb4 => ?_) (fun hb4 => ?_)
       ·(try simp only [decide_eq_true_eq, decide_eq_false_iff_not, Bool.not_eq_true', Bool.not_eq_false', Bool.not_eq_eq_eq_not, Bool.not_true, Bool.not_false, Int.not_lt, Int.not_le] at hb4)
        have hy : standB (seAt l i).1 b j = true := decide_eq_true (by have := (ba_inj _ _).1 hb4; rwa [show j + n - j = b.length by omega] at this)
        refine GW_seq ?_
        refine GW_region ?_
        refine GL_rd (v := .bool _) (wn_none rfl) rfl (rd_assign rfl rfl) ?_
        refine GL_nil ?_
        refine GW_ret ?_
        have e : holdsI l b = true := holdsI_yes (by omega) (holdS_yes (by omega) hy)
        exact ⟨_, res1 Try.results28 (rv_tmp (v := .bool _) rfl rfl), by rw [e], hp.mods⟩
       ·(try simp only [decide_eq_true_eq, decide_eq_false_iff_not, Bool.not_eq_true', Bool.not_eq_false', Bool.not_eq_eq_eq_not, Bool.not_true, Bool.not_false, Int.not_lt, Int.not_le] at hb4)
        have hne : standB (seAt l i).1 b j = false := decide_eq_false (fun e => hb4 ((ba_inj _ _).2 (by rw [show j + n - j = b.length by omega]; exact e)))
        refine GW_skip ?_
        refine GW_region ?_
        refine GL_rd (v := .int _ _) (wn_none rfl) rfl (rd_move rfl rfl) ?_
        refine GL_rd (wn_none rfl) rfl (rd_bin rfl rfl rfl (bo_add64 (by omega))) ?_
        refine GL_rd (v := .int _ _) (wn_none rfl) rfl (rd_assign rfl rfl) ?_
        refine GL_nil ?_
        have hp := ((hp.front 0 rfl).take 1)
        exact ihL2 (j + 1) _ _ (by simp only []; omega) ⟨_, slots5 rfl rfl rfl rfl rfl, hp, fun q hq => by by_cases e : q = j; subst e; exact hne; exact hst q (by omega), by omega⟩
      ·(try simp only [decide_eq_true_eq, decide_eq_false_iff_not, Bool.not_eq_true', Bool.not_eq_false', Bool.not_eq_eq_eq_not, Bool.not_true, Bool.not_false, Int.not_lt, Int.not_le] at hb3)
       have hno : holdS b (seAt l i) = false := holdS_no (fun q hq => hst q (by omega))
       refine GW_exit ?_
       refine GW_region ?_
       refine GL_rd (v := .int _ _) (wn_none rfl) rfl (rd_move rfl rfl) ?_
       refine GL_rd (wn_none rfl) rfl (rd_bin rfl rfl rfl (bo_add64 (by omega))) ?_
       refine GL_rd (v := .int _ _) (wn_none rfl) rfl (rd_assign rfl rfl) ?_
       refine GL_nil ?_
       have hp := hp.mods
       exact ihL0 (i + 1) _ _ (by simp only []; omega) ⟨_, slots3 rfl rfl rfl, hp, by omega, fun q hq => by by_cases e : q = i; subst e; exact hno; exact hall q (by omega)⟩
     ·refine ⟨_, slots5 rfl rfl rfl rfl rfl, hp, fun q hq => absurd hq (Nat.not_lt_zero _), by omega⟩
   ·have hp := hp.nilRow 5 1
    refine ⟨_, slots5 rfl rfl rfl rfl rfl, hp, Nat.zero_le _⟩
  ·(try simp only [decide_eq_true_eq, decide_eq_false_iff_not, Bool.not_eq_true', Bool.not_eq_false', Bool.not_eq_eq_eq_not, Bool.not_true, Bool.not_false, Int.not_lt, Int.not_le] at hb)
   refine GW_exit ?_
   refine GW_seq ?_
   refine GW_region ?_
   refine GL_rd (v := .bool _) (wn_none rfl) rfl (rd_assign rfl rfl) ?_
   refine GL_nil ?_
   refine GW_ret ?_
   obtain rfl : m = i := by omega
   have e : holdsI l b = false := holdsI_no (fun q hq => hall q (by omega))
   exact ⟨_, res1 Try.results28 (rv_tmp (v := .bool _) rfl rfl), by rw [e], hp.mods⟩
 ·refine ⟨_, slots3 rfl rfl rfl, hp, Nat.zero_le _, fun q hq => absurd hq (Nat.not_lt_zero _)⟩

theorem mask_Count (p : Pl) (sv : Value) (m : Nat) (l : List Sec) (w0 : World) (hI : Sl w0 sv 256 m (l.flatMap seC)) (hm : m ≤ 100000) : Does Try.prog 26 #[.agg ⟨layC p⟩, sv] w0 fun v w' => ∃ gq M, v = .map (some gq) ∧ (∀ s, cntG M s = (cntK p l s m : Int)) ∧ Hp w0 [] w' [.blk gq (.map ⟨cntE 0 M⟩ M.length)] := by
 obtain ⟨A, c, rfl⟩ := sl_shape hI
 have hlen := flat_len seC_len (by decide) hI.len
 refine does_of (l := [.agg ⟨layC p⟩, .slice A m c]) Try.func26 (by kernel_rfl) rfl Try.ntmps26 rfl rfl ?_
 have hp := Hp.refl w0 []
 refine GW_seq ?_
 refine GW_region ?_
 refine GL_box (wn_none rfl) rfl rfl rfl rfl hp ?_
 intro g w hp
 refine GL_rd (v := _) (wn_none rfl) rfl (rd_assign rfl rfl) ?_
 refine GL_nil ?_
 refine GW_seq ?_
 refine GW_region ?_
 refine GL_makeMap (wn_none rfl) rfl rfl hp ?_
 intro g2 w hp
 refine GL_rd (v := _) (wn_none rfl) rfl (rd_assign rfl rfl) ?_
 refine GL_nil ?_
 refine GW_seq ?_
 refine GW_seq ?_
 refine GW_region ?_
 refine GL_rd (v := .slice _ _ _) (wn_none rfl) rfl (rd_move rfl rfl) ?_
 refine GL_rd (wn_none rfl) rfl (rd_len rfl rfl Try.underlying24) ?_
 refine GL_rd (v := .int _ _) (wn_none rfl) rfl (rd_move rfl rfl) ?_
 refine GL_nil ?_
 refine GW_block ?_
 refine GW_loop ?_
 refine Lp_ind (α := Nat × List (ByteArray × Int)) (fun a_0 f_0 w' => match a_0 with | (i, M) => ∃ fz, f_0 = (upd (upd (upd (upd (upd fz 2 (.pointer (some ⟨g, 0, none⟩))) 5 (.map (some g2))) 9 (.slice A m c)) 10 (.int .i64 (m : Int))) 11 (.int .i64 (i : Int))) ∧ Hp w0 [] w' [.blk g2 (.map ⟨cntE 0 M⟩ M.length), cells g 28 (layC p)] ∧ (i ≤ m) ∧ (∀ s, cntG M s = (cntK p l s i : Int))) (fun a_0 => match a_0 with | (i, M) => m - i) ?_ (0, []) _ _ ?_
 ·rintro ⟨i, M⟩ f wz ⟨fz, rfl, hp, hi0, hM⟩ ihL0
  refine Lp_round ?_
  refine GW_seq ?_
  refine GW_region ?_
  refine GL_rd (wn_none rfl) rfl (rd_bin rfl rfl rfl bo_lss) ?_
  refine GL_nil ?_
  refine GW_seq ?_
  refine GW_cond rfl (fun hb => ?_) (fun hb => ?_)
  ·(try simp only [decide_eq_true_eq, decide_eq_false_iff_not, Bool.not_eq_true', Bool.not_eq_false', Bool.not_eq_eq_eq_not, Bool.not_true, Bool.not_false, Int.not_lt, Int.not_le] at hb)
   obtain ⟨gB, bB, rfl⟩ := hI.addr (by rw [flat_length seC_len]; omega)
   refine GW_skip ?_
   refine GW_seq ?_
   refine GW_block ?_
   refine GW_seq ?_
   refine GW_region ?_
   refine GL_rd (v := .int _ _) (wn_none rfl) rfl (rd_move rfl rfl) ?_
   refine GL_rd (wn_none rfl) rfl (rd_indexS (j := i) rfl rfl rfl Try.underlying24 ts44 rfl (by omega) _ rfl) ?_
   refine GL_rd (wn_none rfl) rfl (rd_loadN (L := seC (seAt l i)) rfl rfl Try.underlying44 rfl ts44 (seC_len _) (fun jq u hj => (hI.keep hp.mod).elem seC_len i jq (seC_lt hj) (seAt_some (by omega)) hj)) ?_
   refine GL_alloc (wn_none rfl) rfl rfl tz44 rfl hp ?_
   intro g3 w hp
   refine GL_rd (v := .int _ _) (wn_none rfl) rfl (rd_assign rfl rfl) ?_
   refine GL_store (i := 0) (wn_none rfl) rfl rfl rfl rfl ts44 rfl (seC_len _) (seC_one _) hp rfl (by rw [List.length_replicate]; decide) (splice_all _ _ (by rw [seC_len, List.length_replicate])) ?_
   intro w hp
   refine GL_nil ?_
   refine GW_seq ?_
   refine GW_region ?_
   refine GL_rd (wn_none rfl) rfl (rd_loadC rfl rfl Try.underlying44 rfl ts44 (hp.get 0 rfl) (seC_len _)) ?_
   refine GL_rd (wn_none rfl) rfl (rd_buildA (L := (seC secZ)) rfl tz44 Try.underlying44 ts5 (by kernel_rfl)) ?_
   refine GL_rd (wn_none rfl) rfl (rd_bin rfl rfl rfl (bo_arrB Try.underlying44 Try.underlying5 ts5 (by kernel_rfl) (seAt _ _).2 secZ.2).2) ?_
   refine GL_nil ?_
   refine GW_cond rfl (fun hb2 => ?_) (fun hb2 => ?_)
   ·(try simp only [decide_eq_true_eq, decide_eq_false_iff_not, Bool.not_eq_true', Bool.not_eq_false', Bool.not_eq_eq_eq_not, Bool.not_true, Bool.not_false, Int.not_lt, Int.not_le] at hb2)
    have hz : ¬ seAt l i = secZ := fun e => hb2 (congrArg Subtype.val e)
    have hb1 := hM (partS p i)
    have hb2 := cntK_le p l (partS p i) i
    refine GW_region ?_
    refine GL_rd (v := _) (wn_none rfl) rfl (rd_move rfl rfl) ?_
    refine GL_rd (wn_none rfl) rfl (rd_loadC rfl rfl Try.underlying28 rfl ts28 (hp.get 2 rfl) (by first | rfl | simp [bys_length, *])) ?_
    refine GL_rd (v := .int _ _) (wn_none rfl) rfl (rd_move rfl rfl) ?_
    refine GL_call (wn_none rfl) rfl rfl (plan_Part p (i : Int) _) rfl ?_
    rintro _ w ⟨rfl, hk⟩
    have hp := hp.comp hk
    refine GL_rd (wn_none rfl) rfl (rd_cntG rfl rfl rfl Try.underlying42 Try.underlying9 tz3 (hp.get 1 rfl)) ?_
    refine GL_rd (wn_none rfl) rfl (rd_bin rfl rfl rfl (bo_add64 (by omega))) ?_
    refine GL_cntPut (i := 1) (wn_none rfl) rfl rfl rfl rfl rfl Try.underlying42 Try.underlying9 hp rfl rfl ?_
    intro w hp
    refine GL_nil ?_
    refine GW_region ?_
    refine GL_rd (wn_none rfl) rfl (rd_bin rfl rfl rfl (bo_add64 (by omega))) ?_
    refine GL_rd (v := .int _ _) (wn_none rfl) rfl (rd_move rfl rfl) ?_
    refine GL_nil ?_
    have hp := (((hp.front 2 rfl).front 2 rfl).take 2)
    exact ihL0 (i + 1, cntI (partS p i) M) _ _ (by simp only []; omega) ⟨_, slots5 rfl rfl rfl rfl rfl, hp, by omega, cnt_step hM hz⟩
   ·(try simp only [decide_eq_true_eq, decide_eq_false_iff_not, Bool.not_eq_true', Bool.not_eq_false', Bool.not_eq_eq_eq_not, Bool.not_true, Bool.not_false, Int.not_lt, Int.not_le] at hb2)
    have hz : seAt l i = secZ := sec_ext hb2
    refine GW_skip ?_
    refine GW_region ?_
    refine GL_rd (wn_none rfl) rfl (rd_bin rfl rfl rfl (bo_add64 (by omega))) ?_
    refine GL_rd (v := .int _ _) (wn_none rfl) rfl (rd_move rfl rfl) ?_
    refine GL_nil ?_
    have hp := (((hp.front 2 rfl).front 2 rfl).take 2)
    exact ihL0 (i + 1, M) _ _ (by simp only []; omega) ⟨_, slots5 rfl rfl rfl rfl rfl, hp, by omega, cnt_skip hM hz⟩
  ·(try simp only [decide_eq_true_eq, decide_eq_false_iff_not, Bool.not_eq_true', Bool.not_eq_false', Bool.not_eq_eq_eq_not, Bool.not_true, Bool.not_false, Int.not_lt, Int.not_le] at hb)
   refine GW_exit ?_
   refine GW_seq ?_
   refine GW_region ?_
   refine GL_rd (v := _) (wn_none rfl) rfl (rd_move rfl rfl) ?_
   refine GL_rd (v := _) (wn_none rfl) rfl (rd_assign rfl rfl) ?_
   refine GL_nil ?_
   refine GW_ret ?_
   obtain rfl : m = i := by omega
   exact ⟨_, res1 Try.results26 (rv_tmp (v := _) rfl rfl), g2, M, rfl, hM, hp.take 1⟩
 ·refine ⟨_, slots5 rfl rfl rfl rfl rfl, hp, Nat.zero_le _, fun s => rfl⟩

end Go.Proofs.Ytblpmjbddpadcaa
