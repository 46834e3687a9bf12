/- Walks of functions of the program. -/
import Derived.Test.YtdbkmpnknkldlaaHFHis
set_option linter.unusedVariables false
set_option linter.unusedSimpArgs false
namespace Go.Proofs.Ytdbkmpnknkldlaa
open Go.Mo Go.RowKit
theorem ref_Mine (sv : Value) (m : Nat) (l : List Rec) (a : A32) (t : Int) (w0 : World) (hI : Sl w0 sv 100 m (l.flatMap recC)) (hm : m ≤ 65000) : Does Try.prog 47 #[sv, .agg ⟨bys a.1⟩, .int .i64 t] w0 fun v w' => Hp w0 [] w' [.row 32 100 v ((l.filter (mineB a t))).length (((l.filter (mineB a t))).flatMap recC)] := by
 obtain ⟨A, c, rfl⟩ := sl_shape hI
 have hlm := Sl.recs hI
 have hmle := hI.le
 refine does_of (l := [.slice A m c, .agg ⟨bys a.1⟩, .int .i64 t]) Try.func47 (by kernel_rfl) rfl Try.ntmps47 rfl rfl (by kernel_rfl) ?_
 have hp := Hp.refl w0 []
 refine GW_seq ?_
 refine GW_region ?_
 refine GL_box (wn_none rfl) rfl rfl rfl rfl hp ?_
 intro g w hp
 refine GL_rd (v := .slice _ _ _) (wn_none rfl) rfl (rd_assign rfl rfl) ?_
 refine GL_nil ?_
 refine GW_seq ?_
 refine GW_region ?_
 refine GL_rd (v := .slice _ _ _) (wn_none rfl) rfl (rd_assign rfl rfl) ?_
 refine GL_nil ?_
 refine GW_seq ?_
 refine GW_seq ?_
 refine GW_region ?_
 refine GL_rd (v := .int _ _) (wn_none rfl) rfl (rd_assign rfl rfl) ?_
 refine GL_nil ?_
 refine GW_block ?_
 refine GW_loop ?_
 refine Lp_ind (α := Nat × Value) (fun a_0 f_0 w' => match a_0 with | (i, v) => ∃ fz, f_0 = (upd (upd (upd (upd (upd fz 0 (.slice A m c)) 2 (.int .i64 t)) 4 (.pointer (some ⟨g, 0, none⟩))) 7 (v)) 8 (.int .i64 (i : Int))) ∧ Hp w0 [] w' [.row 32 100 v (((l.take i).filter (mineB a t))).length ((((l.take i).filter (mineB a t))).flatMap recC), cells g 23 (bys a.1)] ∧ (i ≤ m)) (fun a_0 => match a_0 with | (i, v) => m - i) ?_ (0, .slice none 0 0) _ _ ?_
 ·rintro ⟨i, v⟩ f wz ⟨fz, rfl, hp, hi0⟩ ihL0
  refine Lp_round ?_
  refine GW_seq ?_
  refine GW_seq ?_
  refine GW_region ?_
  refine GL_rd (v := .int _ _) (wn_none rfl) rfl (rd_move rfl rfl) ?_
  refine GL_rd (v := .slice _ _ _) (wn_none rfl) rfl (rd_move rfl rfl) ?_
  refine GL_rd (wn_none rfl) rfl (rd_len rfl rfl Try.underlying22) ?_
  refine GL_rd (wn_none rfl) rfl (rd_bin rfl rfl rfl bo_lss) ?_
  refine GL_nil ?_
  refine GW_cond rfl (fun hb => ?_) (fun hb => ?_)
  ·(try simp only [decide_eq_true_eq, decide_eq_false_iff_not, Bool.not_eq_true', Bool.not_eq_false', Bool.not_eq_eq_eq_not, Bool.not_true, Bool.not_false, Int.not_lt, Int.not_le] at hb)
   obtain ⟨gA, bA, rfl⟩ := hI.addr (by rw [flat_length recC_len]; omega)
   refine GW_skip ?_
   refine GW_seq ?_
   refine GW_block ?_
   refine GW_seq ?_
   refine GW_drawnK 16 (.one 0 true (.one 1 true (.one 2 true (.one 3 true (.one 4 true (.one 5 true (.one 6 true (.one 7 true (.one 8 true (.one 9 true (.one 10 true (.one 11 true (.one 12 true (.one 13 true (.one 14 true (.one 15 true .nil)))))))))))))))) mixed (by kernel_rfl) hp (fun _ h => (h.sub (.cons _ (.cons_cons _ .slnil)))) fun w hp => ?_
   have hpS := (hp.sub (.cons _ (.cons_cons _ .slnil)))
   refine GO_rdT (v := .slice _ _ _) rfl (wn_none rfl) rfl (fun w => (rd_move rfl rfl)) ?_
   refine GO_rdT (v := .int _ _) rfl (wn_none rfl) rfl (fun w => (rd_move rfl rfl)) ?_
   refine GO_rdT rfl (wn_none rfl) rfl (fun w => (rd_indexS (j := i) rfl rfl rfl Try.underlying22 ts32 rfl (by omega) _ rfl)) ?_
   refine GO_rdT rfl (wn_none rfl) rfl (fun w => (rd_field rfl rfl fa32_3 _ rfl)) ?_
   refine GO_rd rfl rfl (wn_none rfl) rfl hpS (fun w hp => (rd_loadN (L := bys _) rfl rfl Try.underlying23 rfl ts23 (clip_len _) (fun jq u hj => by rw [Nat.add_assoc]; exact Sl.recE (hI.keep hp.mod) i (by first | omega | assumption | exact Nat.lt_succ_self _) (rec_clip hj)))) ?_
   refine GO_rd rfl rfl (wn_none rfl) rfl hpS (fun w hp => (rd_loadC rfl rfl Try.underlying23 rfl ts23 (hp.get 0 rfl) (by first | (rw [bys_length]; first | exact a32_len _) | rfl | simp [bys_length, *]))) ?_
   refine GO_rd rfl rfl (wn_none rfl) rfl hpS (fun w hp => (rd_bin rfl rfl rfl (bo_arrB Try.underlying23 Try.underlying5 ts5 (by kernel_rfl) (by first | exact a32_len _ | simp [*]) (by first | exact a32_len _ | simp [*])).1)) ?_
   refine GO_rdT (v := .bool _) rfl (wn_none rfl) rfl (fun w => (rd_move rfl rfl)) ?_
   refine GO_split (t := 22) (b := _) rfl ?_ ?_
   ·intro hb2; (try simp only [decide_eq_true_eq, decide_eq_false_iff_not, Bool.not_eq_true', Bool.not_eq_false', Bool.not_eq_eq_eq_not, Bool.not_true, Bool.not_false, Int.not_lt, Int.not_le] at hb2)
    have h1 := a32_ext hb2
    refine GO_rdT (v := .slice _ _ _) rfl (wn_on rfl rfl rfl rfl) rfl (fun w => (rd_move rfl rfl)) ?_
    refine GO_rdT (v := .int _ _) rfl (wn_on rfl rfl rfl rfl) rfl (fun w => (rd_move rfl rfl)) ?_
    refine GO_rdT rfl (wn_on rfl rfl rfl rfl) rfl (fun w => (rd_indexS (j := i) rfl rfl rfl Try.underlying22 ts32 rfl (by omega) _ rfl)) ?_
    refine GO_rdT rfl (wn_on rfl rfl rfl rfl) rfl (fun w => (rd_field rfl rfl fa32_1 _ rfl)) ?_
    refine GO_rd rfl rfl (wn_on rfl rfl rfl rfl) rfl hpS (fun w hp => (rd_load rfl rfl Try.underlying3 rfl (Sl.recE (hI.keep hp.mod) i (by first | omega | assumption | exact Nat.lt_succ_self _) (rec_time _)))) ?_
    refine GO_rdT (v := .int _ _) rfl (wn_on rfl rfl rfl rfl) rfl (fun w => (rd_move rfl rfl)) ?_
    refine GO_rd rfl rfl (wn_on rfl rfl rfl rfl) rfl hpS (fun w hp => (rd_bin rfl rfl rfl bo_leq)) ?_
    refine GO_rdT (v := .bool _) rfl (wn_none rfl) rfl (fun w => (rd_pickT rfl rfl rfl)) ?_
    refine GO_nil ?_
    refine GW_cond rfl (fun hb3 => ?_) (fun hb3 => ?_)
    ·(try simp only [decide_eq_true_eq, decide_eq_false_iff_not, Bool.not_eq_true', Bool.not_eq_false', Bool.not_eq_eq_eq_not, Bool.not_true, Bool.not_false, Int.not_lt, Int.not_le] at hb3)
     have hb1 : mineB a t (recAt l i) = true := by rw [mineB, decide_eq_true h1, uT, decide_eq_true hb3]; rfl
     refine GW_region ?_
     refine GL_rd (v := v) (wn_none rfl) rfl (rd_move rfl rfl) ?_
     refine GL_rd (v := .slice _ _ _) (wn_none rfl) rfl (rd_move rfl rfl) ?_
     refine GL_rd (v := .int _ _) (wn_none rfl) rfl (rd_move rfl rfl) ?_
     refine GL_rd (wn_none rfl) rfl (rd_indexS (j := i) rfl rfl rfl Try.underlying22 ts32 rfl (by omega) _ rfl) ?_
     refine GL_rd (wn_none rfl) rfl (rd_loadN (L := recC _) rfl rfl Try.underlying32 rfl ts32 (recC_len _) (fun jq u hj => Sl.recE (hI.keep hp.mod) i (by first | omega | assumption | exact Nat.lt_succ_self _) hj)) ?_
     refine GL_lit1 (L := _) (wn_none rfl) rfl rfl rfl rfl Try.underlying22 ts32 tz32 (by kernel_rfl) (recC_len _) hp ?_
     intro g2 w hp
     refine GL_append (i := 1) (wn_none rfl) rfl rfl rfl rfl Try.underlying22 ti32 rfl (by decide) hp rfl (Sl.row (hp.get 0 rfl)) (recC_one _) (by have h1 := List.length_filter_le (mineB a t) (l.take i); rw [List.length_take] at h1; omega) (by have h1 := List.length_filter_le (mineB a t) (l.take i); rw [List.length_take] at h1; omega) ?_
     intro v w hp
     rw [rcR_snoc, ← filt_yes (recAt_some (l := l) (i := i) (by omega)) hb1] at hp
     refine GL_rd (v := v) (wn_none rfl) rfl (rd_assign rfl rfl) ?_
     refine GL_nil ?_
     refine GW_region ?_
     refine GL_rd (v := .int _ _) (wn_none rfl) rfl (rd_move rfl rfl) ?_
     refine GL_rd (wn_none rfl) rfl (rd_bin rfl rfl rfl (bo_add64 (by omega))) ?_
     refine GL_rd (v := .int _ _) (wn_none rfl) rfl (rd_assign rfl rfl) ?_
     refine GL_nil ?_
     have hp := (((hp.front 2 rfl).front 2 rfl).take 2)
     exact ihL0 (i + 1, v) _ _ (by simp only []; omega) ⟨_, slots5 rfl rfl rfl rfl rfl, hp, by omega⟩
    ·(try simp only [decide_eq_true_eq, decide_eq_false_iff_not, Bool.not_eq_true', Bool.not_eq_false', Bool.not_eq_eq_eq_not, Bool.not_true, Bool.not_false, Int.not_lt, Int.not_le] at hb3)
     have hb0 : mineB a t (recAt l i) = false := by rw [mineB, decide_eq_true h1, uT, decide_eq_false (by have := hb3; omega)]; rfl
     refine GW_skip ?_
     refine GW_region ?_
     refine GL_rd (v := .int _ _) (wn_none rfl) rfl (rd_move rfl rfl) ?_
     refine GL_rd (wn_none rfl) rfl (rd_bin rfl rfl rfl (bo_add64 (by omega))) ?_
     refine GL_rd (v := .int _ _) (wn_none rfl) rfl (rd_assign rfl rfl) ?_
     refine GL_nil ?_
     rw [← filt_none (recAt_some (l := l) (i := i) (by omega)) hb0] at hp
     have hp := (((hp.front 1 rfl).front 1 rfl).take 2)
     exact ihL0 (i + 1, v) _ _ (by simp only []; omega) ⟨_, slots5 rfl rfl rfl rfl rfl, hp, by omega⟩
   ·intro hb2; (try simp only [decide_eq_true_eq, decide_eq_false_iff_not, Bool.not_eq_true', Bool.not_eq_false', Bool.not_eq_eq_eq_not, Bool.not_true, Bool.not_false, Int.not_lt, Int.not_le] at hb2)
    have hb0 : mineB a t (recAt l i) = false := by rw [mineB, decide_eq_false (fun e => hb2 (congrArg Subtype.val e))]; rfl
    refine GO_pass rfl (nw_off rfl rfl rfl rfl rfl) rfl ?_
    refine GO_pass rfl (nw_off rfl rfl rfl rfl rfl) rfl ?_
    refine GO_pass rfl (nw_off rfl rfl rfl rfl rfl) rfl ?_
    refine GO_pass rfl (nw_off rfl rfl rfl rfl rfl) rfl ?_
    refine GO_pass rfl (nw_off rfl rfl rfl rfl rfl) rfl ?_
    refine GO_pass rfl (nw_off rfl rfl rfl rfl rfl) rfl ?_
    refine GO_pass rfl (nw_off rfl rfl rfl rfl rfl) rfl ?_
    refine GO_rdT (v := .bool _) rfl (wn_none rfl) rfl (fun w => (rd_pickF rfl rfl rfl)) ?_
    refine GO_nil ?_
    refine GW_false rfl ?_
    refine GW_skip ?_
    refine GW_region ?_
    refine GL_rd (v := .int _ _) (wn_none rfl) rfl (rd_move rfl rfl) ?_
    refine GL_rd (wn_none rfl) rfl (rd_bin rfl rfl rfl (bo_add64 (by omega))) ?_
    refine GL_rd (v := .int _ _) (wn_none rfl) rfl (rd_assign rfl rfl) ?_
    refine GL_nil ?_
    rw [← filt_none (recAt_some (l := l) (i := i) (by omega)) hb0] at hp
    have hp := (((hp.front 1 rfl).front 1 rfl).take 2)
    exact ihL0 (i + 1, v) _ _ (by simp only []; omega) ⟨_, slots5 rfl rfl rfl rfl rfl, hp, by omega⟩
  ·(try simp only [decide_eq_true_eq, decide_eq_false_iff_not, Bool.not_eq_true', Bool.not_eq_false', Bool.not_eq_eq_eq_not, Bool.not_true, Bool.not_false, Int.not_lt, Int.not_le] at hb)
   refine GW_exit ?_
   refine GW_seq ?_
   refine GW_region ?_
   refine GL_rd (v := v) (wn_none rfl) rfl (rd_move rfl rfl) ?_
   refine GL_rd (v := v) (wn_none rfl) rfl (rd_assign rfl rfl) ?_
   refine GL_nil ?_
   refine GW_ret ?_
   obtain rfl : m = i := by omega
   rw [List.take_of_length_le (by omega)] at hp
   have hp := ((hp.front 0 rfl).take 1)
   exact ⟨_, res1 Try.results47 (rv_tmp (v := v) rfl rfl), hp⟩
 ·have hp := hp.nilRow 32 100
  refine ⟨_, slots5 rfl rfl rfl rfl rfl, hp, Nat.zero_le _⟩
theorem ref_gone (r : Rec) (w0 : World) : Does Try.prog 85 #[.agg ⟨recC r⟩] w0 fun v w' => v = .bool (goneR r) ∧ Hp w0 [] w' [] := by
 refine does_of (l := [.agg ⟨recC r⟩]) Try.func85 (by kernel_rfl) rfl Try.ntmps85 rfl rfl (by kernel_rfl) ?_
 have hp := Hp.refl w0 []
 refine GW_seq ?_
 refine GW_region ?_
 refine GL_box (wn_none rfl) rfl rfl rfl rfl hp ?_
 intro g w hp
 refine GL_rd (v := .bool _) (wn_none rfl) rfl (rd_assign rfl rfl) ?_
 refine GL_nil ?_
 refine GW_seq ?_
 refine GW_region ?_
 refine GL_rd (wn_none rfl) rfl (rd_field rfl rfl fa32_0 _ rfl) ?_
 refine GL_rd (wn_none rfl) rfl (rd_load rfl rfl Try.underlying3 rfl ((cell_of_cells (hp.get 0 rfl) _).trans (rec_kind _))) ?_
 refine GL_rd (wn_none rfl) rfl (rd_bin rfl rfl rfl bo_eql) ?_
 refine GL_rd (v := .bool _) (wn_none rfl) rfl (rd_move rfl rfl) ?_
 refine GL_split (t := 6) (b := _) rfl ?_ ?_
 ·intro hb; (try simp only [decide_eq_true_eq, decide_eq_false_iff_not, Bool.not_eq_true', Bool.not_eq_false', Bool.not_eq_eq_eq_not, Bool.not_true, Bool.not_false, Int.not_lt, Int.not_le] at hb)
  have h1 := hb
  refine GL_pass (nw_off rfl rfl rfl rfl rfl) rfl ?_
  refine GL_pass (nw_off rfl rfl rfl rfl rfl) rfl ?_
  refine GL_pass (nw_off rfl rfl rfl rfl rfl) rfl ?_
  refine GL_rd (v := .bool _) (wn_none rfl) rfl (rd_pickT rfl rfl rfl) ?_
  refine GL_rd (v := .bool _) (wn_none rfl) rfl (rd_assign rfl rfl) ?_
  refine GL_nil ?_
  refine GW_ret ?_
  have e : goneR r = true := decide_eq_true (.inl h1)
  exact ⟨_, res1 Try.results85 (rv_tmp (v := .bool _) rfl rfl), by rw [e], hp.mods⟩
 ·intro hb; (try simp only [decide_eq_true_eq, decide_eq_false_iff_not, Bool.not_eq_true', Bool.not_eq_false', Bool.not_eq_eq_eq_not, Bool.not_true, Bool.not_false, Int.not_lt, Int.not_le] at hb)
  have h1 := hb
  refine GL_rd (wn_on rfl rfl rfl rfl) rfl (rd_field rfl rfl fa32_0 _ rfl) ?_
  refine GL_rd (wn_on rfl rfl rfl rfl) rfl (rd_load rfl rfl Try.underlying3 rfl ((cell_of_cells (hp.get 0 rfl) _).trans (rec_kind _))) ?_
  refine GL_rd (wn_on rfl rfl rfl rfl) rfl (rd_bin rfl rfl rfl bo_eql) ?_
  refine GL_rd (v := .bool _) (wn_none rfl) rfl (rd_pickF rfl rfl rfl) ?_
  refine GL_rd (v := .bool _) (wn_none rfl) rfl (rd_assign rfl rfl) ?_
  refine GL_nil ?_
  refine GW_ret ?_
  have e : goneR r = decide (r.kind = 2) := decide_eq_decide.2 ⟨fun q => q.elim (fun k => absurd k h1) id, .inr⟩
  exact ⟨_, res1 Try.results85 (rv_tmp (v := .bool _) rfl rfl), by rw [e], hp.mods⟩
theorem ref_since (sv : Value) (m : Nat) (l : List Rec) (w0 : World) (hI : Sl w0 sv 100 m (l.flatMap recC)) (hm : m ≤ 65000) : Does Try.prog 83 #[sv] w0 fun v w' => (∀ w1, Sl w1 sv 100 m (l.flatMap recC) → Sl w1 v 100 (sinceL l).length ((sinceL l).flatMap recC)) ∧ Hp w0 [] w' [] := by
 obtain ⟨A, c, rfl⟩ := sl_shape hI
 have hlm := Sl.recs hI
 have hmle := hI.le
 refine does_of (l := [.slice A m c]) Try.func83 (by kernel_rfl) rfl Try.ntmps83 rfl rfl (by kernel_rfl) ?_
 have hp := Hp.refl w0 []
 refine GW_seq ?_
 refine GW_region ?_
 refine GL_rd (v := .slice _ _ _) (wn_none rfl) rfl (rd_assign rfl rfl) ?_
 refine GL_nil ?_
 refine GW_seq ?_
 refine GW_region ?_
 refine GL_rd (v := .int _ _) (wn_none rfl) rfl (rd_assign rfl rfl) ?_
 refine GL_nil ?_
 refine GW_seq ?_
 refine GW_seq ?_
 refine GW_region ?_
 refine GL_rd (v := .int _ _) (wn_none rfl) rfl (rd_assign rfl rfl) ?_
 refine GL_nil ?_
 refine GW_block ?_
 refine GW_loop ?_
 refine Lp_ind (α := Nat) (fun a_0 f_0 w' => match a_0 with | i => ∃ fz, f_0 = (upd (upd (upd fz 0 (.slice A m c)) 3 (.int .i64 (fromK l i : Int))) 4 (.int .i64 (i : Int))) ∧ Hp w0 [] w' [] ∧ (i ≤ m - 1)) (fun a_0 => match a_0 with | i => m - i) ?_ 0 _ _ ?_
 ·rintro i f wz ⟨fz, rfl, hp, hi0⟩ ihL0
  have hfk := fromK_le l i
  refine Lp_round ?_
  refine GW_seq ?_
  refine GW_seq ?_
  refine GW_region ?_
  refine GL_rd (v := .int _ _) (wn_none rfl) rfl (rd_move rfl rfl) ?_
  refine GL_rd (wn_none rfl) rfl (rd_bin rfl rfl rfl (bo_add64 (by omega))) ?_
  refine GL_rd (v := .slice _ _ _) (wn_none rfl) rfl (rd_move rfl rfl) ?_
  refine GL_rd (wn_none rfl) rfl (rd_len rfl rfl Try.underlying22) ?_
  refine GL_rd (wn_none rfl) rfl (rd_bin rfl rfl rfl bo_lss) ?_
  refine GL_nil ?_
  refine GW_cond rfl (fun hb => ?_) (fun hb => ?_)
  ·(try simp only [decide_eq_true_eq, decide_eq_false_iff_not, Bool.not_eq_true', Bool.not_eq_false', Bool.not_eq_eq_eq_not, Bool.not_true, Bool.not_false, Int.not_lt, Int.not_le] at hb)
   obtain ⟨gA, bA, rfl⟩ := hI.addr (by rw [flat_length recC_len]; omega)
   refine GW_skip ?_
   refine GW_seq ?_
   refine GW_block ?_
   refine GW_seq ?_
   refine GW_region ?_
   refine GL_rd (v := .slice _ _ _) (wn_none rfl) rfl (rd_move rfl rfl) ?_
   refine GL_rd (v := .int _ _) (wn_none rfl) rfl (rd_move rfl rfl) ?_
   refine GL_rd (wn_none rfl) rfl (rd_indexS (j := i) rfl rfl rfl Try.underlying22 ts32 rfl (by omega) _ rfl) ?_
   refine GL_rd (wn_none rfl) rfl (rd_loadN (L := recC _) rfl rfl Try.underlying32 rfl ts32 (recC_len _) (fun jq u hj => Sl.recE (hI.keep hp.mod) i (by first | omega | assumption | exact Nat.lt_succ_self _) hj)) ?_
   refine GL_call (wn_none rfl) rfl rfl (ref_gone (recAt l i) _) rfl ?_
   rintro _ w ⟨rfl, hk⟩
   have hp := hp.comp hk
   refine GL_nil ?_
   refine GW_cond rfl (fun hb2 => ?_) (fun hb2 => ?_)
   ·(try simp only [decide_eq_true_eq, decide_eq_false_iff_not, Bool.not_eq_true', Bool.not_eq_false', Bool.not_eq_eq_eq_not, Bool.not_true, Bool.not_false, Int.not_lt, Int.not_le] at hb2)
    have e1 := fromK_yes (m := l) (k := i) hb2
    refine GW_region ?_
    refine GL_rd (v := .int _ _) (wn_none rfl) rfl (rd_move rfl rfl) ?_
    refine GL_rd (wn_none rfl) rfl (rd_bin rfl rfl rfl (bo_add64 (by omega))) ?_
    refine GL_rd (v := .int _ _) (wn_none rfl) rfl (rd_assign rfl rfl) ?_
    refine GL_nil ?_
    refine GW_region ?_
    refine GL_rd (v := .int _ _) (wn_none rfl) rfl (rd_move rfl rfl) ?_
    refine GL_rd (wn_none rfl) rfl (rd_bin rfl rfl rfl (bo_add64 (by omega))) ?_
    refine GL_rd (v := .int _ _) (wn_none rfl) rfl (rd_assign rfl rfl) ?_
    refine GL_nil ?_
    exact ihL0 (i + 1) _ _ (by simp only []; omega) ⟨_, slots3 rfl (by rw [e1]; first | rfl | omega) rfl, hp, by omega⟩
   ·(try simp only [decide_eq_true_eq, decide_eq_false_iff_not, Bool.not_eq_true', Bool.not_eq_false', Bool.not_eq_eq_eq_not, Bool.not_true, Bool.not_false, Int.not_lt, Int.not_le] at hb2)
    have e1 := fromK_no (m := l) (k := i) hb2
    refine GW_skip ?_
    refine GW_region ?_
    refine GL_rd (v := .int _ _) (wn_none rfl) rfl (rd_move rfl rfl) ?_
    refine GL_rd (wn_none rfl) rfl (rd_bin rfl rfl rfl (bo_add64 (by omega))) ?_
    refine GL_rd (v := .int _ _) (wn_none rfl) rfl (rd_assign rfl rfl) ?_
    refine GL_nil ?_
    exact ihL0 (i + 1) _ _ (by simp only []; omega) ⟨_, slots3 rfl (by rw [e1]; first | rfl | omega) rfl, hp, by omega⟩
  ·(try simp only [decide_eq_true_eq, decide_eq_false_iff_not, Bool.not_eq_true', Bool.not_eq_false', Bool.not_eq_eq_eq_not, Bool.not_true, Bool.not_false, Int.not_lt, Int.not_le] at hb)
   obtain rfl : i = m - 1 := by omega
   refine GW_exit ?_
   refine GW_seq ?_
   refine GW_region ?_
   refine GL_rd (v := .slice _ _ _) (wn_none rfl) rfl (rd_move rfl rfl) ?_
   refine GL_rd (v := .int _ _) (wn_none rfl) rfl (rd_move rfl rfl) ?_
   refine GL_rd (wn_none rfl) rfl (rd_sliceS (lo := (fromK l (m - 1))) (hi := m) rfl rfl Try.underlying22 ts32 (at_some rfl rfl) to_none (by have := fromK_le l (m - 1); omega) (by have := (Sl.cap hI).1; omega)) ?_
   refine GL_rd (v := _) (wn_none rfl) rfl (rd_assign rfl rfl) ?_
   refine GL_nil ?_
   refine GW_ret ?_
   have hs := fun w1 (h1 : Sl w1 (.slice A m c) 100 m (l.flatMap recC)) => Sl.cutE recC_len h1 (fromK l (m - 1)) m (by omega) (Nat.le_refl _)
   have e1 : (l.drop (fromK l (m - 1))).take (m - fromK l (m - 1)) = sinceL l := by rw [List.take_of_length_le (by rw [List.length_drop]; omega), sinceL, hlm]
   have e2 : m - fromK l (m - 1) = (sinceL l).length := by rw [sinceL, hlm, List.length_drop, hlm]
   rw [e1] at hs
   exact ⟨_, res1 Try.results83 (rv_tmp (v := _) rfl rfl), by rw [← e2]; exact hs, hp⟩
 ·refine ⟨_, slots3 rfl rfl rfl, hp, Nat.zero_le _⟩
set_option maxHeartbeats 1000000 in
theorem ref_holds (sv : Value) (m : Nat) (l : List Rec) (w0 : World) (hI : Sl w0 sv 100 m (l.flatMap recC)) (hm : m ≤ 65000) : Does Try.prog 84 #[sv] w0 fun v w' => Hp w0 [] w' [.row 9 1 v ((hR l)).length (((hR l)).map Value.string)] := by
 obtain ⟨A, c, rfl⟩ := sl_shape hI
 have hlm := Sl.recs hI
 have hmle := hI.le
 refine does_of (l := [.slice A m c]) Try.func84 (by kernel_rfl) rfl Try.ntmps84 rfl rfl (by kernel_rfl) ?_
 have hp := Hp.refl w0 []
 refine GW_seq ?_
 refine GW_region ?_
 refine GL_rd (v := .slice _ _ _) (wn_none rfl) rfl (rd_assign rfl rfl) ?_
 refine GL_nil ?_
 refine GW_seq ?_
 refine GW_region ?_
 refine GL_rd (v := .slice _ _ _) (wn_none rfl) rfl (rd_assign rfl rfl) ?_
 refine GL_nil ?_
 refine GW_seq ?_
 refine GW_seq ?_
 refine GW_region ?_
 refine GL_rd (v := .int _ _) (wn_none rfl) rfl (rd_assign rfl rfl) ?_
 refine GL_nil ?_
 refine GW_block ?_
 refine GW_loop ?_
 refine Lp_ind (α := Nat × Value) (fun a_0 f_0 w' => match a_0 with | (i, y) => ∃ fz, f_0 = (upd (upd (upd fz 0 (.slice A m c)) 3 (y)) 4 (.int .i64 (i : Int))) ∧ Hp w0 [] w' [.row 9 1 y ((hR (l.take i))).length (((hR (l.take i))).map Value.string)] ∧ (i ≤ m)) (fun a_0 => match a_0 with | (i, y) => m - i) ?_ (0, .slice none 0 0) _ _ ?_
 ·rintro ⟨i, y⟩ f wz ⟨fz, rfl, hp, hi0⟩ ihL0
  refine Lp_round ?_
  refine GW_seq ?_
  refine GW_seq ?_
  refine GW_region ?_
  refine GL_rd (v := .int _ _) (wn_none rfl) rfl (rd_move rfl rfl) ?_
  refine GL_rd (v := .slice _ _ _) (wn_none rfl) rfl (rd_move rfl rfl) ?_
  refine GL_rd (wn_none rfl) rfl (rd_len rfl rfl Try.underlying22) ?_
  refine GL_rd (wn_none rfl) rfl (rd_bin rfl rfl rfl bo_lss) ?_
  refine GL_nil ?_
  refine GW_cond rfl (fun hb => ?_) (fun hb => ?_)
  ·(try simp only [decide_eq_true_eq, decide_eq_false_iff_not, Bool.not_eq_true', Bool.not_eq_false', Bool.not_eq_eq_eq_not, Bool.not_true, Bool.not_false, Int.not_lt, Int.not_le] at hb)
   obtain ⟨gA, bA, rfl⟩ := hI.addr (by rw [flat_length recC_len]; omega)
   have hhl : (hR (l.take i)).length ≤ i := by have h1 := hR_len (l.take i); rw [List.length_take] at h1; omega
   obtain ⟨Av, cv, rfl⟩ := row_shape (hp.get 0 rfl)
   refine GW_skip ?_
   refine GW_seq ?_
   refine GW_block ?_
   refine GW_seq ?_
   refine GW_region ?_
   refine GL_rd (v := .slice _ _ _) (wn_none rfl) rfl (rd_assign rfl rfl) ?_
   refine GL_nil ?_
   refine GW_seq ?_
   refine GW_region ?_
   refine GL_rd (v := .bool _) (wn_none rfl) rfl (rd_assign rfl rfl) ?_
   refine GL_nil ?_
   refine GW_seq ?_
   refine GW_seq ?_
   refine GW_region ?_
   refine GL_rd (v := .int _ _) (wn_none rfl) rfl (rd_assign rfl rfl) ?_
   refine GL_nil ?_
   refine GW_block ?_
   refine GW_loop ?_
   refine Lp_ind (α := Nat × Value × Option Addr) (fun a_0 f_0 w' => match a_0 with | (k, u, Av) => ∃ fz, f_0 = (upd (upd (upd (upd (upd (upd fz 0 (.slice (some ⟨gA, bA, none⟩) m c)) 3 (.slice Av (hR (l.take i)).length cv)) 4 (.int .i64 (i : Int))) 5 (u)) 6 (.bool (decide ((recAt l i).reason ∈ (hR (l.take i)).take k)))) 7 (.int .i64 (k : Int))) ∧ Hp w0 [] w' [.row 9 1 u ((restK (hR (l.take i)) (recAt l i) k)).length (((restK (hR (l.take i)) (recAt l i) k)).map Value.string), .row 9 1 (.slice Av (hR (l.take i)).length cv) ((hR (l.take i))).length (((hR (l.take i))).map Value.string)] ∧ (k ≤ (hR (l.take i)).length)) (fun a_0 => match a_0 with | (k, u, Av) => (hR (l.take i)).length - k) ?_ (0, .slice none 0 0, Av) _ _ ?_
   ·rintro ⟨k, u, Av⟩ f wz ⟨fz, rfl, hp, hk0⟩ ihL1
    refine Lp_round ?_
    refine GW_seq ?_
    refine GW_seq ?_
    refine GW_region ?_
    refine GL_rd (v := .int _ _) (wn_none rfl) rfl (rd_move rfl rfl) ?_
    refine GL_rd (v := .slice _ _ _) (wn_none rfl) rfl (rd_move rfl rfl) ?_
    refine GL_rd (wn_none rfl) rfl (rd_len rfl rfl Try.underlying29) ?_
    refine GL_rd (wn_none rfl) rfl (rd_bin rfl rfl rfl bo_lss) ?_
    refine GL_nil ?_
    refine GW_cond rfl (fun hb2 => ?_) (fun hb2 => ?_)
    ·(try simp only [decide_eq_true_eq, decide_eq_false_iff_not, Bool.not_eq_true', Bool.not_eq_false', Bool.not_eq_eq_eq_not, Bool.not_true, Bool.not_false, Int.not_lt, Int.not_le] at hb2)
     obtain ⟨gV, bV, rfl⟩ := (Sl.row (hp.get 1 rfl)).addr (by rw [List.length_map]; omega)
     refine GW_skip ?_
     refine GW_seq ?_
     refine GW_block ?_
     refine GW_seq ?_
     refine GW_seq ?_
     refine GW_drawnK 21 (.one 0 true (.one 1 true (.one 2 true (.one 3 true (.one 4 true (.one 5 true (.one 6 true (.one 7 true (.one 8 true (.one 9 true (.one 10 true (.one 11 true (.one 12 true (.one 13 true (.one 14 true (.one 15 true (.one 16 true (.one 17 true (.one 18 true (.one 19 true (.one 20 true .nil))))))))))))))))))))) mixed (by kernel_rfl) hp (fun _ h => (h.sub (.cons _ (.cons_cons _ .slnil)))) fun w hp => ?_
     have hpS := (hp.sub (.cons _ (.cons_cons _ .slnil)))
     refine GO_rdT (v := .slice _ _ _) rfl (wn_none rfl) rfl (fun w => (rd_move rfl rfl)) ?_
     refine GO_rdT (v := .int _ _) rfl (wn_none rfl) rfl (fun w => (rd_move rfl rfl)) ?_
     refine GO_rdT rfl (wn_none rfl) rfl (fun w => (rd_indexS (j := k) rfl rfl rfl Try.underlying29 ts9 rfl (by omega) _ rfl)) ?_
     refine GO_rd rfl rfl (wn_none rfl) rfl hpS (fun w hp => (rd_load rfl rfl Try.underlying9 rfl ((Sl.row (hp.get 0 rfl)).get _ _ (strAt_cell (l := (hR (l.take i))) (i := k) (by omega))))) ?_
     refine GO_rdT (v := .slice _ _ _) rfl (wn_none rfl) rfl (fun w => (rd_move rfl rfl)) ?_
     refine GO_rdT (v := .int _ _) rfl (wn_none rfl) rfl (fun w => (rd_move rfl rfl)) ?_
     refine GO_rdT rfl (wn_none rfl) rfl (fun w => (rd_indexS (j := i) rfl rfl rfl Try.underlying22 ts32 rfl (by omega) _ rfl)) ?_
     refine GO_rdT rfl (wn_none rfl) rfl (fun w => (rd_field rfl rfl fa32_4 _ rfl)) ?_
     refine GO_rd rfl rfl (wn_none rfl) rfl hpS (fun w hp => (rd_load rfl rfl Try.underlying9 rfl (Sl.recE (hI.keep hp.mod) i (by first | omega | assumption | exact Nat.lt_succ_self _) (rec_reason _)))) ?_
     refine GO_rd rfl rfl (wn_none rfl) rfl hpS (fun w hp => (rd_bin rfl rfl rfl bo_sneq)) ?_
     refine GO_rdT (v := .bool _) rfl (wn_none rfl) rfl (fun w => (rd_move rfl rfl)) ?_
     refine GO_split (t := 30) (b := _) rfl ?_ ?_
     ·intro hb3; (try simp only [decide_eq_true_eq, decide_eq_false_iff_not, Bool.not_eq_true', Bool.not_eq_false', Bool.not_eq_eq_eq_not, Bool.not_true, Bool.not_false, Int.not_lt, Int.not_le] at hb3)
      have e1 := rest_add (h := (hR (l.take i))) (r := (recAt l i)) (k := k) (by omega) (.inl hb3)
      refine GO_pass rfl (nw_off rfl rfl rfl rfl rfl) rfl ?_
      refine GO_pass rfl (nw_off rfl rfl rfl rfl rfl) rfl ?_
      refine GO_pass rfl (nw_off rfl rfl rfl rfl rfl) rfl ?_
      refine GO_pass rfl (nw_off rfl rfl rfl rfl rfl) rfl ?_
      refine GO_pass rfl (nw_off rfl rfl rfl rfl rfl) rfl ?_
      refine GO_pass rfl (nw_off rfl rfl rfl rfl rfl) rfl ?_
      refine GO_rdT (v := .bool _) rfl (wn_none rfl) rfl (fun w => (rd_pickT rfl rfl rfl)) ?_
      refine GO_rdT (v := .bool _) rfl (wn_none rfl) rfl (fun w => (rd_move rfl rfl)) ?_
      refine GO_pass rfl (nw_off rfl rfl rfl rfl rfl) rfl ?_
      refine GO_rdT (v := .bool _) rfl (wn_none rfl) rfl (fun w => (rd_pickT rfl rfl rfl)) ?_
      refine GO_nil ?_
      refine GW_true rfl ?_
      refine GW_region ?_
      refine GL_rd (v := u) (wn_none rfl) rfl (rd_move rfl rfl) ?_
      refine GL_rd (v := .slice _ _ _) (wn_none rfl) rfl (rd_move rfl rfl) ?_
      refine GL_rd (v := .int _ _) (wn_none rfl) rfl (rd_move rfl rfl) ?_
      refine GL_rd (wn_none rfl) rfl (rd_indexS (j := k) rfl rfl rfl Try.underlying29 ts9 rfl (by omega) _ rfl) ?_
      refine GL_rd (wn_none rfl) rfl (rd_load rfl rfl Try.underlying9 rfl ((Sl.row (hp.get 1 rfl)).get _ _ (strAt_cell (l := (hR (l.take i))) (i := k) (by omega)))) ?_
      refine GL_lit (L := [.string (strAt (hR (l.take i)) k)]) (wn_none rfl) rfl rfl Try.underlying29 ts9 tz9 rfl (by kernel_rfl) rfl rfl hp ?_
      intro g w hp
      refine GL_append (i := 1) (wn_none rfl) rfl rfl rfl rfl Try.underlying29 ti9 rfl (by decide) hp rfl (Sl.row (hp.get 0 rfl)) (one1 rfl) (by have h9 := rest_len (hR (l.take i)) (recAt l i) k; omega) (by have h9 := rest_len (hR (l.take i)) (recAt l i) k; omega) ?_
      intro v w hp
      rw [stR_snoc, ← e1] at hp
      refine GL_rd (v := v) (wn_none rfl) rfl (rd_assign rfl rfl) ?_
      refine GL_nil ?_
      refine GW_drawnK 14 (.one 0 true (.one 1 true (.one 2 true (.one 3 true (.one 4 true (.one 5 true (.one 6 true (.one 7 true (.one 8 true (.one 9 true (.one 10 true (.one 11 true (.one 12 true (.one 13 true .nil)))))))))))))) mixed (by kernel_rfl) hp (fun _ h => (h.sub (.cons _ (.cons _ (.cons_cons _ .slnil))))) fun w hp => ?_
      have hpS2 := (hp.sub (.cons _ (.cons _ (.cons_cons _ .slnil))))
      refine GO_rdT (v := .bool _) rfl (wn_none rfl) rfl (fun w => (rd_move rfl rfl)) ?_
      refine GO_rdT (v := .bool _) rfl (wn_none rfl) rfl (fun w => (rd_move rfl rfl)) ?_
      refine GO_split (t := 49) (b := _) rfl ?_ ?_
      ·intro hb4; (try simp only [decide_eq_true_eq, decide_eq_false_iff_not, Bool.not_eq_true', Bool.not_eq_false', Bool.not_eq_eq_eq_not, Bool.not_true, Bool.not_false, Int.not_lt, Int.not_le] at hb4)
       have hmet := decide_eq_true hb4
       refine GO_pass rfl (nw_off rfl rfl rfl rfl rfl) rfl ?_
       refine GO_pass rfl (nw_off rfl rfl rfl rfl rfl) rfl ?_
       refine GO_pass rfl (nw_off rfl rfl rfl rfl rfl) rfl ?_
       refine GO_pass rfl (nw_off rfl rfl rfl rfl rfl) rfl ?_
       refine GO_pass rfl (nw_off rfl rfl rfl rfl rfl) rfl ?_
       refine GO_pass rfl (nw_off rfl rfl rfl rfl rfl) rfl ?_
       refine GO_pass rfl (nw_off rfl rfl rfl rfl rfl) rfl ?_
       refine GO_pass rfl (nw_off rfl rfl rfl rfl rfl) rfl ?_
       refine GO_pass rfl (nw_off rfl rfl rfl rfl rfl) rfl ?_
       refine GO_pass rfl (nw_off rfl rfl rfl rfl rfl) rfl ?_
       refine GO_rdT (v := .bool _) rfl (wn_none rfl) rfl (fun w => (rd_pickT rfl rfl rfl)) ?_
       refine GO_rdT (v := .bool _) rfl (wn_none rfl) rfl (fun w => (rd_assign rfl rfl)) ?_
       refine GO_nil ?_
       refine GW_region ?_
       refine GL_rd (v := .int _ _) (wn_none rfl) rfl (rd_move rfl rfl) ?_
       refine GL_rd (wn_none rfl) rfl (rd_bin rfl rfl rfl (bo_add64 (by omega))) ?_
       refine GL_rd (v := .int _ _) (wn_none rfl) rfl (rd_assign rfl rfl) ?_
       refine GL_nil ?_
       have hp := (((hp.front 2 rfl).front 2 rfl).take 2)
       exact ihL1 (k + 1, v, _) _ _ (by simp only []; omega) ⟨_, slots6 rfl rfl rfl rfl (by rw [mem_takeS (by omega)]; first | (rw [hmet]; rfl) | (rw [hno]; rfl)) rfl, hp, by omega⟩
      ·intro hb4; (try simp only [decide_eq_true_eq, decide_eq_false_iff_not, Bool.not_eq_true', Bool.not_eq_false', Bool.not_eq_eq_eq_not, Bool.not_true, Bool.not_false, Int.not_lt, Int.not_le] at hb4)
       have hno := decide_eq_false hb4
       refine GO_rdT (v := .slice _ _ _) rfl (wn_on rfl rfl rfl rfl) rfl (fun w => (rd_move rfl rfl)) ?_
       refine GO_rdT (v := .int _ _) rfl (wn_on rfl rfl rfl rfl) rfl (fun w => (rd_move rfl rfl)) ?_
       refine GO_rdT rfl (wn_on rfl rfl rfl rfl) rfl (fun w => (rd_indexS (j := k) rfl rfl rfl Try.underlying29 ts9 rfl (by omega) _ rfl)) ?_
       refine GO_rd rfl rfl (wn_on rfl rfl rfl rfl) rfl hpS2 (fun w hp => (rd_load rfl rfl Try.underlying9 rfl ((Sl.row (hp.get 0 rfl)).get _ _ (strAt_cell (l := (hR (l.take i))) (i := k) (by omega))))) ?_
       refine GO_rdT (v := .slice _ _ _) rfl (wn_on rfl rfl rfl rfl) rfl (fun w => (rd_move rfl rfl)) ?_
       refine GO_rdT (v := .int _ _) rfl (wn_on rfl rfl rfl rfl) rfl (fun w => (rd_move rfl rfl)) ?_
       refine GO_rdT rfl (wn_on rfl rfl rfl rfl) rfl (fun w => (rd_indexS (j := i) rfl rfl rfl Try.underlying22 ts32 rfl (by omega) _ rfl)) ?_
       refine GO_rdT rfl (wn_on rfl rfl rfl rfl) rfl (fun w => (rd_field rfl rfl fa32_4 _ rfl)) ?_
       refine GO_rd rfl rfl (wn_on rfl rfl rfl rfl) rfl hpS2 (fun w hp => (rd_load rfl rfl Try.underlying9 rfl (Sl.recE (hI.keep hp.mod) i (by first | omega | assumption | exact Nat.lt_succ_self _) (rec_reason _)))) ?_
       refine GO_rd rfl rfl (wn_on rfl rfl rfl rfl) rfl hpS2 (fun w hp => (rd_bin rfl rfl rfl bo_seql)) ?_
       refine GO_rdT (v := .bool _) rfl (wn_none rfl) rfl (fun w => (rd_pickF rfl rfl rfl)) ?_
       refine GO_rdT (v := .bool _) rfl (wn_none rfl) rfl (fun w => (rd_assign rfl rfl)) ?_
       refine GO_nil ?_
       refine GW_region ?_
       refine GL_rd (v := .int _ _) (wn_none rfl) rfl (rd_move rfl rfl) ?_
       refine GL_rd (wn_none rfl) rfl (rd_bin rfl rfl rfl (bo_add64 (by omega))) ?_
       refine GL_rd (v := .int _ _) (wn_none rfl) rfl (rd_assign rfl rfl) ?_
       refine GL_nil ?_
       have hp := (((hp.front 2 rfl).front 2 rfl).take 2)
       exact ihL1 (k + 1, v, _) _ _ (by simp only []; omega) ⟨_, slots6 rfl rfl rfl rfl (by rw [mem_takeS (by omega)]; first | (rw [hmet]; rfl) | (rw [hno]; rfl)) rfl, hp, by omega⟩
     ·intro hb3; (try simp only [decide_eq_true_eq, decide_eq_false_iff_not, Bool.not_eq_true', Bool.not_eq_false', Bool.not_eq_eq_eq_not, Bool.not_true, Bool.not_false, Int.not_lt, Int.not_le] at hb3)
      have h1 : strAt (hR (l.take i)) k = (recAt l i).reason := by simpa using hb3
      refine GO_rdT (v := .slice _ _ _) rfl (wn_on rfl rfl rfl rfl) rfl (fun w => (rd_move rfl rfl)) ?_
      refine GO_rdT (v := .int _ _) rfl (wn_on rfl rfl rfl rfl) rfl (fun w => (rd_move rfl rfl)) ?_
      refine GO_rdT rfl (wn_on rfl rfl rfl rfl) rfl (fun w => (rd_indexS (j := i) rfl rfl rfl Try.underlying22 ts32 rfl (by omega) _ rfl)) ?_
      refine GO_rdT rfl (wn_on rfl rfl rfl rfl) rfl (fun w => (rd_field rfl rfl fa32_0 _ rfl)) ?_
      refine GO_rd rfl rfl (wn_on rfl rfl rfl rfl) rfl hpS (fun w hp => (rd_load rfl rfl Try.underlying3 rfl (Sl.recE (hI.keep hp.mod) i (by first | omega | assumption | exact Nat.lt_succ_self _) (rec_kind _)))) ?_
      refine GO_rd rfl rfl (wn_on rfl rfl rfl rfl) rfl hpS (fun w hp => (rd_bin rfl rfl rfl bo_neq)) ?_
      refine GO_rdT (v := .bool _) rfl (wn_none rfl) rfl (fun w => (rd_pickF rfl rfl rfl)) ?_
      refine GO_rdT (v := .bool _) rfl (wn_none rfl) rfl (fun w => (rd_move rfl rfl)) ?_
      refine GO_split (t := 38) (b := _) rfl ?_ ?_
      ·intro hb5; (try simp only [decide_eq_true_eq, decide_eq_false_iff_not, Bool.not_eq_true', Bool.not_eq_false', Bool.not_eq_eq_eq_not, Bool.not_true, Bool.not_false, Int.not_lt, Int.not_le] at hb5)
       have e1 := rest_add (h := (hR (l.take i))) (r := (recAt l i)) (k := k) (by omega) (.inr (.inl hb5))
       refine GO_pass rfl (nw_off rfl rfl rfl rfl rfl) rfl ?_
       refine GO_rdT (v := .bool _) rfl (wn_none rfl) rfl (fun w => (rd_pickT rfl rfl rfl)) ?_
       refine GO_nil ?_
       refine GW_true rfl ?_
       refine GW_region ?_
       refine GL_rd (v := u) (wn_none rfl) rfl (rd_move rfl rfl) ?_
       refine GL_rd (v := .slice _ _ _) (wn_none rfl) rfl (rd_move rfl rfl) ?_
       refine GL_rd (v := .int _ _) (wn_none rfl) rfl (rd_move rfl rfl) ?_
       refine GL_rd (wn_none rfl) rfl (rd_indexS (j := k) rfl rfl rfl Try.underlying29 ts9 rfl (by omega) _ rfl) ?_
       refine GL_rd (wn_none rfl) rfl (rd_load rfl rfl Try.underlying9 rfl ((Sl.row (hp.get 1 rfl)).get _ _ (strAt_cell (l := (hR (l.take i))) (i := k) (by omega)))) ?_
       refine GL_lit (L := [.string (strAt (hR (l.take i)) k)]) (wn_none rfl) rfl rfl Try.underlying29 ts9 tz9 rfl (by kernel_rfl) rfl rfl hp ?_
       intro g2 w hp
       refine GL_append (i := 1) (wn_none rfl) rfl rfl rfl rfl Try.underlying29 ti9 rfl (by decide) hp rfl (Sl.row (hp.get 0 rfl)) (one1 rfl) (by have h9 := rest_len (hR (l.take i)) (recAt l i) k; omega) (by have h9 := rest_len (hR (l.take i)) (recAt l i) k; omega) ?_
       intro v2 w hp
       rw [stR_snoc, ← e1] at hp
       refine GL_rd (v := v2) (wn_none rfl) rfl (rd_assign rfl rfl) ?_
       refine GL_nil ?_
       refine GW_drawnK 14 (.one 0 true (.one 1 true (.one 2 true (.one 3 true (.one 4 true (.one 5 true (.one 6 true (.one 7 true (.one 8 true (.one 9 true (.one 10 true (.one 11 true (.one 12 true (.one 13 true .nil)))))))))))))) mixed (by kernel_rfl) hp (fun _ h => (h.sub (.cons _ (.cons _ (.cons_cons _ .slnil))))) fun w hp => ?_
       have hpS3 := (hp.sub (.cons _ (.cons _ (.cons_cons _ .slnil))))
       refine GO_rdT (v := .bool _) rfl (wn_none rfl) rfl (fun w => (rd_move rfl rfl)) ?_
       refine GO_rdT (v := .bool _) rfl (wn_none rfl) rfl (fun w => (rd_move rfl rfl)) ?_
       refine GO_split (t := 49) (b := _) rfl ?_ ?_
       ·intro hb6; (try simp only [decide_eq_true_eq, decide_eq_false_iff_not, Bool.not_eq_true', Bool.not_eq_false', Bool.not_eq_eq_eq_not, Bool.not_true, Bool.not_false, Int.not_lt, Int.not_le] at hb6)
        have hmet := decide_eq_true hb6
        refine GO_pass rfl (nw_off rfl rfl rfl rfl rfl) rfl ?_
        refine GO_pass rfl (nw_off rfl rfl rfl rfl rfl) rfl ?_
        refine GO_pass rfl (nw_off rfl rfl rfl rfl rfl) rfl ?_
        refine GO_pass rfl (nw_off rfl rfl rfl rfl rfl) rfl ?_
        refine GO_pass rfl (nw_off rfl rfl rfl rfl rfl) rfl ?_
        refine GO_pass rfl (nw_off rfl rfl rfl rfl rfl) rfl ?_
        refine GO_pass rfl (nw_off rfl rfl rfl rfl rfl) rfl ?_
        refine GO_pass rfl (nw_off rfl rfl rfl rfl rfl) rfl ?_
        refine GO_pass rfl (nw_off rfl rfl rfl rfl rfl) rfl ?_
        refine GO_pass rfl (nw_off rfl rfl rfl rfl rfl) rfl ?_
        refine GO_rdT (v := .bool _) rfl (wn_none rfl) rfl (fun w => (rd_pickT rfl rfl rfl)) ?_
        refine GO_rdT (v := .bool _) rfl (wn_none rfl) rfl (fun w => (rd_assign rfl rfl)) ?_
        refine GO_nil ?_
        refine GW_region ?_
        refine GL_rd (v := .int _ _) (wn_none rfl) rfl (rd_move rfl rfl) ?_
        refine GL_rd (wn_none rfl) rfl (rd_bin rfl rfl rfl (bo_add64 (by omega))) ?_
        refine GL_rd (v := .int _ _) (wn_none rfl) rfl (rd_assign rfl rfl) ?_
        refine GL_nil ?_
        have hp := (((hp.front 2 rfl).front 2 rfl).take 2)
        exact ihL1 (k + 1, v2, _) _ _ (by simp only []; omega) ⟨_, slots6 rfl rfl rfl rfl (by rw [mem_takeS (by omega)]; first | (rw [hmet]; rfl) | (rw [hno]; rfl)) rfl, hp, by omega⟩
       ·intro hb6; (try simp only [decide_eq_true_eq, decide_eq_false_iff_not, Bool.not_eq_true', Bool.not_eq_false', Bool.not_eq_eq_eq_not, Bool.not_true, Bool.not_false, Int.not_lt, Int.not_le] at hb6)
        have hno := decide_eq_false hb6
        refine GO_rdT (v := .slice _ _ _) rfl (wn_on rfl rfl rfl rfl) rfl (fun w => (rd_move rfl rfl)) ?_
        refine GO_rdT (v := .int _ _) rfl (wn_on rfl rfl rfl rfl) rfl (fun w => (rd_move rfl rfl)) ?_
        refine GO_rdT rfl (wn_on rfl rfl rfl rfl) rfl (fun w => (rd_indexS (j := k) rfl rfl rfl Try.underlying29 ts9 rfl (by omega) _ rfl)) ?_
        refine GO_rd rfl rfl (wn_on rfl rfl rfl rfl) rfl hpS3 (fun w hp => (rd_load rfl rfl Try.underlying9 rfl ((Sl.row (hp.get 0 rfl)).get _ _ (strAt_cell (l := (hR (l.take i))) (i := k) (by omega))))) ?_
        refine GO_rdT (v := .slice _ _ _) rfl (wn_on rfl rfl rfl rfl) rfl (fun w => (rd_move rfl rfl)) ?_
        refine GO_rdT (v := .int _ _) rfl (wn_on rfl rfl rfl rfl) rfl (fun w => (rd_move rfl rfl)) ?_
        refine GO_rdT rfl (wn_on rfl rfl rfl rfl) rfl (fun w => (rd_indexS (j := i) rfl rfl rfl Try.underlying22 ts32 rfl (by omega) _ rfl)) ?_
        refine GO_rdT rfl (wn_on rfl rfl rfl rfl) rfl (fun w => (rd_field rfl rfl fa32_4 _ rfl)) ?_
        refine GO_rd rfl rfl (wn_on rfl rfl rfl rfl) rfl hpS3 (fun w hp => (rd_load rfl rfl Try.underlying9 rfl (Sl.recE (hI.keep hp.mod) i (by first | omega | assumption | exact Nat.lt_succ_self _) (rec_reason _)))) ?_
        refine GO_rd rfl rfl (wn_on rfl rfl rfl rfl) rfl hpS3 (fun w hp => (rd_bin rfl rfl rfl bo_seql)) ?_
        refine GO_rdT (v := .bool _) rfl (wn_none rfl) rfl (fun w => (rd_pickF rfl rfl rfl)) ?_
        refine GO_rdT (v := .bool _) rfl (wn_none rfl) rfl (fun w => (rd_assign rfl rfl)) ?_
        refine GO_nil ?_
        refine GW_region ?_
        refine GL_rd (v := .int _ _) (wn_none rfl) rfl (rd_move rfl rfl) ?_
        refine GL_rd (wn_none rfl) rfl (rd_bin rfl rfl rfl (bo_add64 (by omega))) ?_
        refine GL_rd (v := .int _ _) (wn_none rfl) rfl (rd_assign rfl rfl) ?_
        refine GL_nil ?_
        have hp := (((hp.front 2 rfl).front 2 rfl).take 2)
        exact ihL1 (k + 1, v2, _) _ _ (by simp only []; omega) ⟨_, slots6 rfl rfl rfl rfl (by rw [mem_takeS (by omega)]; first | (rw [hmet]; rfl) | (rw [hno]; rfl)) rfl, hp, by omega⟩
      ·intro hb5; (try simp only [decide_eq_true_eq, decide_eq_false_iff_not, Bool.not_eq_true', Bool.not_eq_false', Bool.not_eq_eq_eq_not, Bool.not_true, Bool.not_false, Int.not_lt, Int.not_le] at hb5)
       have h4 : (recAt l i).kind = 4 := by simpa using hb5
       refine GO_rdT (v := .bool _) rfl (wn_on rfl rfl rfl rfl) rfl (fun w => (rd_move rfl rfl)) ?_
       refine GO_rdT (v := .bool _) rfl (wn_none rfl) rfl (fun w => (rd_pickF rfl rfl rfl)) ?_
       refine GO_nil ?_
       refine GW_cond rfl (fun hb7 => ?_) (fun hb7 => ?_)
       ·(try simp only [decide_eq_true_eq, decide_eq_false_iff_not, Bool.not_eq_true', Bool.not_eq_false', Bool.not_eq_eq_eq_not, Bool.not_true, Bool.not_false, Int.not_lt, Int.not_le] at hb7)
        have e1 := rest_add (h := (hR (l.take i))) (r := (recAt l i)) (k := k) (by omega) (.inr (.inr hb7))
        refine GW_region ?_
        refine GL_rd (v := u) (wn_none rfl) rfl (rd_move rfl rfl) ?_
        refine GL_rd (v := .slice _ _ _) (wn_none rfl) rfl (rd_move rfl rfl) ?_
        refine GL_rd (v := .int _ _) (wn_none rfl) rfl (rd_move rfl rfl) ?_
        refine GL_rd (wn_none rfl) rfl (rd_indexS (j := k) rfl rfl rfl Try.underlying29 ts9 rfl (by omega) _ rfl) ?_
        refine GL_rd (wn_none rfl) rfl (rd_load rfl rfl Try.underlying9 rfl ((Sl.row (hp.get 1 rfl)).get _ _ (strAt_cell (l := (hR (l.take i))) (i := k) (by omega)))) ?_
        refine GL_lit (L := [.string (strAt (hR (l.take i)) k)]) (wn_none rfl) rfl rfl Try.underlying29 ts9 tz9 rfl (by kernel_rfl) rfl rfl hp ?_
        intro g3 w hp
        refine GL_append (i := 1) (wn_none rfl) rfl rfl rfl rfl Try.underlying29 ti9 rfl (by decide) hp rfl (Sl.row (hp.get 0 rfl)) (one1 rfl) (by have h9 := rest_len (hR (l.take i)) (recAt l i) k; omega) (by have h9 := rest_len (hR (l.take i)) (recAt l i) k; omega) ?_
        intro v3 w hp
        rw [stR_snoc, ← e1] at hp
        refine GL_rd (v := v3) (wn_none rfl) rfl (rd_assign rfl rfl) ?_
        refine GL_nil ?_
        refine GW_drawnK 14 (.one 0 true (.one 1 true (.one 2 true (.one 3 true (.one 4 true (.one 5 true (.one 6 true (.one 7 true (.one 8 true (.one 9 true (.one 10 true (.one 11 true (.one 12 true (.one 13 true .nil)))))))))))))) mixed (by kernel_rfl) hp (fun _ h => (h.sub (.cons _ (.cons _ (.cons_cons _ .slnil))))) fun w hp => ?_
        have hpS4 := (hp.sub (.cons _ (.cons _ (.cons_cons _ .slnil))))
        refine GO_rdT (v := .bool _) rfl (wn_none rfl) rfl (fun w => (rd_move rfl rfl)) ?_
        refine GO_rdT (v := .bool _) rfl (wn_none rfl) rfl (fun w => (rd_move rfl rfl)) ?_
        refine GO_split (t := 49) (b := _) rfl ?_ ?_
        ·intro hb8; (try simp only [decide_eq_true_eq, decide_eq_false_iff_not, Bool.not_eq_true', Bool.not_eq_false', Bool.not_eq_eq_eq_not, Bool.not_true, Bool.not_false, Int.not_lt, Int.not_le] at hb8)
         have hmet := decide_eq_true hb8
         refine GO_pass rfl (nw_off rfl rfl rfl rfl rfl) rfl ?_
         refine GO_pass rfl (nw_off rfl rfl rfl rfl rfl) rfl ?_
         refine GO_pass rfl (nw_off rfl rfl rfl rfl rfl) rfl ?_
         refine GO_pass rfl (nw_off rfl rfl rfl rfl rfl) rfl ?_
         refine GO_pass rfl (nw_off rfl rfl rfl rfl rfl) rfl ?_
         refine GO_pass rfl (nw_off rfl rfl rfl rfl rfl) rfl ?_
         refine GO_pass rfl (nw_off rfl rfl rfl rfl rfl) rfl ?_
         refine GO_pass rfl (nw_off rfl rfl rfl rfl rfl) rfl ?_
         refine GO_pass rfl (nw_off rfl rfl rfl rfl rfl) rfl ?_
         refine GO_pass rfl (nw_off rfl rfl rfl rfl rfl) rfl ?_
         refine GO_rdT (v := .bool _) rfl (wn_none rfl) rfl (fun w => (rd_pickT rfl rfl rfl)) ?_
         refine GO_rdT (v := .bool _) rfl (wn_none rfl) rfl (fun w => (rd_assign rfl rfl)) ?_
         refine GO_nil ?_
         refine GW_region ?_
         refine GL_rd (v := .int _ _) (wn_none rfl) rfl (rd_move rfl rfl) ?_
         refine GL_rd (wn_none rfl) rfl (rd_bin rfl rfl rfl (bo_add64 (by omega))) ?_
         refine GL_rd (v := .int _ _) (wn_none rfl) rfl (rd_assign rfl rfl) ?_
         refine GL_nil ?_
         have hp := (((hp.front 2 rfl).front 2 rfl).take 2)
         exact ihL1 (k + 1, v3, _) _ _ (by simp only []; omega) ⟨_, slots6 rfl rfl rfl rfl (by rw [mem_takeS (by omega)]; first | (rw [hmet]; rfl) | (rw [hno]; rfl)) rfl, hp, by omega⟩
        ·intro hb8; (try simp only [decide_eq_true_eq, decide_eq_false_iff_not, Bool.not_eq_true', Bool.not_eq_false', Bool.not_eq_eq_eq_not, Bool.not_true, Bool.not_false, Int.not_lt, Int.not_le] at hb8)
         have hno := decide_eq_false hb8
         refine GO_rdT (v := .slice _ _ _) rfl (wn_on rfl rfl rfl rfl) rfl (fun w => (rd_move rfl rfl)) ?_
         refine GO_rdT (v := .int _ _) rfl (wn_on rfl rfl rfl rfl) rfl (fun w => (rd_move rfl rfl)) ?_
         refine GO_rdT rfl (wn_on rfl rfl rfl rfl) rfl (fun w => (rd_indexS (j := k) rfl rfl rfl Try.underlying29 ts9 rfl (by omega) _ rfl)) ?_
         refine GO_rd rfl rfl (wn_on rfl rfl rfl rfl) rfl hpS4 (fun w hp => (rd_load rfl rfl Try.underlying9 rfl ((Sl.row (hp.get 0 rfl)).get _ _ (strAt_cell (l := (hR (l.take i))) (i := k) (by omega))))) ?_
         refine GO_rdT (v := .slice _ _ _) rfl (wn_on rfl rfl rfl rfl) rfl (fun w => (rd_move rfl rfl)) ?_
         refine GO_rdT (v := .int _ _) rfl (wn_on rfl rfl rfl rfl) rfl (fun w => (rd_move rfl rfl)) ?_
         refine GO_rdT rfl (wn_on rfl rfl rfl rfl) rfl (fun w => (rd_indexS (j := i) rfl rfl rfl Try.underlying22 ts32 rfl (by omega) _ rfl)) ?_
         refine GO_rdT rfl (wn_on rfl rfl rfl rfl) rfl (fun w => (rd_field rfl rfl fa32_4 _ rfl)) ?_
         refine GO_rd rfl rfl (wn_on rfl rfl rfl rfl) rfl hpS4 (fun w hp => (rd_load rfl rfl Try.underlying9 rfl (Sl.recE (hI.keep hp.mod) i (by first | omega | assumption | exact Nat.lt_succ_self _) (rec_reason _)))) ?_
         refine GO_rd rfl rfl (wn_on rfl rfl rfl rfl) rfl hpS4 (fun w hp => (rd_bin rfl rfl rfl bo_seql)) ?_
         refine GO_rdT (v := .bool _) rfl (wn_none rfl) rfl (fun w => (rd_pickF rfl rfl rfl)) ?_
         refine GO_rdT (v := .bool _) rfl (wn_none rfl) rfl (fun w => (rd_assign rfl rfl)) ?_
         refine GO_nil ?_
         refine GW_region ?_
         refine GL_rd (v := .int _ _) (wn_none rfl) rfl (rd_move rfl rfl) ?_
         refine GL_rd (wn_none rfl) rfl (rd_bin rfl rfl rfl (bo_add64 (by omega))) ?_
         refine GL_rd (v := .int _ _) (wn_none rfl) rfl (rd_assign rfl rfl) ?_
         refine GL_nil ?_
         have hp := (((hp.front 2 rfl).front 2 rfl).take 2)
         exact ihL1 (k + 1, v3, _) _ _ (by simp only []; omega) ⟨_, slots6 rfl rfl rfl rfl (by rw [mem_takeS (by omega)]; first | (rw [hmet]; rfl) | (rw [hno]; rfl)) rfl, hp, by omega⟩
       ·(try simp only [decide_eq_true_eq, decide_eq_false_iff_not, Bool.not_eq_true', Bool.not_eq_false', Bool.not_eq_eq_eq_not, Bool.not_true, Bool.not_false, Int.not_lt, Int.not_le] at hb7)
        have hm := hb7
        have e1 := rest_skip (h := (hR (l.take i))) (r := (recAt l i)) (k := k) (by omega) h1 h4 hm
        refine GW_skip ?_
        refine GW_drawnK 14 (.one 0 true (.one 1 true (.one 2 true (.one 3 true (.one 4 true (.one 5 true (.one 6 true (.one 7 true (.one 8 true (.one 9 true (.one 10 true (.one 11 true (.one 12 true (.one 13 true .nil)))))))))))))) mixed (by kernel_rfl) hp (fun _ h => (h.sub (.cons _ (.cons_cons _ .slnil)))) fun w hp => ?_
        have hpS5 := (hp.sub (.cons _ (.cons_cons _ .slnil)))
        refine GO_rdT (v := .bool _) rfl (wn_none rfl) rfl (fun w => (rd_move rfl rfl)) ?_
        refine GO_rdT (v := .bool _) rfl (wn_none rfl) rfl (fun w => (rd_move rfl rfl)) ?_
        refine GO_split (t := 49) (b := _) rfl ?_ ?_
        ·intro hb9; (try simp only [decide_eq_true_eq, decide_eq_false_iff_not, Bool.not_eq_true', Bool.not_eq_false', Bool.not_eq_eq_eq_not, Bool.not_true, Bool.not_false, Int.not_lt, Int.not_le] at hb9)
         exact absurd hb9 hm
        ·intro hb9; (try simp only [decide_eq_true_eq, decide_eq_false_iff_not, Bool.not_eq_true', Bool.not_eq_false', Bool.not_eq_eq_eq_not, Bool.not_true, Bool.not_false, Int.not_lt, Int.not_le] at hb9)
         have hno := decide_eq_false hb9
         refine GO_rdT (v := .slice _ _ _) rfl (wn_on rfl rfl rfl rfl) rfl (fun w => (rd_move rfl rfl)) ?_
         refine GO_rdT (v := .int _ _) rfl (wn_on rfl rfl rfl rfl) rfl (fun w => (rd_move rfl rfl)) ?_
         refine GO_rdT rfl (wn_on rfl rfl rfl rfl) rfl (fun w => (rd_indexS (j := k) rfl rfl rfl Try.underlying29 ts9 rfl (by omega) _ rfl)) ?_
         refine GO_rd rfl rfl (wn_on rfl rfl rfl rfl) rfl hpS5 (fun w hp => (rd_load rfl rfl Try.underlying9 rfl ((Sl.row (hp.get 0 rfl)).get _ _ (strAt_cell (l := (hR (l.take i))) (i := k) (by omega))))) ?_
         refine GO_rdT (v := .slice _ _ _) rfl (wn_on rfl rfl rfl rfl) rfl (fun w => (rd_move rfl rfl)) ?_
         refine GO_rdT (v := .int _ _) rfl (wn_on rfl rfl rfl rfl) rfl (fun w => (rd_move rfl rfl)) ?_
         refine GO_rdT rfl (wn_on rfl rfl rfl rfl) rfl (fun w => (rd_indexS (j := i) rfl rfl rfl Try.underlying22 ts32 rfl (by omega) _ rfl)) ?_
         refine GO_rdT rfl (wn_on rfl rfl rfl rfl) rfl (fun w => (rd_field rfl rfl fa32_4 _ rfl)) ?_
         refine GO_rd rfl rfl (wn_on rfl rfl rfl rfl) rfl hpS5 (fun w hp => (rd_load rfl rfl Try.underlying9 rfl (Sl.recE (hI.keep hp.mod) i (by first | omega | assumption | exact Nat.lt_succ_self _) (rec_reason _)))) ?_
         refine GO_rd rfl rfl (wn_on rfl rfl rfl rfl) rfl hpS5 (fun w hp => (rd_bin rfl rfl rfl bo_seql)) ?_
         refine GO_rdT (v := .bool _) rfl (wn_none rfl) rfl (fun w => (rd_pickF rfl rfl rfl)) ?_
         refine GO_rdT (v := .bool _) rfl (wn_none rfl) rfl (fun w => (rd_assign rfl rfl)) ?_
         refine GO_nil ?_
         refine GW_region ?_
         refine GL_rd (v := .int _ _) (wn_none rfl) rfl (rd_move rfl rfl) ?_
         refine GL_rd (wn_none rfl) rfl (rd_bin rfl rfl rfl (bo_add64 (by omega))) ?_
         refine GL_rd (v := .int _ _) (wn_none rfl) rfl (rd_assign rfl rfl) ?_
         refine GL_nil ?_
         rw [← e1] at hp
         have hp := (((hp.front 1 rfl).front 1 rfl).take 2)
         exact ihL1 (k + 1, u, _) _ _ (by simp only []; omega) ⟨_, slots6 rfl rfl rfl rfl (by rw [mem_takeS (by omega)]; first | (rw [hmet]; rfl) | (rw [hno]; rfl)) rfl, hp, by omega⟩
    ·(try simp only [decide_eq_true_eq, decide_eq_false_iff_not, Bool.not_eq_true', Bool.not_eq_false', Bool.not_eq_eq_eq_not, Bool.not_true, Bool.not_false, Int.not_lt, Int.not_le] at hb2)
     obtain rfl : k = (hR (l.take i)).length := by omega
     refine GW_exit ?_
     refine GW_seq ?_
     refine GW_seq ?_
     refine GW_region ?_
     refine GL_rd (v := .slice _ _ _) (wn_none rfl) rfl (rd_move rfl rfl) ?_
     refine GL_rd (v := .int _ _) (wn_none rfl) rfl (rd_move rfl rfl) ?_
     refine GL_rd (wn_none rfl) rfl (rd_indexS (j := i) rfl rfl rfl Try.underlying22 ts32 rfl (by omega) _ rfl) ?_
     refine GL_rd (wn_none rfl) rfl (rd_field rfl rfl fa32_0 _ rfl) ?_
     refine GL_rd (wn_none rfl) rfl (rd_load rfl rfl Try.underlying3 rfl (Sl.recE (hI.keep hp.mod) i (by first | omega | assumption | exact Nat.lt_succ_self _) (rec_kind _))) ?_
     refine GL_rd (wn_none rfl) rfl (rd_bin rfl rfl rfl bo_eql) ?_
     refine GL_rd (v := .bool _) (wn_none rfl) rfl (rd_move rfl rfl) ?_
     refine GL_split (t := 67) (b := _) rfl ?_ ?_
     ·intro hb10; (try simp only [decide_eq_true_eq, decide_eq_false_iff_not, Bool.not_eq_true', Bool.not_eq_false', Bool.not_eq_eq_eq_not, Bool.not_true, Bool.not_false, Int.not_lt, Int.not_le] at hb10)
      have h3 := hb10
      refine GL_rd (v := .bool _) (wn_on rfl rfl rfl rfl) rfl (rd_move rfl rfl) ?_
      refine GL_rd (wn_on rfl rfl rfl rfl) rfl (rd_not rfl rfl) ?_
      refine GL_rd (v := .bool _) (wn_none rfl) rfl (rd_pickT rfl rfl rfl) ?_
      refine GL_nil ?_
      refine GW_cond rfl (fun hb11 => ?_) (fun hb11 => ?_)
      ·(try simp only [decide_eq_true_eq, decide_eq_false_iff_not, Bool.not_eq_true', Bool.not_eq_false', Bool.not_eq_eq_eq_not, Bool.not_true, Bool.not_false, Int.not_lt, Int.not_le] at hb11)
       have hnm : ¬ (recAt l i).reason ∈ (hR (l.take i)) := by have q := hb11; rw [List.take_length] at q; simpa using q
       have e1 := hold_new h3 hnm
       refine GW_region ?_
       refine GL_rd (v := u) (wn_none rfl) rfl (rd_move rfl rfl) ?_
       refine GL_rd (v := .slice _ _ _) (wn_none rfl) rfl (rd_move rfl rfl) ?_
       refine GL_rd (v := .int _ _) (wn_none rfl) rfl (rd_move rfl rfl) ?_
       refine GL_rd (wn_none rfl) rfl (rd_indexS (j := i) rfl rfl rfl Try.underlying22 ts32 rfl (by omega) _ rfl) ?_
       refine GL_rd (wn_none rfl) rfl (rd_field rfl rfl fa32_4 _ rfl) ?_
       refine GL_rd (wn_none rfl) rfl (rd_load rfl rfl Try.underlying9 rfl (Sl.recE (hI.keep hp.mod) i (by first | omega | assumption | exact Nat.lt_succ_self _) (rec_reason _))) ?_
       refine GL_lit (L := [.string (recAt l i).reason]) (wn_none rfl) rfl rfl Try.underlying29 ts9 tz9 rfl (by kernel_rfl) rfl rfl hp ?_
       intro g4 w hp
       refine GL_append (i := 1) (wn_none rfl) rfl rfl rfl rfl Try.underlying29 ti9 rfl (by decide) hp rfl (Sl.row (hp.get 0 rfl)) (one1 rfl) (by have h9 := rest_len (hR (l.take i)) (recAt l i) (hR (l.take i)).length; omega) (by have h9 := rest_len (hR (l.take i)) (recAt l i) (hR (l.take i)).length; omega) ?_
       intro v4 w hp
       rw [stR_snoc, ← e1] at hp
       refine GL_rd (v := v4) (wn_none rfl) rfl (rd_assign rfl rfl) ?_
       refine GL_nil ?_
       refine GW_region ?_
       refine GL_rd (v := v4) (wn_none rfl) rfl (rd_move rfl rfl) ?_
       refine GL_rd (v := v4) (wn_none rfl) rfl (rd_assign rfl rfl) ?_
       refine GL_nil ?_
       refine GW_region ?_
       refine GL_rd (v := .int _ _) (wn_none rfl) rfl (rd_move rfl rfl) ?_
       refine GL_rd (wn_none rfl) rfl (rd_bin rfl rfl rfl (bo_add64 (by omega))) ?_
       refine GL_rd (v := .int _ _) (wn_none rfl) rfl (rd_assign rfl rfl) ?_
       refine GL_nil ?_
       rw [← hR_take (by omega)] at hp
       have hp := ((hp.front 1 rfl).take 1)
       exact ihL0 (i + 1, v4) _ _ (by simp only []; omega) ⟨_, slots3 rfl rfl rfl, hp, by omega⟩
      ·(try simp only [decide_eq_true_eq, decide_eq_false_iff_not, Bool.not_eq_true', Bool.not_eq_false', Bool.not_eq_eq_eq_not, Bool.not_true, Bool.not_false, Int.not_lt, Int.not_le] at hb11)
       have hnm : (recAt l i).reason ∈ (hR (l.take i)) := by have q := hb11; rw [List.take_length] at q; simpa using q
       have e1 := hold_rest (h := (hR (l.take i))) (r := (recAt l i)) (fun q => q.2 hnm)
       refine GW_skip ?_
       refine GW_region ?_
       refine GL_rd (v := u) (wn_none rfl) rfl (rd_move rfl rfl) ?_
       refine GL_rd (v := u) (wn_none rfl) rfl (rd_assign rfl rfl) ?_
       refine GL_nil ?_
       refine GW_region ?_
       refine GL_rd (v := .int _ _) (wn_none rfl) rfl (rd_move rfl rfl) ?_
       refine GL_rd (wn_none rfl) rfl (rd_bin rfl rfl rfl (bo_add64 (by omega))) ?_
       refine GL_rd (v := .int _ _) (wn_none rfl) rfl (rd_assign rfl rfl) ?_
       refine GL_nil ?_
       rw [← e1, ← hR_take (by omega)] at hp
       have hp := ((hp.front 0 rfl).take 1)
       exact ihL0 (i + 1, u) _ _ (by simp only []; omega) ⟨_, slots3 rfl rfl rfl, hp, by omega⟩
     ·intro hb10; (try simp only [decide_eq_true_eq, decide_eq_false_iff_not, Bool.not_eq_true', Bool.not_eq_false', Bool.not_eq_eq_eq_not, Bool.not_true, Bool.not_false, Int.not_lt, Int.not_le] at hb10)
      have e1 := hold_rest (h := (hR (l.take i))) (r := (recAt l i)) (fun q => hb10 q.1)
      refine GL_pass (nw_off rfl rfl rfl rfl rfl) rfl ?_
      refine GL_pass (nw_off rfl rfl rfl rfl rfl) rfl ?_
      refine GL_rd (v := .bool _) (wn_none rfl) rfl (rd_pickF rfl rfl rfl) ?_
      refine GL_nil ?_
      refine GW_false rfl ?_
      refine GW_skip ?_
      refine GW_region ?_
      refine GL_rd (v := u) (wn_none rfl) rfl (rd_move rfl rfl) ?_
      refine GL_rd (v := u) (wn_none rfl) rfl (rd_assign rfl rfl) ?_
      refine GL_nil ?_
      refine GW_region ?_
      refine GL_rd (v := .int _ _) (wn_none rfl) rfl (rd_move rfl rfl) ?_
      refine GL_rd (wn_none rfl) rfl (rd_bin rfl rfl rfl (bo_add64 (by omega))) ?_
      refine GL_rd (v := .int _ _) (wn_none rfl) rfl (rd_assign rfl rfl) ?_
      refine GL_nil ?_
      rw [← e1, ← hR_take (by omega)] at hp
      have hp := ((hp.front 0 rfl).take 1)
      exact ihL0 (i + 1, u) _ _ (by simp only []; omega) ⟨_, slots3 rfl rfl rfl, hp, by omega⟩
   ·have hp := hp.nilRow 9 1
    have e0 : (restK (hR (l.take i)) (recAt l i) 0) = [] := by unfold restK; split <;> rfl
    have hp := hp.cast (show _ = [.row 9 1 (.slice none 0 0) ((restK (hR (l.take i)) (recAt l i) 0)).length (((restK (hR (l.take i)) (recAt l i) 0)).map Value.string), .row 9 1 (.slice Av (hR (l.take i)).length cv) ((hR (l.take i))).length (((hR (l.take i))).map Value.string)] by rw [e0]; rfl)
    refine ⟨_, slots6 rfl rfl rfl rfl rfl rfl, hp, Nat.zero_le _⟩
  ·(try simp only [decide_eq_true_eq, decide_eq_false_iff_not, Bool.not_eq_true', Bool.not_eq_false', Bool.not_eq_eq_eq_not, Bool.not_true, Bool.not_false, Int.not_lt, Int.not_le] at hb)
   refine GW_exit ?_
   refine GW_seq ?_
   refine GW_region ?_
   refine GL_rd (v := y) (wn_none rfl) rfl (rd_move rfl rfl) ?_
   refine GL_rd (v := y) (wn_none rfl) rfl (rd_assign rfl rfl) ?_
   refine GL_nil ?_
   refine GW_ret ?_
   obtain rfl : m = i := by omega
   rw [List.take_of_length_le (by omega)] at hp
   exact ⟨_, res1 Try.results84 (rv_tmp (v := y) rfl rfl), hp⟩
 ·have hp := hp.nilRow 9 1
  refine ⟨_, slots3 rfl rfl rfl, hp, Nat.zero_le _⟩
set_option maxHeartbeats 1000000 in
theorem ref_Of (sv : Value) (m : Nat) (l : List Rec) (a : A32) (t : Int) (w0 : World) (hI : Sl w0 sv 100 m (l.flatMap recC)) (hm : m ≤ 65000) : Does Try.prog 48 #[sv, .agg ⟨bys a.1⟩, .int .i64 t] w0 fun v w' => ∃ hv, v = .agg ⟨hzC hv (hOf l a t)⟩ ∧ Hp w0 [] w' [.row 9 1 hv ((hOf l a t).holds).length (((hOf l a t).holds).map Value.string)] := by
 obtain ⟨A, c, rfl⟩ := sl_shape hI
 have hlm := Sl.recs hI
 have hmle := hI.le
 have hfl := List.length_filter_le (mineB a t) l
 have hsl := since_len (l.filter (mineB a t))
 refine does_of (l := [.slice A m c, .agg ⟨bys a.1⟩, .int .i64 t]) Try.func48 (by kernel_rfl) rfl Try.ntmps48 rfl rfl (by kernel_rfl) ?_
 have hp := Hp.refl w0 []
 refine GW_seq ?_
 refine GW_region ?_
 refine GL_box (wn_none rfl) rfl rfl rfl rfl hp ?_
 intro g w hp
 refine GL_alloc (wn_none rfl) rfl rfl tz102 rfl hp ?_
 intro g2 w hp
 refine GL_nil ?_
 refine GW_seq ?_
 refine GW_region ?_
 refine GL_rd (v := .slice _ _ _) (wn_none rfl) rfl (rd_move rfl rfl) ?_
 refine GL_rd (wn_none rfl) rfl (rd_loadC rfl rfl Try.underlying23 rfl ts23 (hp.get 1 rfl) (by first | (rw [bys_length]; first | exact a32_len _) | rfl | simp [bys_length, *])) ?_
 refine GL_rd (v := .int _ _) (wn_none rfl) rfl (rd_move rfl rfl) ?_
 refine GL_call (wn_none rfl) rfl rfl (ref_Mine _ m l a t _ (hI.keep hp.mod) hm) rfl ?_
 intro vm w hk
 have hp := hp.comp hk
 obtain ⟨Am, cm, rfl⟩ := row_shape (hp.get 0 rfl)
 refine GL_call (wn_none rfl) rfl rfl (ref_since _ _ (l.filter (mineB a t)) _ (Sl.row (hp.get 0 rfl)) (by omega)) rfl ?_
 rintro vs w ⟨hvs, hk⟩
 have hp := hp.comp hk
 obtain ⟨As, cs, rfl⟩ := sl_shape (hvs _ (Sl.row (hp.get 0 rfl)))
 refine GL_rd (v := .slice _ _ _) (wn_none rfl) rfl (rd_assign rfl rfl) ?_
 refine GL_nil ?_
 refine GW_seq ?_
 refine GW_region ?_
 refine GL_rd (v := .slice _ _ _) (wn_none rfl) rfl (rd_move rfl rfl) ?_
 refine GL_call (wn_none rfl) rfl rfl (ref_holds _ _ (sinceL (l.filter (mineB a t))) _ (hvs _ (Sl.row (hp.get 0 rfl))) (by omega)) rfl ?_
 intro vh w hk
 have hp := hp.comp hk
 obtain ⟨Ah, ch, rfl⟩ := row_shape (hp.get 0 rfl)
 refine GL_rd (wn_none rfl) rfl (rd_buildS (L := hzC (.slice Ah (hR (sinceL (l.filter (mineB a t)))).length ch) hzZ) rfl tz102 pl102 (by kernel_rfl)) ?_
 refine GL_alloc (wn_none rfl) rfl rfl tz102 rfl hp ?_
 intro g3 w hp
 refine GL_store (i := 0) (wn_none rfl) rfl rfl rfl rfl ts102 rfl rfl (oneC rfl (oneC rfl (oneC rfl (oneC rfl (oneC rfl (oneC rfl one0)))))) hp rfl (by first | exact Nat.le_of_ble_eq_true rfl | simp [bys_length, *]) (show splice _ _ _ = hzC (.slice Ah (hR (sinceL (l.filter (mineB a t)))).length ch) hzZ from rfl) ?_
 intro w hp
 refine GL_nil ?_
 refine GW_seq ?_
 refine GW_seq ?_
 refine GW_region ?_
 refine GL_rd (v := .int _ _) (wn_none rfl) rfl (rd_assign rfl rfl) ?_
 refine GL_nil ?_
 refine GW_block ?_
 refine GW_loop ?_
 refine Lp_ind (α := Nat × Option Addr) (fun a_0 f_0 w' => match a_0 with | (i, As) => ∃ fz, f_0 = (upd (upd (upd (upd fz 6 (.pointer (some ⟨g2, 0, none⟩))) 7 (.slice As (sinceL (l.filter (mineB a t))).length cs)) 8 (.pointer (some ⟨g3, 0, none⟩))) 9 (.int .i64 (i : Int))) ∧ Hp w0 [] w' [cells g3 102 (hzC (.slice Ah (hR (sinceL (l.filter (mineB a t)))).length ch) (rF ((sinceL (l.filter (mineB a t))).take i))), .row 32 100 (.slice Am (l.filter (mineB a t)).length cm) ((l.filter (mineB a t))).length (((l.filter (mineB a t))).flatMap recC), .row 9 1 (.slice Ah (hR (sinceL (l.filter (mineB a t)))).length ch) ((hR (sinceL (l.filter (mineB a t))))).length (((hR (sinceL (l.filter (mineB a t))))).map Value.string), cells g2 102 [.slice none 0 0, .bool false, .int .i64 0, .bool false, .string ⟨#[]⟩, .string ⟨#[]⟩]] ∧ (i ≤ (sinceL (l.filter (mineB a t))).length) ∧ (∀ w1, Sl w1 (.slice Am (l.filter (mineB a t)).length cm) 100 (l.filter (mineB a t)).length ((l.filter (mineB a t)).flatMap recC) → Sl w1 (.slice As (sinceL (l.filter (mineB a t))).length cs) 100 (sinceL (l.filter (mineB a t))).length ((sinceL (l.filter (mineB a t))).flatMap recC))) (fun a_0 => match a_0 with | (i, As) => (sinceL (l.filter (mineB a t))).length - i) ?_ (0, As) _ _ ?_
 ·rintro ⟨i, As⟩ f wz ⟨fz, rfl, hp, hi0, hvs⟩ ihL0
  refine Lp_round ?_
  refine GW_seq ?_
  refine GW_seq ?_
  refine GW_region ?_
  refine GL_rd (v := .int _ _) (wn_none rfl) rfl (rd_move rfl rfl) ?_
  refine GL_rd (v := .slice _ _ _) (wn_none rfl) rfl (rd_move rfl rfl) ?_
  refine GL_rd (wn_none rfl) rfl (rd_len rfl rfl Try.underlying22) ?_
  refine GL_rd (wn_none rfl) rfl (rd_bin rfl rfl rfl bo_lss) ?_
  refine GL_nil ?_
  refine GW_cond rfl (fun hb => ?_) (fun hb => ?_)
  ·(try simp only [decide_eq_true_eq, decide_eq_false_iff_not, Bool.not_eq_true', Bool.not_eq_false', Bool.not_eq_eq_eq_not, Bool.not_true, Bool.not_false, Int.not_lt, Int.not_le] at hb)
   obtain ⟨gS, bS, rfl⟩ := (hvs _ (Sl.row (hp.get 1 rfl))).addr (by rw [flat_length recC_len]; omega)
   refine GW_skip ?_
   refine GW_seq ?_
   refine GW_block ?_
   refine GW_seq ?_
   refine GW_seq ?_
   refine GW_region ?_
   refine GL_rd (v := .slice _ _ _) (wn_none rfl) rfl (rd_move rfl rfl) ?_
   refine GL_rd (v := .int _ _) (wn_none rfl) rfl (rd_move rfl rfl) ?_
   refine GL_rd (wn_none rfl) rfl (rd_indexS (j := i) rfl rfl rfl Try.underlying22 ts32 rfl (by omega) _ rfl) ?_
   refine GL_rd (wn_none rfl) rfl (rd_field rfl rfl fa32_0 _ rfl) ?_
   refine GL_rd (wn_none rfl) rfl (rd_load rfl rfl Try.underlying3 rfl (Sl.recE (hvs _ (Sl.row (hp.get 1 rfl))) i (by first | omega | assumption | exact Nat.lt_succ_self _) (rec_kind _))) ?_
   refine GL_rd (wn_none rfl) rfl (rd_bin rfl rfl rfl bo_eql) ?_
   refine GL_nil ?_
   refine GW_cond rfl (fun hb2 => ?_) (fun hb2 => ?_)
   ·(try simp only [decide_eq_true_eq, decide_eq_false_iff_not, Bool.not_eq_true', Bool.not_eq_false', Bool.not_eq_eq_eq_not, Bool.not_true, Bool.not_false, Int.not_lt, Int.not_le] at hb2)
    have h5 := hb2
    refine GW_seq ?_
    refine GW_region ?_
    refine GL_rd (wn_none rfl) rfl (rd_field rfl rfl fa102_1 _ rfl) ?_
    refine GL_store (i := 0) (wn_none rfl) rfl rfl rfl rfl ts4 rfl rfl (one1 rfl) hp rfl (by first | exact Nat.le_of_ble_eq_true rfl | simp [bys_length, *]) (show splice _ _ _ = hzC (.slice Ah (hR (sinceL (l.filter (mineB a t)))).length ch) { (rF ((sinceL (l.filter (mineB a t))).take i)) with fired := true } from rfl) ?_
    intro w hp
    refine GL_nil ?_
    refine GW_region ?_
    refine GL_rd (v := .slice _ _ _) (wn_none rfl) rfl (rd_move rfl rfl) ?_
    refine GL_rd (v := .int _ _) (wn_none rfl) rfl (rd_move rfl rfl) ?_
    refine GL_rd (wn_none rfl) rfl (rd_indexS (j := i) rfl rfl rfl Try.underlying22 ts32 rfl (by omega) _ rfl) ?_
    refine GL_rd (wn_none rfl) rfl (rd_field rfl rfl fa32_1 _ rfl) ?_
    refine GL_rd (wn_none rfl) rfl (rd_load rfl rfl Try.underlying3 rfl (Sl.recE (hvs _ (Sl.row (hp.get 1 rfl))) i (by first | omega | assumption | exact Nat.lt_succ_self _) (rec_time _))) ?_
    refine GL_rd (wn_none rfl) rfl (rd_field rfl rfl fa102_2 _ rfl) ?_
    refine GL_store (i := 0) (wn_none rfl) rfl rfl rfl rfl ts3 rfl rfl (one1 rfl) hp rfl (by first | exact Nat.le_of_ble_eq_true rfl | simp [bys_length, *]) (show splice _ _ _ = hzC (.slice Ah (hR (sinceL (l.filter (mineB a t)))).length ch) { (rF ((sinceL (l.filter (mineB a t))).take i)) with fired := true, event := (recAt (sinceL (l.filter (mineB a t))) i).time } from rfl) ?_
    intro w hp
    refine GL_nil ?_
    refine GW_seq ?_
    refine GW_region ?_
    refine GL_rd (v := .slice _ _ _) (wn_none rfl) rfl (rd_move rfl rfl) ?_
    refine GL_rd (v := .int _ _) (wn_none rfl) rfl (rd_move rfl rfl) ?_
    refine GL_rd (wn_none rfl) rfl (rd_indexS (j := i) rfl rfl rfl Try.underlying22 ts32 rfl (by omega) _ rfl) ?_
    refine GL_rd (wn_none rfl) rfl (rd_loadN (L := recC _) rfl rfl Try.underlying32 rfl ts32 (recC_len _) (fun jq u hj => Sl.recE (hvs _ (Sl.row (hp.get 1 rfl))) i (by first | omega | assumption | exact Nat.lt_succ_self _) hj)) ?_
    refine GL_call (wn_none rfl) rfl rfl (ref_gone (recAt (sinceL (l.filter (mineB a t))) i) _) rfl ?_
    rintro _ w ⟨rfl, hk⟩
    have hp := hp.comp hk
    refine GL_nil ?_
    refine GW_cond rfl (fun hb3 => ?_) (fun hb3 => ?_)
    ·(try simp only [decide_eq_true_eq, decide_eq_false_iff_not, Bool.not_eq_true', Bool.not_eq_false', Bool.not_eq_eq_eq_not, Bool.not_true, Bool.not_false, Int.not_lt, Int.not_le] at hb3)
     exact absurd (goneR_iff.1 hb3) (by omega)
    ·(try simp only [decide_eq_true_eq, decide_eq_false_iff_not, Bool.not_eq_true', Bool.not_eq_false', Bool.not_eq_eq_eq_not, Bool.not_true, Bool.not_false, Int.not_lt, Int.not_le] at hb3)
     have hgo := hb3
     refine GW_skip ?_
     refine GW_region ?_
     refine GL_rd (v := .int _ _) (wn_none rfl) rfl (rd_move rfl rfl) ?_
     refine GL_rd (wn_none rfl) rfl (rd_bin rfl rfl rfl (bo_add64 (by omega))) ?_
     refine GL_rd (v := .int _ _) (wn_none rfl) rfl (rd_assign rfl rfl) ?_
     refine GL_nil ?_
     have e2 : hzC (.slice Ah (hR (sinceL (l.filter (mineB a t)))).length ch) { (rF ((sinceL (l.filter (mineB a t))).take i)) with fired := true, event := (recAt (sinceL (l.filter (mineB a t))) i).time } = hzC (.slice Ah (hR (sinceL (l.filter (mineB a t)))).length ch) (rF ((sinceL (l.filter (mineB a t))).take (i + 1))) := by rw [rF_take (by omega), cells_fire h5]; rfl
     rw [e2] at hp
     have hp := (((((hp.front 3 rfl).front 3 rfl).front 3 rfl).front 3 rfl).take 4)
     exact ihL0 (i + 1, _) _ _ (by simp only []; omega) ⟨_, slots4 rfl rfl rfl rfl, hp, by omega, hvs⟩
   ·(try simp only [decide_eq_true_eq, decide_eq_false_iff_not, Bool.not_eq_true', Bool.not_eq_false', Bool.not_eq_eq_eq_not, Bool.not_true, Bool.not_false, Int.not_lt, Int.not_le] at hb2)
    have h5 := hb2
    refine GW_skip ?_
    refine GW_seq ?_
    refine GW_region ?_
    refine GL_rd (v := .slice _ _ _) (wn_none rfl) rfl (rd_move rfl rfl) ?_
    refine GL_rd (v := .int _ _) (wn_none rfl) rfl (rd_move rfl rfl) ?_
    refine GL_rd (wn_none rfl) rfl (rd_indexS (j := i) rfl rfl rfl Try.underlying22 ts32 rfl (by omega) _ rfl) ?_
    refine GL_rd (wn_none rfl) rfl (rd_loadN (L := recC _) rfl rfl Try.underlying32 rfl ts32 (recC_len _) (fun jq u hj => Sl.recE (hvs _ (Sl.row (hp.get 1 rfl))) i (by first | omega | assumption | exact Nat.lt_succ_self _) hj)) ?_
    refine GL_call (wn_none rfl) rfl rfl (ref_gone (recAt (sinceL (l.filter (mineB a t))) i) _) rfl ?_
    rintro _ w ⟨rfl, hk⟩
    have hp := hp.comp hk
    refine GL_nil ?_
    refine GW_cond rfl (fun hb4 => ?_) (fun hb4 => ?_)
    ·(try simp only [decide_eq_true_eq, decide_eq_false_iff_not, Bool.not_eq_true', Bool.not_eq_false', Bool.not_eq_eq_eq_not, Bool.not_true, Bool.not_false, Int.not_lt, Int.not_le] at hb4)
     have hgo := hb4
     refine GW_seq ?_
     refine GW_region ?_
     refine GL_rd (wn_none rfl) rfl (rd_field rfl rfl fa102_3 _ rfl) ?_
     refine GL_store (i := 0) (wn_none rfl) rfl rfl rfl rfl ts4 rfl rfl (one1 rfl) hp rfl (by first | exact Nat.le_of_ble_eq_true rfl | simp [bys_length, *]) (show splice _ _ _ = hzC (.slice Ah (hR (sinceL (l.filter (mineB a t)))).length ch) { (rF ((sinceL (l.filter (mineB a t))).take i)) with gone := true } from rfl) ?_
     intro w hp
     refine GL_nil ?_
     refine GW_seq ?_
     refine GW_region ?_
     refine GL_rd (v := .slice _ _ _) (wn_none rfl) rfl (rd_move rfl rfl) ?_
     refine GL_rd (v := .int _ _) (wn_none rfl) rfl (rd_move rfl rfl) ?_
     refine GL_rd (wn_none rfl) rfl (rd_indexS (j := i) rfl rfl rfl Try.underlying22 ts32 rfl (by omega) _ rfl) ?_
     refine GL_rd (wn_none rfl) rfl (rd_field rfl rfl fa32_2 _ rfl) ?_
     refine GL_rd (wn_none rfl) rfl (rd_load rfl rfl Try.underlying9 rfl (Sl.recE (hvs _ (Sl.row (hp.get 1 rfl))) i (by first | omega | assumption | exact Nat.lt_succ_self _) (rec_actor _))) ?_
     refine GL_rd (wn_none rfl) rfl (rd_field rfl rfl fa102_4 _ rfl) ?_
     refine GL_store (i := 0) (wn_none rfl) rfl rfl rfl rfl ts9 rfl rfl (one1 rfl) hp rfl (by first | exact Nat.le_of_ble_eq_true rfl | simp [bys_length, *]) (show splice _ _ _ = hzC (.slice Ah (hR (sinceL (l.filter (mineB a t)))).length ch) { (rF ((sinceL (l.filter (mineB a t))).take i)) with gone := true, actor := (recAt (sinceL (l.filter (mineB a t))) i).actor } from rfl) ?_
     intro w hp
     refine GL_nil ?_
     refine GW_region ?_
     refine GL_rd (v := .slice _ _ _) (wn_none rfl) rfl (rd_move rfl rfl) ?_
     refine GL_rd (v := .int _ _) (wn_none rfl) rfl (rd_move rfl rfl) ?_
     refine GL_rd (wn_none rfl) rfl (rd_indexS (j := i) rfl rfl rfl Try.underlying22 ts32 rfl (by omega) _ rfl) ?_
     refine GL_rd (wn_none rfl) rfl (rd_field rfl rfl fa32_4 _ rfl) ?_
     refine GL_rd (wn_none rfl) rfl (rd_load rfl rfl Try.underlying9 rfl (Sl.recE (hvs _ (Sl.row (hp.get 1 rfl))) i (by first | omega | assumption | exact Nat.lt_succ_self _) (rec_reason _))) ?_
     refine GL_rd (wn_none rfl) rfl (rd_field rfl rfl fa102_5 _ rfl) ?_
     refine GL_store (i := 0) (wn_none rfl) rfl rfl rfl rfl ts9 rfl rfl (one1 rfl) hp rfl (by first | exact Nat.le_of_ble_eq_true rfl | simp [bys_length, *]) (show splice _ _ _ = hzC (.slice Ah (hR (sinceL (l.filter (mineB a t)))).length ch) { (rF ((sinceL (l.filter (mineB a t))).take i)) with gone := true, actor := (recAt (sinceL (l.filter (mineB a t))) i).actor, reason := (recAt (sinceL (l.filter (mineB a t))) i).reason } from rfl) ?_
     intro w hp
     refine GL_nil ?_
     refine GW_region ?_
     refine GL_rd (v := .int _ _) (wn_none rfl) rfl (rd_move rfl rfl) ?_
     refine GL_rd (wn_none rfl) rfl (rd_bin rfl rfl rfl (bo_add64 (by omega))) ?_
     refine GL_rd (v := .int _ _) (wn_none rfl) rfl (rd_assign rfl rfl) ?_
     refine GL_nil ?_
     have e2 : hzC (.slice Ah (hR (sinceL (l.filter (mineB a t)))).length ch) { (rF ((sinceL (l.filter (mineB a t))).take i)) with gone := true, actor := (recAt (sinceL (l.filter (mineB a t))) i).actor, reason := (recAt (sinceL (l.filter (mineB a t))) i).reason } = hzC (.slice Ah (hR (sinceL (l.filter (mineB a t)))).length ch) (rF ((sinceL (l.filter (mineB a t))).take (i + 1))) := by rw [rF_take (by omega), cells_gone hgo]; rfl
     rw [e2] at hp
     have hp := (((((hp.front 3 rfl).front 3 rfl).front 3 rfl).front 3 rfl).take 4)
     exact ihL0 (i + 1, _) _ _ (by simp only []; omega) ⟨_, slots4 rfl rfl rfl rfl, hp, by omega, hvs⟩
    ·(try simp only [decide_eq_true_eq, decide_eq_false_iff_not, Bool.not_eq_true', Bool.not_eq_false', Bool.not_eq_eq_eq_not, Bool.not_true, Bool.not_false, Int.not_lt, Int.not_le] at hb4)
     have hgo := hb4
     refine GW_skip ?_
     refine GW_region ?_
     refine GL_rd (v := .int _ _) (wn_none rfl) rfl (rd_move rfl rfl) ?_
     refine GL_rd (wn_none rfl) rfl (rd_bin rfl rfl rfl (bo_add64 (by omega))) ?_
     refine GL_rd (v := .int _ _) (wn_none rfl) rfl (rd_assign rfl rfl) ?_
     refine GL_nil ?_
     have e2 : hzC (.slice Ah (hR (sinceL (l.filter (mineB a t)))).length ch) (rF ((sinceL (l.filter (mineB a t))).take i)) = hzC (.slice Ah (hR (sinceL (l.filter (mineB a t)))).length ch) (rF ((sinceL (l.filter (mineB a t))).take (i + 1))) := by rw [rF_take (by omega), cells_stay h5 hgo]
     rw [e2] at hp
     have hp := (((((hp.front 3 rfl).front 3 rfl).front 3 rfl).front 3 rfl).take 4)
     exact ihL0 (i + 1, _) _ _ (by simp only []; omega) ⟨_, slots4 rfl rfl rfl rfl, hp, by omega, hvs⟩
  ·(try simp only [decide_eq_true_eq, decide_eq_false_iff_not, Bool.not_eq_true', Bool.not_eq_false', Bool.not_eq_eq_eq_not, Bool.not_true, Bool.not_false, Int.not_lt, Int.not_le] at hb)
   obtain rfl : i = (sinceL (l.filter (mineB a t))).length := by omega
   rw [List.take_length] at hp
   refine GW_exit ?_
   refine GW_seq ?_
   refine GW_region ?_
   refine GL_rd (wn_none rfl) rfl (rd_loadC rfl rfl Try.underlying102 rfl ts102 (hp.get 0 rfl) (by first | (rw [bys_length]; first | exact a32_len _) | rfl | simp [bys_length, *])) ?_
   refine GL_store (i := 3) (wn_none rfl) rfl rfl rfl rfl ts102 rfl rfl (oneC rfl (oneC rfl (oneC rfl (oneC rfl (oneC rfl (oneC rfl one0)))))) hp rfl (by first | exact Nat.le_of_ble_eq_true rfl | simp [bys_length, *]) (show splice _ _ _ = hzC (.slice Ah (hR (sinceL (l.filter (mineB a t)))).length ch) (rF (sinceL (l.filter (mineB a t)))) from rfl) ?_
   intro w hp
   refine GL_nil ?_
   refine GW_ret ?_
   have hp2 := ((hp.front 2 rfl).take 1)
   have e1 := hOf_ref l a t
   exact ⟨_, res1 Try.results48 (rv_cell rfl rfl Try.underlying102 rfl ts102 rfl (hp.get 3 rfl)), _, by rw [e1]; first | done | rfl, by rw [e1, rF_holds]; exact hp2⟩
 ·have hp := (((((hp.front 3 rfl).front 2 rfl).front 3 rfl).front 3 rfl).take 4)
  refine ⟨_, slots4 rfl rfl rfl rfl, hp, Nat.zero_le _, hvs⟩
end Go.Proofs.Ytdbkmpnknkldlaa
