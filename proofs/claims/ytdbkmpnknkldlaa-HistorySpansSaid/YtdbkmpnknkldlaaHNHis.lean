/- Walks of functions of the program. -/
import Derived.Test.YtdbkmpnknkldlaaHLHis
import Derived.Test.YtdbkmpnknkldlaaHHisX
set_option linter.unusedVariables false
set_option linter.unusedSimpArgs false
namespace Go.Proofs.Ytdbkmpnknkldlaa
open Go.Mo Go.RowKit
set_option maxHeartbeats 1000000 in
theorem ref_Span (sv : Value) (m : Nat) (l : List Rec) (a : A32) (t : Int) (w0 : World) (hI : Sl w0 sv 100 m (l.flatMap recC)) (hm : m ≤ 1000) (hT : ∀ r ∈ l, 0 ≤ r.time ∧ r.time ≤ 1099511627776) (ht0 : 0 ≤ t ∧ t ≤ 1099511627776) : Does Try.prog 15 #[sv, .agg ⟨bys a.1⟩, .int .i64 t] w0 fun v w' => v = .int .i64 (spanL l a t) ∧ Hp w0 [] w' [] := by
 obtain ⟨A, c, rfl⟩ := sl_shape hI
 have hlm := Sl.recs hI
 have hmle := hI.le
 have hMt : ∀ r ∈ (l.filter (mineB a t)), 0 ≤ r.time ∧ r.time ≤ 1099511627776 := fun r hr => hT r (mine_of hr).1
 have hMle : ∀ r ∈ (l.filter (mineB a t)), r.time ≤ t := fun r hr => (mine_of hr).2.2
 have hML := List.length_filter_le (mineB a t) l
 refine does_of (l := [.slice A m c, .agg ⟨bys a.1⟩, .int .i64 t]) Try.func15 (by kernel_rfl) rfl Try.ntmps15 rfl rfl (by kernel_rfl) ?_
 have hp := Hp.refl w0 []
 refine GW_seq ?_
 refine GW_region ?_
 refine GL_box (wn_none rfl) rfl rfl rfl rfl hp ?_
 intro g w hp
 refine GL_rd (v := .int _ _) (wn_none rfl) rfl (rd_assign rfl rfl) ?_
 refine GL_nil ?_
 refine GW_seq ?_
 refine GW_region ?_
 refine GL_rd (v := .slice _ _ _) (wn_none rfl) rfl (rd_move rfl rfl) ?_
 refine GL_rd (wn_none rfl) rfl (rd_loadC rfl rfl Try.underlying23 rfl ts23 (hp.get 0 rfl) (by first | (rw [bys_length]; first | exact a32_len _) | rfl | simp [bys_length, *])) ?_
 refine GL_rd (v := .int _ _) (wn_none rfl) rfl (rd_move rfl rfl) ?_
 refine GL_call (wn_none rfl) rfl rfl (ref_Mine _ m l a t _ (hI.keep hp.mod) (by omega)) rfl ?_
 intro vm w hk
 have hp := hp.comp hk
 obtain ⟨Am, cm, rfl⟩ := row_shape (hp.get 0 rfl)
 refine GL_rd (v := .slice _ _ _) (wn_none rfl) rfl (rd_assign rfl rfl) ?_
 refine GL_nil ?_
 refine GW_seq ?_
 refine GW_region ?_
 refine GL_rd (v := .int _ _) (wn_none rfl) rfl (rd_assign rfl rfl) ?_
 refine GL_nil ?_
 refine GW_seq ?_
 refine GW_seq ?_
 refine GW_region ?_
 refine GL_rd (v := .int _ _) (wn_none rfl) rfl (rd_assign rfl rfl) ?_
 refine GL_nil ?_
 refine GW_block ?_
 refine GW_loop ?_
 refine Lp_ind (α := Nat × Option Addr) (fun a_0 f_0 w' => match a_0 with | (i, Am) => ∃ fz, f_0 = (upd (upd (upd (upd (upd fz 2 (.int .i64 t)) 4 (.pointer (some ⟨g, 0, none⟩))) 7 (.slice Am (l.filter (mineB a t)).length cm)) 8 (.int .i64 (rspK a (l.filter (mineB a t)) t i))) 9 (.int .i64 (i : Int))) ∧ Hp w0 [] w' [.row 32 100 (.slice Am (l.filter (mineB a t)).length cm) ((l.filter (mineB a t))).length (((l.filter (mineB a t))).flatMap recC), cells g 23 (bys a.1)] ∧ (i ≤ (l.filter (mineB a t)).length)) (fun a_0 => match a_0 with | (i, Am) => (l.filter (mineB a t)).length - i) ?_ (0, Am) _ _ ?_
 ·rintro ⟨i, Am⟩ f wz ⟨fz, rfl, hp, hi0⟩ ihL0
  have hrb := rsp_bound (a := a) hMt ht0 i hi0
  refine Lp_round ?_
  refine GW_seq ?_
  refine GW_seq ?_
  refine GW_region ?_
  refine GL_rd (v := .int _ _) (wn_none rfl) rfl (rd_move rfl rfl) ?_
  refine GL_rd (v := .slice _ _ _) (wn_none rfl) rfl (rd_move rfl rfl) ?_
  refine GL_rd (wn_none rfl) rfl (rd_len rfl rfl Try.underlying22) ?_
  refine GL_rd (wn_none rfl) rfl (rd_bin rfl rfl rfl bo_lss) ?_
  refine GL_nil ?_
  refine GW_cond rfl (fun hb => ?_) (fun hb => ?_)
  ·(try simp only [decide_eq_true_eq, decide_eq_false_iff_not, Bool.not_eq_true', Bool.not_eq_false', Bool.not_eq_eq_eq_not, Bool.not_true, Bool.not_false, Int.not_lt, Int.not_le] at hb)
   obtain ⟨gM, bM, rfl⟩ := (Sl.row (hp.get 0 rfl)).addr (by rw [flat_length recC_len]; omega)
   have hb1 := hMt _ (recAt_mem (l := (l.filter (mineB a t))) (i := i) (by omega))
   refine GW_skip ?_
   refine GW_seq ?_
   refine GW_block ?_
   refine GW_seq ?_
   refine GW_drawnK 8 (.one 0 true (.one 1 true (.one 2 true (.one 3 true (.one 4 true (.one 5 true (.two 6 7 (.one 7 false (.one 8 false .nil)) (.one 6 false (.one 8 false .nil))))))))) mixed (by kernel_rfl) hp (fun _ h => h) fun w hp => ?_
   have hpS := hp
   refine GO_rdT (v := .slice _ _ _) rfl (wn_none rfl) rfl (fun w => (rd_move rfl rfl)) ?_
   refine GO_rdT (v := .int _ _) rfl (wn_none rfl) rfl (fun w => (rd_move rfl rfl)) ?_
   refine GO_rd rfl rfl (wn_none rfl) rfl hpS (fun w hp => (rd_bin rfl rfl rfl (bo_add64 (by omega)))) ?_
   refine GO_rd rfl rfl (wn_none rfl) rfl hpS (fun w hp => (rd_sliceS (lo := 0) (hi := (i + 1)) rfl rfl Try.underlying22 ts32 at_none (at_some rfl rfl) (by omega) (by have := (Sl.cap (Sl.row (hp.get 0 rfl))).1; omega))) ?_
   refine GO_rd rfl rfl (wn_none rfl) rfl hpS (fun w hp => (rd_loadC rfl rfl Try.underlying23 rfl ts23 (hp.get 1 rfl) (by first | (rw [bys_length]; first | exact a32_len _) | rfl | simp [bys_length, *]))) ?_
   refine GO_rdT (v := .int _ _) rfl (wn_none rfl) rfl (fun w => (rd_move rfl rfl)) ?_
   refine GO_two rfl rfl ?_ ?_
   ·skip
    refine GC_of_GL ?_
    refine GL_call (wn_none rfl) rfl rfl (ref_Of _ (i + 1) ((l.filter (mineB a t)).take (i + 1)) a t _ (Sl.cutE (n := (l.filter (mineB a t)).length) recC_len (Sl.row (hp.get 0 rfl)) 0 (i + 1) (Nat.zero_le _) (by omega)) (by omega)) rfl ?_
    rintro _ w ⟨hv, rfl, hk⟩
    have hp := hp.comp hk
    obtain ⟨Ah, ch, rfl⟩ := row_shape (hp.get 0 rfl)
    have hpS2 := (hp.sub (.cons _ (.cons_cons _ (.cons_cons _ .slnil))))
    refine GL_nil ⟨fun _ => hpS2, ?_⟩
    refine GO_of_GL rfl ?_
    refine GL_alloc (wn_none rfl) rfl rfl tz102 rfl hp ?_
    intro g2 w hp
    have hpS3 := (hp.sub (.cons _ (.cons _ (.cons_cons _ (.cons_cons _ .slnil)))))
    refine GL_nil ⟨fun _ => hpS3, ?_⟩
    refine GO_of_GL rfl ?_
    refine GL_store (i := 0) (wn_none rfl) rfl rfl rfl rfl ts102 rfl rfl (oneC rfl (oneC rfl (oneC rfl (oneC rfl (oneC rfl (oneC rfl one0)))))) hp rfl (by first | exact Nat.le_of_ble_eq_true rfl | simp [bys_length, *]) (show splice _ _ _ = hzC _ (hOf ((l.filter (mineB a t)).take (i + 1)) a t) from rfl) ?_
    intro w hp
    refine GL_nil ⟨fun h => absurd h (by decide), ?_⟩
    refine GO_nil ?_
    refine GW_seq ?_
    refine GW_region ?_
    refine GL_rd (v := .int _ _) (wn_none rfl) rfl (rd_move rfl rfl) ?_
    refine GL_rd (v := .int _ _) (wn_none rfl) rfl (rd_assign rfl rfl) ?_
    refine GL_nil ?_
    refine GW_seq ?_
    refine GW_seq ?_
    refine GW_region ?_
    refine GL_rd (v := .int _ _) (wn_none rfl) rfl (rd_move rfl rfl) ?_
    refine GL_rd (wn_none rfl) rfl (rd_bin rfl rfl rfl (bo_add64 (by omega))) ?_
    refine GL_rd (v := .slice _ _ _) (wn_none rfl) rfl (rd_move rfl rfl) ?_
    refine GL_rd (wn_none rfl) rfl (rd_len rfl rfl Try.underlying22) ?_
    refine GL_rd (wn_none rfl) rfl (rd_bin rfl rfl rfl bo_lss) ?_
    refine GL_nil ?_
    refine GW_cond rfl (fun hb2 => ?_) (fun hb2 => ?_)
    ·(try simp only [decide_eq_true_eq, decide_eq_false_iff_not, Bool.not_eq_true', Bool.not_eq_false', Bool.not_eq_eq_eq_not, Bool.not_true, Bool.not_false, Int.not_lt, Int.not_le] at hb2)
     have etm : tmR (l.filter (mineB a t)) t (i + 1) = (recAt (l.filter (mineB a t)) (i + 1)).time := by rw [tmR, if_pos (by omega)]
     have hb2 := hMt _ (recAt_mem (l := (l.filter (mineB a t))) (i := i + 1) (by omega))
     refine GW_region ?_
     refine GL_rd (v := .slice _ _ _) (wn_none rfl) rfl (rd_move rfl rfl) ?_
     refine GL_rd (v := .int _ _) (wn_none rfl) rfl (rd_move rfl rfl) ?_
     refine GL_rd (wn_none rfl) rfl (rd_bin rfl rfl rfl (bo_add64 (by omega))) ?_
     refine GL_rd (wn_none rfl) rfl (rd_indexS (j := (i + 1)) rfl rfl rfl Try.underlying22 ts32 rfl (by omega) _ rfl) ?_
     refine GL_rd (wn_none rfl) rfl (rd_field rfl rfl fa32_1 _ rfl) ?_
     refine GL_rd (wn_none rfl) rfl (rd_load rfl rfl Try.underlying3 rfl (Sl.recE (Sl.row (hp.get 2 rfl)) (i + 1) (by first | omega | assumption | exact Nat.lt_succ_self _) (rec_time _))) ?_
     refine GL_rd (v := .int _ _) (wn_none rfl) rfl (rd_assign rfl rfl) ?_
     refine GL_nil ?_
     refine GW_seq ?_
     refine GW_region ?_
     refine GL_rd (wn_none rfl) rfl (rd_field rfl rfl fa102_0 _ rfl) ?_
     refine GL_rd (v := .slice _ _ _) (wn_none rfl) rfl (rd_load rfl rfl Try.underlying29 rfl ((cell_of_cells (hp.get 0 rfl) _).trans rfl)) ?_
     refine GL_rd (wn_none rfl) rfl (rd_len rfl rfl Try.underlying29) ?_
     refine GL_rd (wn_none rfl) rfl (rd_bin rfl rfl rfl bo_gtr) ?_
     refine GL_rd (v := .bool _) (wn_none rfl) rfl (rd_move rfl rfl) ?_
     refine GL_split (t := 45) (b := _) rfl ?_ ?_
     ·intro hb3; (try simp only [decide_eq_true_eq, decide_eq_false_iff_not, Bool.not_eq_true', Bool.not_eq_false', Bool.not_eq_eq_eq_not, Bool.not_true, Bool.not_false, Int.not_lt, Int.not_le] at hb3)
      have h1 := hb3
      refine GL_rd (wn_on rfl rfl rfl rfl) rfl (rd_field rfl rfl fa102_3 _ rfl) ?_
      refine GL_rd (wn_on rfl rfl rfl rfl) rfl (rd_load rfl rfl Try.underlying4 rfl ((cell_of_cells (hp.get 0 rfl) _).trans rfl)) ?_
      refine GL_rd (wn_on rfl rfl rfl rfl) rfl (rd_not rfl rfl) ?_
      refine GL_rd (v := .bool _) (wn_none rfl) rfl (rd_pickT rfl rfl rfl) ?_
      refine GL_nil ?_
      refine GW_cond rfl (fun hb4 => ?_) (fun hb4 => ?_)
      ·(try simp only [decide_eq_true_eq, decide_eq_false_iff_not, Bool.not_eq_true', Bool.not_eq_false', Bool.not_eq_eq_eq_not, Bool.not_true, Bool.not_false, Int.not_lt, Int.not_le] at hb4)
       have hh : heldH (hOf ((l.filter (mineB a t)).take (i + 1)) a t) = true := by have q : (hOf ((l.filter (mineB a t)).take (i + 1)) a t).gone = false := hb4; rw [heldH, decide_eq_true (show 0 < (hOf ((l.filter (mineB a t)).take (i + 1)) a t).holds.length by omega), q]; rfl
       have e1 : rspT a (l.filter (mineB a t)) t i = tmR (l.filter (mineB a t)) t (i + 1) - (recAt (l.filter (mineB a t)) i).time := by rw [rspT, if_pos (by rw [← of_take (a := a) hMle (i + 1)]; exact hh)]
       refine GW_region ?_
       refine GL_rd (v := .int _ _) (wn_none rfl) rfl (rd_move rfl rfl) ?_
       refine GL_rd (v := .int _ _) (wn_none rfl) rfl (rd_move rfl rfl) ?_
       refine GL_rd (wn_none rfl) rfl (rd_bin rfl rfl rfl (bo_add64 (by omega))) ?_
       refine GL_rd (v := .slice _ _ _) (wn_none rfl) rfl (rd_move rfl rfl) ?_
       refine GL_rd (v := .int _ _) (wn_none rfl) rfl (rd_move rfl rfl) ?_
       refine GL_rd (wn_none rfl) rfl (rd_indexS (j := i) rfl rfl rfl Try.underlying22 ts32 rfl (by omega) _ rfl) ?_
       refine GL_rd (wn_none rfl) rfl (rd_field rfl rfl fa32_1 _ rfl) ?_
       refine GL_rd (wn_none rfl) rfl (rd_load rfl rfl Try.underlying3 rfl (Sl.recE (Sl.row (hp.get 2 rfl)) i (by first | omega | assumption | exact Nat.lt_succ_self _) (rec_time _))) ?_
       refine GL_rd (wn_none rfl) rfl (rd_bin rfl rfl rfl (bo_sub64 (by omega))) ?_
       refine GL_rd (v := .int _ _) (wn_none rfl) rfl (rd_assign rfl rfl) ?_
       refine GL_nil ?_
       refine GW_region ?_
       refine GL_rd (v := .int _ _) (wn_none rfl) rfl (rd_move rfl rfl) ?_
       refine GL_rd (wn_none rfl) rfl (rd_bin rfl rfl rfl (bo_add64 (by omega))) ?_
       refine GL_rd (v := .int _ _) (wn_none rfl) rfl (rd_assign rfl rfl) ?_
       refine GL_nil ?_
       have hp := (((hp.front 3 rfl).front 3 rfl).take 2)
       exact ihL0 (i + 1, _) _ _ (by simp only []; omega) ⟨_, slots5 rfl rfl rfl (congrArg (Value.int .i64) (by rw [rspK, e1]; first | omega | (rw [etm]; omega))) rfl, hp, by omega⟩
      ·(try simp only [decide_eq_true_eq, decide_eq_false_iff_not, Bool.not_eq_true', Bool.not_eq_false', Bool.not_eq_eq_eq_not, Bool.not_true, Bool.not_false, Int.not_lt, Int.not_le] at hb4)
       have hh : heldH (hOf ((l.filter (mineB a t)).take (i + 1)) a t) = false := by rw [heldH]; have q : (hOf ((l.filter (mineB a t)).take (i + 1)) a t).gone = true := hb4; rw [q]; simp
       have e1 : rspT a (l.filter (mineB a t)) t i = 0 := by rw [rspT, if_neg (by rw [← of_take (a := a) hMle (i + 1), hh]; decide)]
       refine GW_skip ?_
       refine GW_region ?_
       refine GL_rd (v := .int _ _) (wn_none rfl) rfl (rd_move rfl rfl) ?_
       refine GL_rd (wn_none rfl) rfl (rd_bin rfl rfl rfl (bo_add64 (by omega))) ?_
       refine GL_rd (v := .int _ _) (wn_none rfl) rfl (rd_assign rfl rfl) ?_
       refine GL_nil ?_
       have hp := (((hp.front 3 rfl).front 3 rfl).take 2)
       exact ihL0 (i + 1, _) _ _ (by simp only []; omega) ⟨_, slots5 rfl rfl rfl (congrArg (Value.int .i64) (by rw [rspK, e1]; first | omega | (rw [etm]; omega))) rfl, hp, by omega⟩
     ·intro hb3; (try simp only [decide_eq_true_eq, decide_eq_false_iff_not, Bool.not_eq_true', Bool.not_eq_false', Bool.not_eq_eq_eq_not, Bool.not_true, Bool.not_false, Int.not_lt, Int.not_le] at hb3)
      have hh : heldH (hOf ((l.filter (mineB a t)).take (i + 1)) a t) = false := by rw [heldH]; rw [decide_eq_false (show ¬ 0 < (hOf ((l.filter (mineB a t)).take (i + 1)) a t).holds.length by have := hb3; omega)]; rfl
      have e1 : rspT a (l.filter (mineB a t)) t i = 0 := by rw [rspT, if_neg (by rw [← of_take (a := a) hMle (i + 1), hh]; decide)]
      refine GL_pass (nw_off rfl rfl rfl rfl rfl) rfl ?_
      refine GL_pass (nw_off rfl rfl rfl rfl rfl) rfl ?_
      refine GL_pass (nw_off rfl rfl rfl rfl rfl) rfl ?_
      refine GL_rd (v := .bool _) (wn_none rfl) rfl (rd_pickF rfl rfl rfl) ?_
      refine GL_nil ?_
      refine GW_false rfl ?_
      refine GW_skip ?_
      refine GW_region ?_
      refine GL_rd (v := .int _ _) (wn_none rfl) rfl (rd_move rfl rfl) ?_
      refine GL_rd (wn_none rfl) rfl (rd_bin rfl rfl rfl (bo_add64 (by omega))) ?_
      refine GL_rd (v := .int _ _) (wn_none rfl) rfl (rd_assign rfl rfl) ?_
      refine GL_nil ?_
      have hp := (((hp.front 3 rfl).front 3 rfl).take 2)
      exact ihL0 (i + 1, _) _ _ (by simp only []; omega) ⟨_, slots5 rfl rfl rfl (congrArg (Value.int .i64) (by rw [rspK, e1]; first | omega | (rw [etm]; omega))) rfl, hp, by omega⟩
    ·(try simp only [decide_eq_true_eq, decide_eq_false_iff_not, Bool.not_eq_true', Bool.not_eq_false', Bool.not_eq_eq_eq_not, Bool.not_true, Bool.not_false, Int.not_lt, Int.not_le] at hb2)
     have etm : tmR (l.filter (mineB a t)) t (i + 1) = t := by rw [tmR, if_neg (by omega)]
     refine GW_skip ?_
     refine GW_seq ?_
     refine GW_region ?_
     refine GL_rd (wn_none rfl) rfl (rd_field rfl rfl fa102_0 _ rfl) ?_
     refine GL_rd (v := .slice _ _ _) (wn_none rfl) rfl (rd_load rfl rfl Try.underlying29 rfl ((cell_of_cells (hp.get 0 rfl) _).trans rfl)) ?_
     refine GL_rd (wn_none rfl) rfl (rd_len rfl rfl Try.underlying29) ?_
     refine GL_rd (wn_none rfl) rfl (rd_bin rfl rfl rfl bo_gtr) ?_
     refine GL_rd (v := .bool _) (wn_none rfl) rfl (rd_move rfl rfl) ?_
     refine GL_split (t := 45) (b := _) rfl ?_ ?_
     ·intro hb5; (try simp only [decide_eq_true_eq, decide_eq_false_iff_not, Bool.not_eq_true', Bool.not_eq_false', Bool.not_eq_eq_eq_not, Bool.not_true, Bool.not_false, Int.not_lt, Int.not_le] at hb5)
      have h1 := hb5
      refine GL_rd (wn_on rfl rfl rfl rfl) rfl (rd_field rfl rfl fa102_3 _ rfl) ?_
      refine GL_rd (wn_on rfl rfl rfl rfl) rfl (rd_load rfl rfl Try.underlying4 rfl ((cell_of_cells (hp.get 0 rfl) _).trans rfl)) ?_
      refine GL_rd (wn_on rfl rfl rfl rfl) rfl (rd_not rfl rfl) ?_
      refine GL_rd (v := .bool _) (wn_none rfl) rfl (rd_pickT rfl rfl rfl) ?_
      refine GL_nil ?_
      refine GW_cond rfl (fun hb6 => ?_) (fun hb6 => ?_)
      ·(try simp only [decide_eq_true_eq, decide_eq_false_iff_not, Bool.not_eq_true', Bool.not_eq_false', Bool.not_eq_eq_eq_not, Bool.not_true, Bool.not_false, Int.not_lt, Int.not_le] at hb6)
       have hh : heldH (hOf ((l.filter (mineB a t)).take (i + 1)) a t) = true := by have q : (hOf ((l.filter (mineB a t)).take (i + 1)) a t).gone = false := hb6; rw [heldH, decide_eq_true (show 0 < (hOf ((l.filter (mineB a t)).take (i + 1)) a t).holds.length by omega), q]; rfl
       have e1 : rspT a (l.filter (mineB a t)) t i = tmR (l.filter (mineB a t)) t (i + 1) - (recAt (l.filter (mineB a t)) i).time := by rw [rspT, if_pos (by rw [← of_take (a := a) hMle (i + 1)]; exact hh)]
       refine GW_region ?_
       refine GL_rd (v := .int _ _) (wn_none rfl) rfl (rd_move rfl rfl) ?_
       refine GL_rd (v := .int _ _) (wn_none rfl) rfl (rd_move rfl rfl) ?_
       refine GL_rd (wn_none rfl) rfl (rd_bin rfl rfl rfl (bo_add64 (by omega))) ?_
       refine GL_rd (v := .slice _ _ _) (wn_none rfl) rfl (rd_move rfl rfl) ?_
       refine GL_rd (v := .int _ _) (wn_none rfl) rfl (rd_move rfl rfl) ?_
       refine GL_rd (wn_none rfl) rfl (rd_indexS (j := i) rfl rfl rfl Try.underlying22 ts32 rfl (by omega) _ rfl) ?_
       refine GL_rd (wn_none rfl) rfl (rd_field rfl rfl fa32_1 _ rfl) ?_
       refine GL_rd (wn_none rfl) rfl (rd_load rfl rfl Try.underlying3 rfl (Sl.recE (Sl.row (hp.get 2 rfl)) i (by first | omega | assumption | exact Nat.lt_succ_self _) (rec_time _))) ?_
       refine GL_rd (wn_none rfl) rfl (rd_bin rfl rfl rfl (bo_sub64 (by omega))) ?_
       refine GL_rd (v := .int _ _) (wn_none rfl) rfl (rd_assign rfl rfl) ?_
       refine GL_nil ?_
       refine GW_region ?_
       refine GL_rd (v := .int _ _) (wn_none rfl) rfl (rd_move rfl rfl) ?_
       refine GL_rd (wn_none rfl) rfl (rd_bin rfl rfl rfl (bo_add64 (by omega))) ?_
       refine GL_rd (v := .int _ _) (wn_none rfl) rfl (rd_assign rfl rfl) ?_
       refine GL_nil ?_
       have hp := (((hp.front 3 rfl).front 3 rfl).take 2)
       exact ihL0 (i + 1, _) _ _ (by simp only []; omega) ⟨_, slots5 rfl rfl rfl (congrArg (Value.int .i64) (by rw [rspK, e1]; first | omega | (rw [etm]; omega))) rfl, hp, by omega⟩
      ·(try simp only [decide_eq_true_eq, decide_eq_false_iff_not, Bool.not_eq_true', Bool.not_eq_false', Bool.not_eq_eq_eq_not, Bool.not_true, Bool.not_false, Int.not_lt, Int.not_le] at hb6)
       have hh : heldH (hOf ((l.filter (mineB a t)).take (i + 1)) a t) = false := by rw [heldH]; have q : (hOf ((l.filter (mineB a t)).take (i + 1)) a t).gone = true := hb6; rw [q]; simp
       have e1 : rspT a (l.filter (mineB a t)) t i = 0 := by rw [rspT, if_neg (by rw [← of_take (a := a) hMle (i + 1), hh]; decide)]
       refine GW_skip ?_
       refine GW_region ?_
       refine GL_rd (v := .int _ _) (wn_none rfl) rfl (rd_move rfl rfl) ?_
       refine GL_rd (wn_none rfl) rfl (rd_bin rfl rfl rfl (bo_add64 (by omega))) ?_
       refine GL_rd (v := .int _ _) (wn_none rfl) rfl (rd_assign rfl rfl) ?_
       refine GL_nil ?_
       have hp := (((hp.front 3 rfl).front 3 rfl).take 2)
       exact ihL0 (i + 1, _) _ _ (by simp only []; omega) ⟨_, slots5 rfl rfl rfl (congrArg (Value.int .i64) (by rw [rspK, e1]; first | omega | (rw [etm]; omega))) rfl, hp, by omega⟩
     ·intro hb5; (try simp only [decide_eq_true_eq, decide_eq_false_iff_not, Bool.not_eq_true', Bool.not_eq_false', Bool.not_eq_eq_eq_not, Bool.not_true, Bool.not_false, Int.not_lt, Int.not_le] at hb5)
      have hh : heldH (hOf ((l.filter (mineB a t)).take (i + 1)) a t) = false := by rw [heldH]; rw [decide_eq_false (show ¬ 0 < (hOf ((l.filter (mineB a t)).take (i + 1)) a t).holds.length by have := hb5; omega)]; rfl
      have e1 : rspT a (l.filter (mineB a t)) t i = 0 := by rw [rspT, if_neg (by rw [← of_take (a := a) hMle (i + 1), hh]; decide)]
      refine GL_pass (nw_off rfl rfl rfl rfl rfl) rfl ?_
      refine GL_pass (nw_off rfl rfl rfl rfl rfl) rfl ?_
      refine GL_pass (nw_off rfl rfl rfl rfl rfl) rfl ?_
      refine GL_rd (v := .bool _) (wn_none rfl) rfl (rd_pickF rfl rfl rfl) ?_
      refine GL_nil ?_
      refine GW_false rfl ?_
      refine GW_skip ?_
      refine GW_region ?_
      refine GL_rd (v := .int _ _) (wn_none rfl) rfl (rd_move rfl rfl) ?_
      refine GL_rd (wn_none rfl) rfl (rd_bin rfl rfl rfl (bo_add64 (by omega))) ?_
      refine GL_rd (v := .int _ _) (wn_none rfl) rfl (rd_assign rfl rfl) ?_
      refine GL_nil ?_
      have hp := (((hp.front 3 rfl).front 3 rfl).take 2)
      exact ihL0 (i + 1, _) _ _ (by simp only []; omega) ⟨_, slots5 rfl rfl rfl (congrArg (Value.int .i64) (by rw [rspK, e1]; first | omega | (rw [etm]; omega))) rfl, hp, by omega⟩
   ·skip
    refine GC_of_GL ?_
    refine GL_alloc (wn_none rfl) rfl rfl tz102 rfl hp ?_
    intro g3 w hp
    have hpS4 := (hp.sub (.cons _ (.cons_cons _ (.cons_cons _ .slnil))))
    refine GL_nil ⟨fun _ => hpS4, ?_⟩
    refine GO_of_GL rfl ?_
    refine GL_call (wn_none rfl) rfl rfl (ref_Of _ (i + 1) ((l.filter (mineB a t)).take (i + 1)) a t _ (Sl.cutE (n := (l.filter (mineB a t)).length) recC_len (Sl.row (hp.get 1 rfl)) 0 (i + 1) (Nat.zero_le _) (by omega)) (by omega)) rfl ?_
    rintro _ w ⟨hv, rfl, hk⟩
    have hp := hp.comp hk
    obtain ⟨Ah, ch, rfl⟩ := row_shape (hp.get 0 rfl)
    have hpS5 := (hp.sub (.cons _ (.cons _ (.cons_cons _ (.cons_cons _ .slnil)))))
    refine GL_nil ⟨fun _ => hpS5, ?_⟩
    refine GO_of_GL rfl ?_
    refine GL_store (i := 1) (wn_none rfl) rfl rfl rfl rfl ts102 rfl rfl (oneC rfl (oneC rfl (oneC rfl (oneC rfl (oneC rfl (oneC rfl one0)))))) hp rfl (by first | exact Nat.le_of_ble_eq_true rfl | simp [bys_length, *]) (show splice _ _ _ = hzC _ (hOf ((l.filter (mineB a t)).take (i + 1)) a t) from rfl) ?_
    intro w hp
    refine GL_nil ⟨fun h => absurd h (by decide), ?_⟩
    refine GO_nil ?_
    refine GW_seq ?_
    refine GW_region ?_
    refine GL_rd (v := .int _ _) (wn_none rfl) rfl (rd_move rfl rfl) ?_
    refine GL_rd (v := .int _ _) (wn_none rfl) rfl (rd_assign rfl rfl) ?_
    refine GL_nil ?_
    refine GW_seq ?_
    refine GW_seq ?_
    refine GW_region ?_
    refine GL_rd (v := .int _ _) (wn_none rfl) rfl (rd_move rfl rfl) ?_
    refine GL_rd (wn_none rfl) rfl (rd_bin rfl rfl rfl (bo_add64 (by omega))) ?_
    refine GL_rd (v := .slice _ _ _) (wn_none rfl) rfl (rd_move rfl rfl) ?_
    refine GL_rd (wn_none rfl) rfl (rd_len rfl rfl Try.underlying22) ?_
    refine GL_rd (wn_none rfl) rfl (rd_bin rfl rfl rfl bo_lss) ?_
    refine GL_nil ?_
    refine GW_cond rfl (fun hb7 => ?_) (fun hb7 => ?_)
    ·(try simp only [decide_eq_true_eq, decide_eq_false_iff_not, Bool.not_eq_true', Bool.not_eq_false', Bool.not_eq_eq_eq_not, Bool.not_true, Bool.not_false, Int.not_lt, Int.not_le] at hb7)
     have etm : tmR (l.filter (mineB a t)) t (i + 1) = (recAt (l.filter (mineB a t)) (i + 1)).time := by rw [tmR, if_pos (by omega)]
     have hb2 := hMt _ (recAt_mem (l := (l.filter (mineB a t))) (i := i + 1) (by omega))
     refine GW_region ?_
     refine GL_rd (v := .slice _ _ _) (wn_none rfl) rfl (rd_move rfl rfl) ?_
     refine GL_rd (v := .int _ _) (wn_none rfl) rfl (rd_move rfl rfl) ?_
     refine GL_rd (wn_none rfl) rfl (rd_bin rfl rfl rfl (bo_add64 (by omega))) ?_
     refine GL_rd (wn_none rfl) rfl (rd_indexS (j := (i + 1)) rfl rfl rfl Try.underlying22 ts32 rfl (by omega) _ rfl) ?_
     refine GL_rd (wn_none rfl) rfl (rd_field rfl rfl fa32_1 _ rfl) ?_
     refine GL_rd (wn_none rfl) rfl (rd_load rfl rfl Try.underlying3 rfl (Sl.recE (Sl.row (hp.get 2 rfl)) (i + 1) (by first | omega | assumption | exact Nat.lt_succ_self _) (rec_time _))) ?_
     refine GL_rd (v := .int _ _) (wn_none rfl) rfl (rd_assign rfl rfl) ?_
     refine GL_nil ?_
     refine GW_seq ?_
     refine GW_region ?_
     refine GL_rd (wn_none rfl) rfl (rd_field rfl rfl fa102_0 _ rfl) ?_
     refine GL_rd (v := .slice _ _ _) (wn_none rfl) rfl (rd_load rfl rfl Try.underlying29 rfl ((cell_of_cells (hp.get 1 rfl) _).trans rfl)) ?_
     refine GL_rd (wn_none rfl) rfl (rd_len rfl rfl Try.underlying29) ?_
     refine GL_rd (wn_none rfl) rfl (rd_bin rfl rfl rfl bo_gtr) ?_
     refine GL_rd (v := .bool _) (wn_none rfl) rfl (rd_move rfl rfl) ?_
     refine GL_split (t := 45) (b := _) rfl ?_ ?_
     ·intro hb8; (try simp only [decide_eq_true_eq, decide_eq_false_iff_not, Bool.not_eq_true', Bool.not_eq_false', Bool.not_eq_eq_eq_not, Bool.not_true, Bool.not_false, Int.not_lt, Int.not_le] at hb8)
      have h1 := hb8
      refine GL_rd (wn_on rfl rfl rfl rfl) rfl (rd_field rfl rfl fa102_3 _ rfl) ?_
      refine GL_rd (wn_on rfl rfl rfl rfl) rfl (rd_load rfl rfl Try.underlying4 rfl ((cell_of_cells (hp.get 1 rfl) _).trans rfl)) ?_
      refine GL_rd (wn_on rfl rfl rfl rfl) rfl (rd_not rfl rfl) ?_
      refine GL_rd (v := .bool _) (wn_none rfl) rfl (rd_pickT rfl rfl rfl) ?_
      refine GL_nil ?_
      refine GW_cond rfl (fun hb9 => ?_) (fun hb9 => ?_)
      ·(try simp only [decide_eq_true_eq, decide_eq_false_iff_not, Bool.not_eq_true', Bool.not_eq_false', Bool.not_eq_eq_eq_not, Bool.not_true, Bool.not_false, Int.not_lt, Int.not_le] at hb9)
       have hh : heldH (hOf ((l.filter (mineB a t)).take (i + 1)) a t) = true := by have q : (hOf ((l.filter (mineB a t)).take (i + 1)) a t).gone = false := hb9; rw [heldH, decide_eq_true (show 0 < (hOf ((l.filter (mineB a t)).take (i + 1)) a t).holds.length by omega), q]; rfl
       have e1 : rspT a (l.filter (mineB a t)) t i = tmR (l.filter (mineB a t)) t (i + 1) - (recAt (l.filter (mineB a t)) i).time := by rw [rspT, if_pos (by rw [← of_take (a := a) hMle (i + 1)]; exact hh)]
       refine GW_region ?_
       refine GL_rd (v := .int _ _) (wn_none rfl) rfl (rd_move rfl rfl) ?_
       refine GL_rd (v := .int _ _) (wn_none rfl) rfl (rd_move rfl rfl) ?_
       refine GL_rd (wn_none rfl) rfl (rd_bin rfl rfl rfl (bo_add64 (by omega))) ?_
       refine GL_rd (v := .slice _ _ _) (wn_none rfl) rfl (rd_move rfl rfl) ?_
       refine GL_rd (v := .int _ _) (wn_none rfl) rfl (rd_move rfl rfl) ?_
       refine GL_rd (wn_none rfl) rfl (rd_indexS (j := i) rfl rfl rfl Try.underlying22 ts32 rfl (by omega) _ rfl) ?_
       refine GL_rd (wn_none rfl) rfl (rd_field rfl rfl fa32_1 _ rfl) ?_
       refine GL_rd (wn_none rfl) rfl (rd_load rfl rfl Try.underlying3 rfl (Sl.recE (Sl.row (hp.get 2 rfl)) i (by first | omega | assumption | exact Nat.lt_succ_self _) (rec_time _))) ?_
       refine GL_rd (wn_none rfl) rfl (rd_bin rfl rfl rfl (bo_sub64 (by omega))) ?_
       refine GL_rd (v := .int _ _) (wn_none rfl) rfl (rd_assign rfl rfl) ?_
       refine GL_nil ?_
       refine GW_region ?_
       refine GL_rd (v := .int _ _) (wn_none rfl) rfl (rd_move rfl rfl) ?_
       refine GL_rd (wn_none rfl) rfl (rd_bin rfl rfl rfl (bo_add64 (by omega))) ?_
       refine GL_rd (v := .int _ _) (wn_none rfl) rfl (rd_assign rfl rfl) ?_
       refine GL_nil ?_
       have hp := (((hp.front 3 rfl).front 3 rfl).take 2)
       exact ihL0 (i + 1, _) _ _ (by simp only []; omega) ⟨_, slots5 rfl rfl rfl (congrArg (Value.int .i64) (by rw [rspK, e1]; first | omega | (rw [etm]; omega))) rfl, hp, by omega⟩
      ·(try simp only [decide_eq_true_eq, decide_eq_false_iff_not, Bool.not_eq_true', Bool.not_eq_false', Bool.not_eq_eq_eq_not, Bool.not_true, Bool.not_false, Int.not_lt, Int.not_le] at hb9)
       have hh : heldH (hOf ((l.filter (mineB a t)).take (i + 1)) a t) = false := by rw [heldH]; have q : (hOf ((l.filter (mineB a t)).take (i + 1)) a t).gone = true := hb9; rw [q]; simp
       have e1 : rspT a (l.filter (mineB a t)) t i = 0 := by rw [rspT, if_neg (by rw [← of_take (a := a) hMle (i + 1), hh]; decide)]
       refine GW_skip ?_
       refine GW_region ?_
       refine GL_rd (v := .int _ _) (wn_none rfl) rfl (rd_move rfl rfl) ?_
       refine GL_rd (wn_none rfl) rfl (rd_bin rfl rfl rfl (bo_add64 (by omega))) ?_
       refine GL_rd (v := .int _ _) (wn_none rfl) rfl (rd_assign rfl rfl) ?_
       refine GL_nil ?_
       have hp := (((hp.front 3 rfl).front 3 rfl).take 2)
       exact ihL0 (i + 1, _) _ _ (by simp only []; omega) ⟨_, slots5 rfl rfl rfl (congrArg (Value.int .i64) (by rw [rspK, e1]; first | omega | (rw [etm]; omega))) rfl, hp, by omega⟩
     ·intro hb8; (try simp only [decide_eq_true_eq, decide_eq_false_iff_not, Bool.not_eq_true', Bool.not_eq_false', Bool.not_eq_eq_eq_not, Bool.not_true, Bool.not_false, Int.not_lt, Int.not_le] at hb8)
      have hh : heldH (hOf ((l.filter (mineB a t)).take (i + 1)) a t) = false := by rw [heldH]; rw [decide_eq_false (show ¬ 0 < (hOf ((l.filter (mineB a t)).take (i + 1)) a t).holds.length by have := hb8; omega)]; rfl
      have e1 : rspT a (l.filter (mineB a t)) t i = 0 := by rw [rspT, if_neg (by rw [← of_take (a := a) hMle (i + 1), hh]; decide)]
      refine GL_pass (nw_off rfl rfl rfl rfl rfl) rfl ?_
      refine GL_pass (nw_off rfl rfl rfl rfl rfl) rfl ?_
      refine GL_pass (nw_off rfl rfl rfl rfl rfl) rfl ?_
      refine GL_rd (v := .bool _) (wn_none rfl) rfl (rd_pickF rfl rfl rfl) ?_
      refine GL_nil ?_
      refine GW_false rfl ?_
      refine GW_skip ?_
      refine GW_region ?_
      refine GL_rd (v := .int _ _) (wn_none rfl) rfl (rd_move rfl rfl) ?_
      refine GL_rd (wn_none rfl) rfl (rd_bin rfl rfl rfl (bo_add64 (by omega))) ?_
      refine GL_rd (v := .int _ _) (wn_none rfl) rfl (rd_assign rfl rfl) ?_
      refine GL_nil ?_
      have hp := (((hp.front 3 rfl).front 3 rfl).take 2)
      exact ihL0 (i + 1, _) _ _ (by simp only []; omega) ⟨_, slots5 rfl rfl rfl (congrArg (Value.int .i64) (by rw [rspK, e1]; first | omega | (rw [etm]; omega))) rfl, hp, by omega⟩
    ·(try simp only [decide_eq_true_eq, decide_eq_false_iff_not, Bool.not_eq_true', Bool.not_eq_false', Bool.not_eq_eq_eq_not, Bool.not_true, Bool.not_false, Int.not_lt, Int.not_le] at hb7)
     have etm : tmR (l.filter (mineB a t)) t (i + 1) = t := by rw [tmR, if_neg (by omega)]
     refine GW_skip ?_
     refine GW_seq ?_
     refine GW_region ?_
     refine GL_rd (wn_none rfl) rfl (rd_field rfl rfl fa102_0 _ rfl) ?_
     refine GL_rd (v := .slice _ _ _) (wn_none rfl) rfl (rd_load rfl rfl Try.underlying29 rfl ((cell_of_cells (hp.get 1 rfl) _).trans rfl)) ?_
     refine GL_rd (wn_none rfl) rfl (rd_len rfl rfl Try.underlying29) ?_
     refine GL_rd (wn_none rfl) rfl (rd_bin rfl rfl rfl bo_gtr) ?_
     refine GL_rd (v := .bool _) (wn_none rfl) rfl (rd_move rfl rfl) ?_
     refine GL_split (t := 45) (b := _) rfl ?_ ?_
     ·intro hb10; (try simp only [decide_eq_true_eq, decide_eq_false_iff_not, Bool.not_eq_true', Bool.not_eq_false', Bool.not_eq_eq_eq_not, Bool.not_true, Bool.not_false, Int.not_lt, Int.not_le] at hb10)
      have h1 := hb10
      refine GL_rd (wn_on rfl rfl rfl rfl) rfl (rd_field rfl rfl fa102_3 _ rfl) ?_
      refine GL_rd (wn_on rfl rfl rfl rfl) rfl (rd_load rfl rfl Try.underlying4 rfl ((cell_of_cells (hp.get 1 rfl) _).trans rfl)) ?_
      refine GL_rd (wn_on rfl rfl rfl rfl) rfl (rd_not rfl rfl) ?_
      refine GL_rd (v := .bool _) (wn_none rfl) rfl (rd_pickT rfl rfl rfl) ?_
      refine GL_nil ?_
      refine GW_cond rfl (fun hb11 => ?_) (fun hb11 => ?_)
      ·(try simp only [decide_eq_true_eq, decide_eq_false_iff_not, Bool.not_eq_true', Bool.not_eq_false', Bool.not_eq_eq_eq_not, Bool.not_true, Bool.not_false, Int.not_lt, Int.not_le] at hb11)
       have hh : heldH (hOf ((l.filter (mineB a t)).take (i + 1)) a t) = true := by have q : (hOf ((l.filter (mineB a t)).take (i + 1)) a t).gone = false := hb11; rw [heldH, decide_eq_true (show 0 < (hOf ((l.filter (mineB a t)).take (i + 1)) a t).holds.length by omega), q]; rfl
       have e1 : rspT a (l.filter (mineB a t)) t i = tmR (l.filter (mineB a t)) t (i + 1) - (recAt (l.filter (mineB a t)) i).time := by rw [rspT, if_pos (by rw [← of_take (a := a) hMle (i + 1)]; exact hh)]
       refine GW_region ?_
       refine GL_rd (v := .int _ _) (wn_none rfl) rfl (rd_move rfl rfl) ?_
       refine GL_rd (v := .int _ _) (wn_none rfl) rfl (rd_move rfl rfl) ?_
       refine GL_rd (wn_none rfl) rfl (rd_bin rfl rfl rfl (bo_add64 (by omega))) ?_
       refine GL_rd (v := .slice _ _ _) (wn_none rfl) rfl (rd_move rfl rfl) ?_
       refine GL_rd (v := .int _ _) (wn_none rfl) rfl (rd_move rfl rfl) ?_
       refine GL_rd (wn_none rfl) rfl (rd_indexS (j := i) rfl rfl rfl Try.underlying22 ts32 rfl (by omega) _ rfl) ?_
       refine GL_rd (wn_none rfl) rfl (rd_field rfl rfl fa32_1 _ rfl) ?_
       refine GL_rd (wn_none rfl) rfl (rd_load rfl rfl Try.underlying3 rfl (Sl.recE (Sl.row (hp.get 2 rfl)) i (by first | omega | assumption | exact Nat.lt_succ_self _) (rec_time _))) ?_
       refine GL_rd (wn_none rfl) rfl (rd_bin rfl rfl rfl (bo_sub64 (by omega))) ?_
       refine GL_rd (v := .int _ _) (wn_none rfl) rfl (rd_assign rfl rfl) ?_
       refine GL_nil ?_
       refine GW_region ?_
       refine GL_rd (v := .int _ _) (wn_none rfl) rfl (rd_move rfl rfl) ?_
       refine GL_rd (wn_none rfl) rfl (rd_bin rfl rfl rfl (bo_add64 (by omega))) ?_
       refine GL_rd (v := .int _ _) (wn_none rfl) rfl (rd_assign rfl rfl) ?_
       refine GL_nil ?_
       have hp := (((hp.front 3 rfl).front 3 rfl).take 2)
       exact ihL0 (i + 1, _) _ _ (by simp only []; omega) ⟨_, slots5 rfl rfl rfl (congrArg (Value.int .i64) (by rw [rspK, e1]; first | omega | (rw [etm]; omega))) rfl, hp, by omega⟩
      ·(try simp only [decide_eq_true_eq, decide_eq_false_iff_not, Bool.not_eq_true', Bool.not_eq_false', Bool.not_eq_eq_eq_not, Bool.not_true, Bool.not_false, Int.not_lt, Int.not_le] at hb11)
       have hh : heldH (hOf ((l.filter (mineB a t)).take (i + 1)) a t) = false := by rw [heldH]; have q : (hOf ((l.filter (mineB a t)).take (i + 1)) a t).gone = true := hb11; rw [q]; simp
       have e1 : rspT a (l.filter (mineB a t)) t i = 0 := by rw [rspT, if_neg (by rw [← of_take (a := a) hMle (i + 1), hh]; decide)]
       refine GW_skip ?_
       refine GW_region ?_
       refine GL_rd (v := .int _ _) (wn_none rfl) rfl (rd_move rfl rfl) ?_
       refine GL_rd (wn_none rfl) rfl (rd_bin rfl rfl rfl (bo_add64 (by omega))) ?_
       refine GL_rd (v := .int _ _) (wn_none rfl) rfl (rd_assign rfl rfl) ?_
       refine GL_nil ?_
       have hp := (((hp.front 3 rfl).front 3 rfl).take 2)
       exact ihL0 (i + 1, _) _ _ (by simp only []; omega) ⟨_, slots5 rfl rfl rfl (congrArg (Value.int .i64) (by rw [rspK, e1]; first | omega | (rw [etm]; omega))) rfl, hp, by omega⟩
     ·intro hb10; (try simp only [decide_eq_true_eq, decide_eq_false_iff_not, Bool.not_eq_true', Bool.not_eq_false', Bool.not_eq_eq_eq_not, Bool.not_true, Bool.not_false, Int.not_lt, Int.not_le] at hb10)
      have hh : heldH (hOf ((l.filter (mineB a t)).take (i + 1)) a t) = false := by rw [heldH]; rw [decide_eq_false (show ¬ 0 < (hOf ((l.filter (mineB a t)).take (i + 1)) a t).holds.length by have := hb10; omega)]; rfl
      have e1 : rspT a (l.filter (mineB a t)) t i = 0 := by rw [rspT, if_neg (by rw [← of_take (a := a) hMle (i + 1), hh]; decide)]
      refine GL_pass (nw_off rfl rfl rfl rfl rfl) rfl ?_
      refine GL_pass (nw_off rfl rfl rfl rfl rfl) rfl ?_
      refine GL_pass (nw_off rfl rfl rfl rfl rfl) rfl ?_
      refine GL_rd (v := .bool _) (wn_none rfl) rfl (rd_pickF rfl rfl rfl) ?_
      refine GL_nil ?_
      refine GW_false rfl ?_
      refine GW_skip ?_
      refine GW_region ?_
      refine GL_rd (v := .int _ _) (wn_none rfl) rfl (rd_move rfl rfl) ?_
      refine GL_rd (wn_none rfl) rfl (rd_bin rfl rfl rfl (bo_add64 (by omega))) ?_
      refine GL_rd (v := .int _ _) (wn_none rfl) rfl (rd_assign rfl rfl) ?_
      refine GL_nil ?_
      have hp := (((hp.front 3 rfl).front 3 rfl).take 2)
      exact ihL0 (i + 1, _) _ _ (by simp only []; omega) ⟨_, slots5 rfl rfl rfl (congrArg (Value.int .i64) (by rw [rspK, e1]; first | omega | (rw [etm]; omega))) rfl, hp, by omega⟩
  ·(try simp only [decide_eq_true_eq, decide_eq_false_iff_not, Bool.not_eq_true', Bool.not_eq_false', Bool.not_eq_eq_eq_not, Bool.not_true, Bool.not_false, Int.not_lt, Int.not_le] at hb)
   obtain rfl : i = (l.filter (mineB a t)).length := by omega
   refine GW_exit ?_
   refine GW_seq ?_
   refine GW_region ?_
   refine GL_rd (v := .int _ _) (wn_none rfl) rfl (rd_move rfl rfl) ?_
   refine GL_rd (v := .int _ _) (wn_none rfl) rfl (rd_assign rfl rfl) ?_
   refine GL_nil ?_
   refine GW_ret ?_
   exact ⟨_, res1 Try.results15 (rv_tmp (v := .int _ _) rfl rfl), by rw [span_ref], hp.mods⟩
 ·have hp := (((hp.front 1 rfl).front 1 rfl).take 2)
  refine ⟨_, slots5 rfl rfl rfl rfl rfl, hp, Nat.zero_le _⟩
theorem ref_By (sv : Value) (m : Nat) (l : List Rec) (nm : ByteArray) (k : Int) (w0 : World) (hI : Sl w0 sv 100 m (l.flatMap recC)) (hm : m ≤ 65000) : Does Try.prog 12 #[sv, .string nm, .int .i64 k] w0 fun v w' => v = .int .i64 (byN l nm k : Int) ∧ Hp w0 [] w' [] := by
 obtain ⟨A, c, rfl⟩ := sl_shape hI
 have hlm := Sl.recs hI
 have hmle := hI.le
 refine does_of (l := [.slice A m c, .string nm, .int .i64 k]) Try.func12 (by kernel_rfl) rfl Try.ntmps12 rfl rfl (by kernel_rfl) ?_
 have hp := Hp.refl w0 []
 refine GW_seq ?_
 refine GW_region ?_
 refine GL_rd (v := .int _ _) (wn_none rfl) rfl (rd_assign rfl rfl) ?_
 refine GL_nil ?_
 refine GW_seq ?_
 refine GW_region ?_
 refine GL_rd (v := .int _ _) (wn_none rfl) rfl (rd_assign rfl rfl) ?_
 refine GL_nil ?_
 refine GW_seq ?_
 refine GW_seq ?_
 refine GW_region ?_
 refine GL_rd (v := .int _ _) (wn_none rfl) rfl (rd_assign rfl rfl) ?_
 refine GL_nil ?_
 refine GW_block ?_
 refine GW_loop ?_
 refine Lp_ind (α := Nat) (fun a_0 f_0 w' => match a_0 with | i => ∃ fz, f_0 = (upd (upd (upd (upd (upd fz 0 (.slice A m c)) 1 (.string nm)) 2 (.int .i64 k)) 7 (.int .i64 (byN (l.take i) nm k : Int))) 8 (.int .i64 (i : Int))) ∧ Hp w0 [] w' [] ∧ (i ≤ m)) (fun a_0 => match a_0 with | i => m - i) ?_ 0 _ _ ?_
 ·rintro i f wz ⟨fz, rfl, hp, hi0⟩ ihL0
  refine Lp_round ?_
  refine GW_seq ?_
  refine GW_seq ?_
  refine GW_region ?_
  refine GL_rd (v := .int _ _) (wn_none rfl) rfl (rd_move rfl rfl) ?_
  refine GL_rd (v := .slice _ _ _) (wn_none rfl) rfl (rd_move rfl rfl) ?_
  refine GL_rd (wn_none rfl) rfl (rd_len rfl rfl Try.underlying22) ?_
  refine GL_rd (wn_none rfl) rfl (rd_bin rfl rfl rfl bo_lss) ?_
  refine GL_nil ?_
  refine GW_cond rfl (fun hb => ?_) (fun hb => ?_)
  ·(try simp only [decide_eq_true_eq, decide_eq_false_iff_not, Bool.not_eq_true', Bool.not_eq_false', Bool.not_eq_eq_eq_not, Bool.not_true, Bool.not_false, Int.not_lt, Int.not_le] at hb)
   obtain ⟨gA, bA, rfl⟩ := hI.addr (by rw [flat_length recC_len]; omega)
   have hn1 := byN_le (l.take i) nm k
   rw [List.length_take] at hn1
   refine GW_skip ?_
   refine GW_seq ?_
   refine GW_block ?_
   refine GW_seq ?_
   refine GW_region ?_
   refine GL_rd (v := .slice _ _ _) (wn_none rfl) rfl (rd_move rfl rfl) ?_
   refine GL_rd (v := .int _ _) (wn_none rfl) rfl (rd_move rfl rfl) ?_
   refine GL_rd (wn_none rfl) rfl (rd_indexS (j := i) rfl rfl rfl Try.underlying22 ts32 rfl (by omega) _ rfl) ?_
   refine GL_rd (wn_none rfl) rfl (rd_field rfl rfl fa32_2 _ rfl) ?_
   refine GL_rd (wn_none rfl) rfl (rd_load rfl rfl Try.underlying9 rfl (Sl.recE (hI.keep hp.mod) i (by first | omega | assumption | exact Nat.lt_succ_self _) (rec_actor _))) ?_
   refine GL_rd (v := .string _) (wn_none rfl) rfl (rd_move rfl rfl) ?_
   refine GL_rd (wn_none rfl) rfl (rd_bin rfl rfl rfl bo_seql) ?_
   refine GL_rd (v := .bool _) (wn_none rfl) rfl (rd_move rfl rfl) ?_
   refine GL_split (t := 22) (b := _) rfl ?_ ?_
   ·intro hb2; (try simp only [decide_eq_true_eq, decide_eq_false_iff_not, Bool.not_eq_true', Bool.not_eq_false', Bool.not_eq_eq_eq_not, Bool.not_true, Bool.not_false, Int.not_lt, Int.not_le] at hb2)
    have h1 := hb2
    refine GL_rd (v := .slice _ _ _) (wn_on rfl rfl rfl rfl) rfl (rd_move rfl rfl) ?_
    refine GL_rd (v := .int _ _) (wn_on rfl rfl rfl rfl) rfl (rd_move rfl rfl) ?_
    refine GL_rd (wn_on rfl rfl rfl rfl) rfl (rd_indexS (j := i) rfl rfl rfl Try.underlying22 ts32 rfl (by omega) _ rfl) ?_
    refine GL_rd (wn_on rfl rfl rfl rfl) rfl (rd_field rfl rfl fa32_0 _ rfl) ?_
    refine GL_rd (wn_on rfl rfl rfl rfl) rfl (rd_load rfl rfl Try.underlying3 rfl (Sl.recE (hI.keep hp.mod) i (by first | omega | assumption | exact Nat.lt_succ_self _) (rec_kind _))) ?_
    refine GL_rd (v := .int _ _) (wn_on rfl rfl rfl rfl) rfl (rd_move rfl rfl) ?_
    refine GL_rd (wn_on rfl rfl rfl rfl) rfl (rd_bin rfl rfl rfl bo_eql) ?_
    refine GL_rd (v := .bool _) (wn_none rfl) rfl (rd_pickT rfl rfl rfl) ?_
    refine GL_nil ?_
    refine GW_cond rfl (fun hb3 => ?_) (fun hb3 => ?_)
    ·(try simp only [decide_eq_true_eq, decide_eq_false_iff_not, Bool.not_eq_true', Bool.not_eq_false', Bool.not_eq_eq_eq_not, Bool.not_true, Bool.not_false, Int.not_lt, Int.not_le] at hb3)
     have e1 : byN (l.take (i + 1)) nm k = byN (l.take i) nm k + 1 := by rw [byN_take (by omega), if_pos ⟨h1, hb3⟩]
     refine GW_region ?_
     refine GL_rd (v := .int _ _) (wn_none rfl) rfl (rd_move rfl rfl) ?_
     refine GL_rd (wn_none rfl) rfl (rd_bin rfl rfl rfl (bo_add64 (by omega))) ?_
     refine GL_rd (v := .int _ _) (wn_none rfl) rfl (rd_assign rfl rfl) ?_
     refine GL_nil ?_
     refine GW_region ?_
     refine GL_rd (v := .int _ _) (wn_none rfl) rfl (rd_move rfl rfl) ?_
     refine GL_rd (wn_none rfl) rfl (rd_bin rfl rfl rfl (bo_add64 (by omega))) ?_
     refine GL_rd (v := .int _ _) (wn_none rfl) rfl (rd_assign rfl rfl) ?_
     refine GL_nil ?_
     exact ihL0 (i + 1) _ _ (by simp only []; omega) ⟨_, slots5 rfl rfl rfl (by rw [e1]; rfl) rfl, hp, by omega⟩
    ·(try simp only [decide_eq_true_eq, decide_eq_false_iff_not, Bool.not_eq_true', Bool.not_eq_false', Bool.not_eq_eq_eq_not, Bool.not_true, Bool.not_false, Int.not_lt, Int.not_le] at hb3)
     have e1 : byN (l.take (i + 1)) nm k = byN (l.take i) nm k := by rw [byN_take (by omega), if_neg (fun q => hb3 q.2)]
     refine GW_skip ?_
     refine GW_region ?_
     refine GL_rd (v := .int _ _) (wn_none rfl) rfl (rd_move rfl rfl) ?_
     refine GL_rd (wn_none rfl) rfl (rd_bin rfl rfl rfl (bo_add64 (by omega))) ?_
     refine GL_rd (v := .int _ _) (wn_none rfl) rfl (rd_assign rfl rfl) ?_
     refine GL_nil ?_
     exact ihL0 (i + 1) _ _ (by simp only []; omega) ⟨_, slots5 rfl rfl rfl (by rw [e1]; rfl) rfl, hp, by omega⟩
   ·intro hb2; (try simp only [decide_eq_true_eq, decide_eq_false_iff_not, Bool.not_eq_true', Bool.not_eq_false', Bool.not_eq_eq_eq_not, Bool.not_true, Bool.not_false, Int.not_lt, Int.not_le] at hb2)
    have e1 : byN (l.take (i + 1)) nm k = byN (l.take i) nm k := by rw [byN_take (by omega), if_neg (fun q => hb2 q.1)]
    refine GL_pass (nw_off rfl rfl rfl rfl rfl) rfl ?_
    refine GL_pass (nw_off rfl rfl rfl rfl rfl) rfl ?_
    refine GL_pass (nw_off rfl rfl rfl rfl rfl) rfl ?_
    refine GL_pass (nw_off rfl rfl rfl rfl rfl) rfl ?_
    refine GL_pass (nw_off rfl rfl rfl rfl rfl) rfl ?_
    refine GL_pass (nw_off rfl rfl rfl rfl rfl) rfl ?_
    refine GL_pass (nw_off rfl rfl rfl rfl rfl) rfl ?_
    refine GL_rd (v := .bool _) (wn_none rfl) rfl (rd_pickF rfl rfl rfl) ?_
    refine GL_nil ?_
    refine GW_false rfl ?_
    refine GW_skip ?_
    refine GW_region ?_
    refine GL_rd (v := .int _ _) (wn_none rfl) rfl (rd_move rfl rfl) ?_
    refine GL_rd (wn_none rfl) rfl (rd_bin rfl rfl rfl (bo_add64 (by omega))) ?_
    refine GL_rd (v := .int _ _) (wn_none rfl) rfl (rd_assign rfl rfl) ?_
    refine GL_nil ?_
    exact ihL0 (i + 1) _ _ (by simp only []; omega) ⟨_, slots5 rfl rfl rfl (by rw [e1]; rfl) rfl, hp, by omega⟩
  ·(try simp only [decide_eq_true_eq, decide_eq_false_iff_not, Bool.not_eq_true', Bool.not_eq_false', Bool.not_eq_eq_eq_not, Bool.not_true, Bool.not_false, Int.not_lt, Int.not_le] at hb)
   refine GW_exit ?_
   refine GW_seq ?_
   refine GW_region ?_
   refine GL_rd (v := .int _ _) (wn_none rfl) rfl (rd_move rfl rfl) ?_
   refine GL_rd (v := .int _ _) (wn_none rfl) rfl (rd_assign rfl rfl) ?_
   refine GL_nil ?_
   refine GW_ret ?_
   obtain rfl : m = i := by omega
   have e0 : l.take m = l := List.take_of_length_le (by omega)
   exact ⟨_, res1 Try.results12 (rv_tmp (v := .int _ _) rfl rfl), by rw [e0], hp⟩
 ·refine ⟨_, slots5 rfl rfl rfl rfl rfl, hp, Nat.zero_le _⟩
set_option maxRecDepth 100000 in
set_option maxHeartbeats 2000000 in
theorem law_HistorySpans (sv : Value) (m : Nat) (l : List Rec) (a : A32) (t : Int) (nm : ByteArray) (w0 : World) (hI : Sl w0 sv 100 m (l.flatMap recC)) : Does Try.prog 3 #[sv, .agg ⟨bys a.1⟩, .int .i64 t, .string nm] w0 fun v w' => v = .bool true ∧ Hp w0 [] w' [] := by
 obtain ⟨A, c, rfl⟩ := sl_shape hI
 have hlm := Sl.recs hI
 have hmle := hI.le
 refine does_of (l := [.slice A m c, .agg ⟨bys a.1⟩, .int .i64 t, .string nm]) Try.func3 (by kernel_rfl) rfl Try.ntmps3 rfl rfl (by kernel_rfl) ?_
 have hp := Hp.refl w0 []
 refine GW_seq ?_
 refine GW_region ?_
 refine GL_box (wn_none rfl) rfl rfl rfl rfl hp ?_
 intro g w hp
 refine GL_rd (v := .bool _) (wn_none rfl) rfl (rd_assign rfl rfl) ?_
 refine GL_nil ?_
 refine GW_seq ?_
 refine GW_seq ?_
 refine GW_region ?_
 refine GL_rd (v := .slice _ _ _) (wn_none rfl) rfl (rd_move rfl rfl) ?_
 refine GL_call (wn_none rfl) rfl rfl (law_alight _ m l _ (hI.keep hp.mod)) rfl ?_
 rintro _ w ⟨rfl, hk⟩
 have hp := hp.comp hk
 refine GL_rd (wn_none rfl) rfl (rd_bin rfl rfl rfl bo_gtr) ?_
 refine GL_rd (v := .bool _) (wn_none rfl) rfl (rd_move rfl rfl) ?_
 refine GL_split (t := 20) (b := _) rfl ?_ ?_
 ·intro hb; (try simp only [decide_eq_true_eq, decide_eq_false_iff_not, Bool.not_eq_true', Bool.not_eq_false', Bool.not_eq_eq_eq_not, Bool.not_true, Bool.not_false, Int.not_lt, Int.not_le] at hb)
  refine GL_pass (nw_off rfl rfl rfl rfl rfl) rfl ?_
  refine GL_pass (nw_off rfl rfl rfl rfl rfl) rfl ?_
  refine GL_rd (v := .bool _) (wn_none rfl) rfl (rd_pickT rfl rfl rfl) ?_
  refine GL_rd (v := .bool _) (wn_none rfl) rfl (rd_move rfl rfl) ?_
  refine GL_pass (nw_off rfl rfl rfl rfl rfl) rfl ?_
  refine GL_pass (nw_off rfl rfl rfl rfl rfl) rfl ?_
  refine GL_rd (v := .bool _) (wn_none rfl) rfl (rd_pickT rfl rfl rfl) ?_
  refine GL_rd (v := .bool _) (wn_none rfl) rfl (rd_move rfl rfl) ?_
  refine GL_pass (nw_off rfl rfl rfl rfl rfl) rfl ?_
  refine GL_pass (nw_off rfl rfl rfl rfl rfl) rfl ?_
  refine GL_pass (nw_off rfl rfl rfl rfl rfl) rfl ?_
  refine GL_rd (v := .bool _) (wn_none rfl) rfl (rd_pickT rfl rfl rfl) ?_
  refine GL_nil ?_
  refine GW_true rfl ?_
  refine GW_seq ?_
  refine GW_region ?_
  refine GL_call (wn_none rfl) rfl rfl (law_hworks _) rfl ?_
  rintro _ w ⟨rfl, hk⟩
  have hp := hp.comp hk
  refine GL_rd (v := .bool _) (wn_none rfl) rfl (rd_assign rfl rfl) ?_
  refine GL_nil ?_
  refine GW_ret ?_
  exact ⟨_, res1 Try.results3 (rv_tmp (v := .bool _) rfl rfl), rfl, hp.mods⟩
 ·intro hb; (try simp only [decide_eq_true_eq, decide_eq_false_iff_not, Bool.not_eq_true', Bool.not_eq_false', Bool.not_eq_eq_eq_not, Bool.not_true, Bool.not_false, Int.not_lt, Int.not_le] at hb)
  have hg1 := light_of hb
  refine GL_rd (v := .int _ _) (wn_on rfl rfl rfl rfl) rfl (rd_move rfl rfl) ?_
  refine GL_rd (wn_on rfl rfl rfl rfl) rfl (rd_bin rfl rfl rfl bo_lss) ?_
  refine GL_rd (v := .bool _) (wn_none rfl) rfl (rd_pickF rfl rfl rfl) ?_
  refine GL_rd (v := .bool _) (wn_none rfl) rfl (rd_move rfl rfl) ?_
  refine GL_split (t := 24) (b := _) rfl ?_ ?_
  ·intro hb2; (try simp only [decide_eq_true_eq, decide_eq_false_iff_not, Bool.not_eq_true', Bool.not_eq_false', Bool.not_eq_eq_eq_not, Bool.not_true, Bool.not_false, Int.not_lt, Int.not_le] at hb2)
   refine GL_pass (nw_off rfl rfl rfl rfl rfl) rfl ?_
   refine GL_pass (nw_off rfl rfl rfl rfl rfl) rfl ?_
   refine GL_rd (v := .bool _) (wn_none rfl) rfl (rd_pickT rfl rfl rfl) ?_
   refine GL_rd (v := .bool _) (wn_none rfl) rfl (rd_move rfl rfl) ?_
   refine GL_pass (nw_off rfl rfl rfl rfl rfl) rfl ?_
   refine GL_pass (nw_off rfl rfl rfl rfl rfl) rfl ?_
   refine GL_pass (nw_off rfl rfl rfl rfl rfl) rfl ?_
   refine GL_rd (v := .bool _) (wn_none rfl) rfl (rd_pickT rfl rfl rfl) ?_
   refine GL_nil ?_
   refine GW_true rfl ?_
   refine GW_seq ?_
   refine GW_region ?_
   refine GL_call (wn_none rfl) rfl rfl (law_hworks _) rfl ?_
   rintro _ w ⟨rfl, hk⟩
   have hp := hp.comp hk
   refine GL_rd (v := .bool _) (wn_none rfl) rfl (rd_assign rfl rfl) ?_
   refine GL_nil ?_
   refine GW_ret ?_
   exact ⟨_, res1 Try.results3 (rv_tmp (v := .bool _) rfl rfl), rfl, hp.mods⟩
  ·intro hb2; (try simp only [decide_eq_true_eq, decide_eq_false_iff_not, Bool.not_eq_true', Bool.not_eq_false', Bool.not_eq_eq_eq_not, Bool.not_true, Bool.not_false, Int.not_lt, Int.not_le] at hb2)
   have ht1 := hb2
   refine GL_rd (v := .int _ _) (wn_on rfl rfl rfl rfl) rfl (rd_move rfl rfl) ?_
   refine GL_rd (wn_on rfl rfl rfl rfl) rfl (rd_bin rfl rfl rfl bo_gtr) ?_
   refine GL_rd (v := .bool _) (wn_none rfl) rfl (rd_pickF rfl rfl rfl) ?_
   refine GL_rd (v := .bool _) (wn_none rfl) rfl (rd_move rfl rfl) ?_
   refine GL_split (t := 28) (b := _) rfl ?_ ?_
   ·intro hb3; (try simp only [decide_eq_true_eq, decide_eq_false_iff_not, Bool.not_eq_true', Bool.not_eq_false', Bool.not_eq_eq_eq_not, Bool.not_true, Bool.not_false, Int.not_lt, Int.not_le] at hb3)
    refine GL_pass (nw_off rfl rfl rfl rfl rfl) rfl ?_
    refine GL_pass (nw_off rfl rfl rfl rfl rfl) rfl ?_
    refine GL_pass (nw_off rfl rfl rfl rfl rfl) rfl ?_
    refine GL_rd (v := .bool _) (wn_none rfl) rfl (rd_pickT rfl rfl rfl) ?_
    refine GL_nil ?_
    refine GW_true rfl ?_
    refine GW_seq ?_
    refine GW_region ?_
    refine GL_call (wn_none rfl) rfl rfl (law_hworks _) rfl ?_
    rintro _ w ⟨rfl, hk⟩
    have hp := hp.comp hk
    refine GL_rd (v := .bool _) (wn_none rfl) rfl (rd_assign rfl rfl) ?_
    refine GL_nil ?_
    refine GW_ret ?_
    exact ⟨_, res1 Try.results3 (rv_tmp (v := .bool _) rfl rfl), rfl, hp.mods⟩
   ·intro hb3; (try simp only [decide_eq_true_eq, decide_eq_false_iff_not, Bool.not_eq_true', Bool.not_eq_false', Bool.not_eq_eq_eq_not, Bool.not_true, Bool.not_false, Int.not_lt, Int.not_le] at hb3)
    have ht2 := hb3
    refine GL_rd (v := .string _) (wn_on rfl rfl rfl rfl) rfl (rd_move rfl rfl) ?_
    refine GL_rd (wn_on rfl rfl rfl rfl) rfl (rd_lenS rfl rfl Try.underlying9) ?_
    refine GL_rd (wn_on rfl rfl rfl rfl) rfl (rd_bin rfl rfl rfl bo_gtr) ?_
    refine GL_rd (v := .bool _) (wn_none rfl) rfl (rd_pickF rfl rfl rfl) ?_
    refine GL_nil ?_
    refine GW_cond rfl (fun hb4 => ?_) (fun hb4 => ?_)
    ·(try simp only [decide_eq_true_eq, decide_eq_false_iff_not, Bool.not_eq_true', Bool.not_eq_false', Bool.not_eq_eq_eq_not, Bool.not_true, Bool.not_false, Int.not_lt, Int.not_le] at hb4)
     refine GW_seq ?_
     refine GW_region ?_
     refine GL_call (wn_none rfl) rfl rfl (law_hworks _) rfl ?_
     rintro _ w ⟨rfl, hk⟩
     have hp := hp.comp hk
     refine GL_rd (v := .bool _) (wn_none rfl) rfl (rd_assign rfl rfl) ?_
     refine GL_nil ?_
     refine GW_ret ?_
     exact ⟨_, res1 Try.results3 (rv_tmp (v := .bool _) rfl rfl), rfl, hp.mods⟩
    ·(try simp only [decide_eq_true_eq, decide_eq_false_iff_not, Bool.not_eq_true', Bool.not_eq_false', Bool.not_eq_eq_eq_not, Bool.not_true, Bool.not_false, Int.not_lt, Int.not_le] at hb4)
     refine GW_skip ?_
     refine GW_seq ?_
     refine GW_region ?_
     refine GL_rd (v := .slice _ _ _) (wn_none rfl) rfl (rd_move rfl rfl) ?_
     refine GL_rd (v := .string _) (wn_none rfl) rfl (rd_move rfl rfl) ?_
     refine GL_call (wn_none rfl) rfl rfl (his_By _ m l nm _ (hI.keep hp.mod) (by omega)) rfl ?_
     rintro _ w ⟨rfl, hk⟩
     have hp := hp.comp hk
     refine GL_alloc (wn_none rfl) rfl rfl tz26 rfl hp ?_
     intro g2 w hp
     refine GL_store (i := 0) (wn_none rfl) rfl rfl rfl rfl ts26 rfl rfl (oneC rfl (oneC rfl (oneC rfl (oneC rfl (oneC rfl (oneC rfl one0)))))) hp rfl (by first | exact Nat.le_of_ble_eq_true rfl | simp [bys_length, *]) (show splice _ _ _ = byC l nm from rfl) ?_
     intro w hp
     refine GL_nil ?_
     refine GW_seq ?_
     refine GW_seq ?_
     refine GW_region ?_
     refine GL_rd (v := .int _ _) (wn_none rfl) rfl (rd_assign rfl rfl) ?_
     refine GL_nil ?_
     refine GW_block ?_
     refine GW_loop ?_
     refine Lp_ind (α := Nat) (fun a_0 f_0 w' => match a_0 with | k => ∃ fz, f_0 = (upd (upd (upd (upd (upd (upd fz 0 (.slice A m c)) 2 (.int .i64 t)) 3 (.string nm)) 5 (.pointer (some ⟨g, 0, none⟩))) 9 (.pointer (some ⟨g2, 0, none⟩))) 10 (.int .i64 (k : Int))) ∧ Hp w0 [] w' [cells g2 26 (byC l nm), cells g 23 (bys a.1)] ∧ (k ≤ 6)) (fun a_0 => match a_0 with | k => 6 - k) ?_ 0 _ _ ?_
     ·rintro k f wz ⟨fz, rfl, hp, hk0⟩ ihL0
      refine Lp_round ?_
      refine GW_seq ?_
      refine GW_seq ?_
      refine GW_region ?_
      refine GL_rd (v := .int _ _) (wn_none rfl) rfl (rd_move rfl rfl) ?_
      refine GL_rd (wn_none rfl) rfl (rd_bin rfl rfl rfl bo_lss) ?_
      refine GL_nil ?_
      refine GW_cond rfl (fun hb5 => ?_) (fun hb5 => ?_)
      ·(try simp only [decide_eq_true_eq, decide_eq_false_iff_not, Bool.not_eq_true', Bool.not_eq_false', Bool.not_eq_eq_eq_not, Bool.not_true, Bool.not_false, Int.not_lt, Int.not_le] at hb5)
       refine GW_skip ?_
       refine GW_seq ?_
       refine GW_block ?_
       refine GW_seq ?_
       rcases (show k = 0 ∨ k = 1 ∨ k = 2 ∨ k = 3 ∨ k = 4 ∨ k = 5 by omega) with rfl | rfl | rfl | rfl | rfl | rfl
       ·
        refine GW_drawnK 8 (.one 0 true (.one 1 true (.one 2 true (.one 3 true (.one 4 true (.one 5 true (.one 6 false (.one 7 true .nil)))))))) mixed (by kernel_rfl) hp (fun _ h => h) fun w hp => ?_
        have hpS := hp
        refine GO_rdT (v := .int _ _) rfl (wn_none rfl) rfl (fun w => (rd_move rfl rfl)) ?_
        refine GO_rdT rfl (wn_none rfl) rfl (fun w => (rd_indexA (j := 0) rfl rfl rfl Try.underlying26 ts3 rfl (by decide) _ rfl)) ?_
        refine GO_rd rfl rfl (wn_none rfl) rfl hpS (fun w hp => (rd_load rfl rfl Try.underlying3 rfl ((cell_of_cells (hp.get 0 rfl) _).trans (show (byC l nm)[_]? = some (Value.int .i64 (byN l nm 0 : Int)) from rfl)))) ?_
        refine GO_rdT (v := .slice _ _ _) rfl (wn_none rfl) rfl (fun w => (rd_move rfl rfl)) ?_
        refine GO_rdT (v := .string _) rfl (wn_none rfl) rfl (fun w => (rd_move rfl rfl)) ?_
        refine GO_rdT (v := .int _ _) rfl (wn_none rfl) rfl (fun w => (rd_move rfl rfl)) ?_
        refine GO_of_GL rfl ?_
        refine GL_call (wn_none rfl) rfl rfl (ref_By _ m l nm 0 _ (hI.keep hp.mod) (by omega)) rfl ?_
        rintro _ w ⟨rfl, hk⟩
        have hp := hp.comp hk
        have hpS2 := hp
        refine GL_nil ⟨fun _ => hpS2, ?_⟩
        refine GO_rd rfl rfl (wn_none rfl) rfl hpS2 (fun w hp => (rd_bin rfl rfl rfl (bo_neqS rfl))) ?_
        refine GO_nil ?_
        refine GW_false rfl ?_
        refine GW_skip ?_
        refine GW_region ?_
        refine GL_rd (v := .int _ _) (wn_none rfl) rfl (rd_move rfl rfl) ?_
        refine GL_rd (wn_none rfl) rfl (rd_bin rfl rfl rfl (bo_add64 (by omega))) ?_
        refine GL_rd (v := .int _ _) (wn_none rfl) rfl (rd_assign rfl rfl) ?_
        refine GL_nil ?_
        have hp := (((hp.front 1 rfl).front 1 rfl).take 2)
        exact ihL0 (0 + 1) _ _ (by simp only []; omega) ⟨_, slots6 rfl rfl rfl rfl rfl rfl, hp, by omega⟩
       ·
        refine GW_drawnK 8 (.one 0 true (.one 1 true (.one 2 true (.one 3 true (.one 4 true (.one 5 true (.one 6 false (.one 7 true .nil)))))))) mixed (by kernel_rfl) hp (fun _ h => h) fun w hp => ?_
        have hpS3 := hp
        refine GO_rdT (v := .int _ _) rfl (wn_none rfl) rfl (fun w => (rd_move rfl rfl)) ?_
        refine GO_rdT rfl (wn_none rfl) rfl (fun w => (rd_indexA (j := 1) rfl rfl rfl Try.underlying26 ts3 rfl (by decide) _ rfl)) ?_
        refine GO_rd rfl rfl (wn_none rfl) rfl hpS3 (fun w hp => (rd_load rfl rfl Try.underlying3 rfl ((cell_of_cells (hp.get 0 rfl) _).trans (show (byC l nm)[_]? = some (Value.int .i64 (byN l nm 1 : Int)) from rfl)))) ?_
        refine GO_rdT (v := .slice _ _ _) rfl (wn_none rfl) rfl (fun w => (rd_move rfl rfl)) ?_
        refine GO_rdT (v := .string _) rfl (wn_none rfl) rfl (fun w => (rd_move rfl rfl)) ?_
        refine GO_rdT (v := .int _ _) rfl (wn_none rfl) rfl (fun w => (rd_move rfl rfl)) ?_
        refine GO_of_GL rfl ?_
        refine GL_call (wn_none rfl) rfl rfl (ref_By _ m l nm 1 _ (hI.keep hp.mod) (by omega)) rfl ?_
        rintro _ w ⟨rfl, hk⟩
        have hp := hp.comp hk
        have hpS4 := hp
        refine GL_nil ⟨fun _ => hpS4, ?_⟩
        refine GO_rd rfl rfl (wn_none rfl) rfl hpS4 (fun w hp => (rd_bin rfl rfl rfl (bo_neqS rfl))) ?_
        refine GO_nil ?_
        refine GW_false rfl ?_
        refine GW_skip ?_
        refine GW_region ?_
        refine GL_rd (v := .int _ _) (wn_none rfl) rfl (rd_move rfl rfl) ?_
        refine GL_rd (wn_none rfl) rfl (rd_bin rfl rfl rfl (bo_add64 (by omega))) ?_
        refine GL_rd (v := .int _ _) (wn_none rfl) rfl (rd_assign rfl rfl) ?_
        refine GL_nil ?_
        have hp := (((hp.front 1 rfl).front 1 rfl).take 2)
        exact ihL0 (1 + 1) _ _ (by simp only []; omega) ⟨_, slots6 rfl rfl rfl rfl rfl rfl, hp, by omega⟩
       ·
        refine GW_drawnK 8 (.one 0 true (.one 1 true (.one 2 true (.one 3 true (.one 4 true (.one 5 true (.one 6 false (.one 7 true .nil)))))))) mixed (by kernel_rfl) hp (fun _ h => h) fun w hp => ?_
        have hpS5 := hp
        refine GO_rdT (v := .int _ _) rfl (wn_none rfl) rfl (fun w => (rd_move rfl rfl)) ?_
        refine GO_rdT rfl (wn_none rfl) rfl (fun w => (rd_indexA (j := 2) rfl rfl rfl Try.underlying26 ts3 rfl (by decide) _ rfl)) ?_
        refine GO_rd rfl rfl (wn_none rfl) rfl hpS5 (fun w hp => (rd_load rfl rfl Try.underlying3 rfl ((cell_of_cells (hp.get 0 rfl) _).trans (show (byC l nm)[_]? = some (Value.int .i64 (byN l nm 2 : Int)) from rfl)))) ?_
        refine GO_rdT (v := .slice _ _ _) rfl (wn_none rfl) rfl (fun w => (rd_move rfl rfl)) ?_
        refine GO_rdT (v := .string _) rfl (wn_none rfl) rfl (fun w => (rd_move rfl rfl)) ?_
        refine GO_rdT (v := .int _ _) rfl (wn_none rfl) rfl (fun w => (rd_move rfl rfl)) ?_
        refine GO_of_GL rfl ?_
        refine GL_call (wn_none rfl) rfl rfl (ref_By _ m l nm 2 _ (hI.keep hp.mod) (by omega)) rfl ?_
        rintro _ w ⟨rfl, hk⟩
        have hp := hp.comp hk
        have hpS6 := hp
        refine GL_nil ⟨fun _ => hpS6, ?_⟩
        refine GO_rd rfl rfl (wn_none rfl) rfl hpS6 (fun w hp => (rd_bin rfl rfl rfl (bo_neqS rfl))) ?_
        refine GO_nil ?_
        refine GW_false rfl ?_
        refine GW_skip ?_
        refine GW_region ?_
        refine GL_rd (v := .int _ _) (wn_none rfl) rfl (rd_move rfl rfl) ?_
        refine GL_rd (wn_none rfl) rfl (rd_bin rfl rfl rfl (bo_add64 (by omega))) ?_
        refine GL_rd (v := .int _ _) (wn_none rfl) rfl (rd_assign rfl rfl) ?_
        refine GL_nil ?_
        have hp := (((hp.front 1 rfl).front 1 rfl).take 2)
        exact ihL0 (2 + 1) _ _ (by simp only []; omega) ⟨_, slots6 rfl rfl rfl rfl rfl rfl, hp, by omega⟩
       ·
        refine GW_drawnK 8 (.one 0 true (.one 1 true (.one 2 true (.one 3 true (.one 4 true (.one 5 true (.one 6 false (.one 7 true .nil)))))))) mixed (by kernel_rfl) hp (fun _ h => h) fun w hp => ?_
        have hpS7 := hp
        refine GO_rdT (v := .int _ _) rfl (wn_none rfl) rfl (fun w => (rd_move rfl rfl)) ?_
        refine GO_rdT rfl (wn_none rfl) rfl (fun w => (rd_indexA (j := 3) rfl rfl rfl Try.underlying26 ts3 rfl (by decide) _ rfl)) ?_
        refine GO_rd rfl rfl (wn_none rfl) rfl hpS7 (fun w hp => (rd_load rfl rfl Try.underlying3 rfl ((cell_of_cells (hp.get 0 rfl) _).trans (show (byC l nm)[_]? = some (Value.int .i64 (byN l nm 3 : Int)) from rfl)))) ?_
        refine GO_rdT (v := .slice _ _ _) rfl (wn_none rfl) rfl (fun w => (rd_move rfl rfl)) ?_
        refine GO_rdT (v := .string _) rfl (wn_none rfl) rfl (fun w => (rd_move rfl rfl)) ?_
        refine GO_rdT (v := .int _ _) rfl (wn_none rfl) rfl (fun w => (rd_move rfl rfl)) ?_
        refine GO_of_GL rfl ?_
        refine GL_call (wn_none rfl) rfl rfl (ref_By _ m l nm 3 _ (hI.keep hp.mod) (by omega)) rfl ?_
        rintro _ w ⟨rfl, hk⟩
        have hp := hp.comp hk
        have hpS8 := hp
        refine GL_nil ⟨fun _ => hpS8, ?_⟩
        refine GO_rd rfl rfl (wn_none rfl) rfl hpS8 (fun w hp => (rd_bin rfl rfl rfl (bo_neqS rfl))) ?_
        refine GO_nil ?_
        refine GW_false rfl ?_
        refine GW_skip ?_
        refine GW_region ?_
        refine GL_rd (v := .int _ _) (wn_none rfl) rfl (rd_move rfl rfl) ?_
        refine GL_rd (wn_none rfl) rfl (rd_bin rfl rfl rfl (bo_add64 (by omega))) ?_
        refine GL_rd (v := .int _ _) (wn_none rfl) rfl (rd_assign rfl rfl) ?_
        refine GL_nil ?_
        have hp := (((hp.front 1 rfl).front 1 rfl).take 2)
        exact ihL0 (3 + 1) _ _ (by simp only []; omega) ⟨_, slots6 rfl rfl rfl rfl rfl rfl, hp, by omega⟩
       ·
        refine GW_drawnK 8 (.one 0 true (.one 1 true (.one 2 true (.one 3 true (.one 4 true (.one 5 true (.one 6 false (.one 7 true .nil)))))))) mixed (by kernel_rfl) hp (fun _ h => h) fun w hp => ?_
        have hpS9 := hp
        refine GO_rdT (v := .int _ _) rfl (wn_none rfl) rfl (fun w => (rd_move rfl rfl)) ?_
        refine GO_rdT rfl (wn_none rfl) rfl (fun w => (rd_indexA (j := 4) rfl rfl rfl Try.underlying26 ts3 rfl (by decide) _ rfl)) ?_
        refine GO_rd rfl rfl (wn_none rfl) rfl hpS9 (fun w hp => (rd_load rfl rfl Try.underlying3 rfl ((cell_of_cells (hp.get 0 rfl) _).trans (show (byC l nm)[_]? = some (Value.int .i64 (byN l nm 4 : Int)) from rfl)))) ?_
        refine GO_rdT (v := .slice _ _ _) rfl (wn_none rfl) rfl (fun w => (rd_move rfl rfl)) ?_
        refine GO_rdT (v := .string _) rfl (wn_none rfl) rfl (fun w => (rd_move rfl rfl)) ?_
        refine GO_rdT (v := .int _ _) rfl (wn_none rfl) rfl (fun w => (rd_move rfl rfl)) ?_
        refine GO_of_GL rfl ?_
        refine GL_call (wn_none rfl) rfl rfl (ref_By _ m l nm 4 _ (hI.keep hp.mod) (by omega)) rfl ?_
        rintro _ w ⟨rfl, hk⟩
        have hp := hp.comp hk
        have hpS10 := hp
        refine GL_nil ⟨fun _ => hpS10, ?_⟩
        refine GO_rd rfl rfl (wn_none rfl) rfl hpS10 (fun w hp => (rd_bin rfl rfl rfl (bo_neqS rfl))) ?_
        refine GO_nil ?_
        refine GW_false rfl ?_
        refine GW_skip ?_
        refine GW_region ?_
        refine GL_rd (v := .int _ _) (wn_none rfl) rfl (rd_move rfl rfl) ?_
        refine GL_rd (wn_none rfl) rfl (rd_bin rfl rfl rfl (bo_add64 (by omega))) ?_
        refine GL_rd (v := .int _ _) (wn_none rfl) rfl (rd_assign rfl rfl) ?_
        refine GL_nil ?_
        have hp := (((hp.front 1 rfl).front 1 rfl).take 2)
        exact ihL0 (4 + 1) _ _ (by simp only []; omega) ⟨_, slots6 rfl rfl rfl rfl rfl rfl, hp, by omega⟩
       ·
        refine GW_drawnK 8 (.one 0 true (.one 1 true (.one 2 true (.one 3 true (.one 4 true (.one 5 true (.one 6 false (.one 7 true .nil)))))))) mixed (by kernel_rfl) hp (fun _ h => h) fun w hp => ?_
        have hpS11 := hp
        refine GO_rdT (v := .int _ _) rfl (wn_none rfl) rfl (fun w => (rd_move rfl rfl)) ?_
        refine GO_rdT rfl (wn_none rfl) rfl (fun w => (rd_indexA (j := 5) rfl rfl rfl Try.underlying26 ts3 rfl (by decide) _ rfl)) ?_
        refine GO_rd rfl rfl (wn_none rfl) rfl hpS11 (fun w hp => (rd_load rfl rfl Try.underlying3 rfl ((cell_of_cells (hp.get 0 rfl) _).trans (show (byC l nm)[_]? = some (Value.int .i64 (byN l nm 5 : Int)) from rfl)))) ?_
        refine GO_rdT (v := .slice _ _ _) rfl (wn_none rfl) rfl (fun w => (rd_move rfl rfl)) ?_
        refine GO_rdT (v := .string _) rfl (wn_none rfl) rfl (fun w => (rd_move rfl rfl)) ?_
        refine GO_rdT (v := .int _ _) rfl (wn_none rfl) rfl (fun w => (rd_move rfl rfl)) ?_
        refine GO_of_GL rfl ?_
        refine GL_call (wn_none rfl) rfl rfl (ref_By _ m l nm 5 _ (hI.keep hp.mod) (by omega)) rfl ?_
        rintro _ w ⟨rfl, hk⟩
        have hp := hp.comp hk
        have hpS12 := hp
        refine GL_nil ⟨fun _ => hpS12, ?_⟩
        refine GO_rd rfl rfl (wn_none rfl) rfl hpS12 (fun w hp => (rd_bin rfl rfl rfl (bo_neqS rfl))) ?_
        refine GO_nil ?_
        refine GW_false rfl ?_
        refine GW_skip ?_
        refine GW_region ?_
        refine GL_rd (v := .int _ _) (wn_none rfl) rfl (rd_move rfl rfl) ?_
        refine GL_rd (wn_none rfl) rfl (rd_bin rfl rfl rfl (bo_add64 (by omega))) ?_
        refine GL_rd (v := .int _ _) (wn_none rfl) rfl (rd_assign rfl rfl) ?_
        refine GL_nil ?_
        have hp := (((hp.front 1 rfl).front 1 rfl).take 2)
        exact ihL0 (5 + 1) _ _ (by simp only []; omega) ⟨_, slots6 rfl rfl rfl rfl rfl rfl, hp, by omega⟩
      ·(try simp only [decide_eq_true_eq, decide_eq_false_iff_not, Bool.not_eq_true', Bool.not_eq_false', Bool.not_eq_eq_eq_not, Bool.not_true, Bool.not_false, Int.not_lt, Int.not_le] at hb5)
       refine GW_exit ?_
       refine GW_seq ?_
       refine GW_region ?_
       refine GL_rd (v := .slice _ _ _) (wn_none rfl) rfl (rd_move rfl rfl) ?_
       refine GL_call (wn_none rfl) rfl rfl (his_Actors _ m l _ (hI.keep hp.mod) (by omega)) rfl ?_
       intro va w hk
       have hp := hp.comp hk
       obtain ⟨Aa, ca, rfl⟩ := row_shape (hp.get 0 rfl)
       refine GL_rd (v := .slice _ _ _) (wn_none rfl) rfl (rd_assign rfl rfl) ?_
       refine GL_nil ?_
       refine GW_seq ?_
       refine GW_seq ?_
       refine GW_region ?_
       refine GL_rd (v := .int _ _) (wn_none rfl) rfl (rd_assign rfl rfl) ?_
       refine GL_nil ?_
       refine GW_block ?_
       refine GW_loop ?_
       refine Lp_ind (α := Nat × Option Addr) (fun a_0 f_0 w' => match a_0 with | (i, Aa) => ∃ fz, f_0 = (upd (upd (upd (upd (upd fz 0 (.slice A m c)) 2 (.int .i64 t)) 5 (.pointer (some ⟨g, 0, none⟩))) 11 (.slice Aa (actL l).length ca)) 12 (.int .i64 (i : Int))) ∧ Hp w0 [] w' [.row 9 1 (.slice Aa (actL l).length ca) ((actL l)).length (((actL l)).map Value.string), cells g 23 (bys a.1)] ∧ (i ≤ (actL l).length)) (fun a_0 => match a_0 with | (i, Aa) => (actL l).length - i) ?_ (0, Aa) _ _ ?_
       ·rintro ⟨i, Aa⟩ f wz ⟨fz, rfl, hp, hi0⟩ ihL1
        have hal := actL_len l
        refine Lp_round ?_
        refine GW_seq ?_
        refine GW_seq ?_
        refine GW_region ?_
        refine GL_rd (v := .int _ _) (wn_none rfl) rfl (rd_move rfl rfl) ?_
        refine GL_rd (v := .slice _ _ _) (wn_none rfl) rfl (rd_move rfl rfl) ?_
        refine GL_rd (wn_none rfl) rfl (rd_len rfl rfl Try.underlying29) ?_
        refine GL_rd (wn_none rfl) rfl (rd_bin rfl rfl rfl bo_lss) ?_
        refine GL_nil ?_
        refine GW_cond rfl (fun hb6 => ?_) (fun hb6 => ?_)
        ·(try simp only [decide_eq_true_eq, decide_eq_false_iff_not, Bool.not_eq_true', Bool.not_eq_false', Bool.not_eq_eq_eq_not, Bool.not_true, Bool.not_false, Int.not_lt, Int.not_le] at hb6)
         obtain ⟨gv, bv, rfl⟩ := (Sl.row (hp.get 0 rfl)).addr (by rw [List.length_map]; omega)
         refine GW_skip ?_
         refine GW_seq ?_
         refine GW_block ?_
         refine GW_seq ?_
         refine GW_drawnK 14 (.one 0 true (.one 1 true (.one 2 true (.one 3 true (.one 4 true (.one 5 true (.one 6 true (.one 7 true (.one 8 true (.one 9 true (.one 10 true (.one 11 true (.one 12 true (.one 13 true .nil)))))))))))))) mixed (by kernel_rfl) hp (fun _ h => h) fun w hp => ?_
         have hpS13 := hp
         refine GO_rdT (v := .int _ _) rfl (wn_none rfl) rfl (fun w => (rd_move rfl rfl)) ?_
         refine GO_rd rfl rfl (wn_none rfl) rfl hpS13 (fun w hp => (rd_bin rfl rfl rfl bo_gtr)) ?_
         refine GO_rdT (v := .bool _) rfl (wn_none rfl) rfl (fun w => (rd_move rfl rfl)) ?_
         refine GO_split (t := 59) (b := _) rfl ?_ ?_
         ·intro hb7; (try simp only [decide_eq_true_eq, decide_eq_false_iff_not, Bool.not_eq_true', Bool.not_eq_false', Bool.not_eq_eq_eq_not, Bool.not_true, Bool.not_false, Int.not_lt, Int.not_le] at hb7)
          refine GO_rdT (v := .slice _ _ _) rfl (wn_on rfl rfl rfl rfl) rfl (fun w => (rd_move rfl rfl)) ?_
          refine GO_rdT (v := .int _ _) rfl (wn_on rfl rfl rfl rfl) rfl (fun w => (rd_move rfl rfl)) ?_
          refine GO_rd rfl rfl (wn_on rfl rfl rfl rfl) rfl hpS13 (fun w hp => (rd_bin rfl rfl rfl (bo_sub64 (by omega)))) ?_
          refine GO_rdT rfl (wn_on rfl rfl rfl rfl) rfl (fun w => (rd_indexS (j := (i - 1)) rfl rfl rfl Try.underlying29 ts9 (by omega) (by omega) _ rfl)) ?_
          refine GO_rd rfl rfl (wn_on rfl rfl rfl rfl) rfl hpS13 (fun w hp => (rd_load rfl rfl Try.underlying9 rfl ((Sl.row (hp.get 0 rfl)).get _ _ (strAt_cell (l := (actL l)) (i := (i - 1)) (by omega))))) ?_
          refine GO_rdT (v := .slice _ _ _) rfl (wn_on rfl rfl rfl rfl) rfl (fun w => (rd_move rfl rfl)) ?_
          refine GO_rdT (v := .int _ _) rfl (wn_on rfl rfl rfl rfl) rfl (fun w => (rd_move rfl rfl)) ?_
          refine GO_rdT rfl (wn_on rfl rfl rfl rfl) rfl (fun w => (rd_indexS (j := i) rfl rfl rfl Try.underlying29 ts9 rfl (by omega) _ rfl)) ?_
          refine GO_rd rfl rfl (wn_on rfl rfl rfl rfl) rfl hpS13 (fun w hp => (rd_load rfl rfl Try.underlying9 rfl ((Sl.row (hp.get 0 rfl)).get _ _ (strAt_cell (l := (actL l)) (i := i) (by omega))))) ?_
          refine GO_rd rfl rfl (wn_on rfl rfl rfl rfl) rfl hpS13 (fun w hp => (rd_bin rfl rfl rfl (bo_boolE (q := false) bo_sgeq (by rw [actL_at (by omega) (by omega)]; rfl)))) ?_
          refine GO_rdT (v := .bool _) rfl (wn_none rfl) rfl (fun w => (rd_pickT rfl rfl rfl)) ?_
          refine GO_nil ?_
          refine GW_false rfl ?_
          refine GW_skip ?_
          refine GW_region ?_
          refine GL_rd (v := .int _ _) (wn_none rfl) rfl (rd_move rfl rfl) ?_
          refine GL_rd (wn_none rfl) rfl (rd_bin rfl rfl rfl (bo_add64 (by omega))) ?_
          refine GL_rd (v := .int _ _) (wn_none rfl) rfl (rd_assign rfl rfl) ?_
          refine GL_nil ?_
          have hp := (((hp.front 1 rfl).front 1 rfl).take 2)
          exact ihL1 (i + 1, _) _ _ (by simp only []; omega) ⟨_, slots5 rfl rfl rfl rfl rfl, hp, by omega⟩
         ·intro hb7; (try simp only [decide_eq_true_eq, decide_eq_false_iff_not, Bool.not_eq_true', Bool.not_eq_false', Bool.not_eq_eq_eq_not, Bool.not_true, Bool.not_false, Int.not_lt, Int.not_le] at hb7)
          refine GO_pass rfl (nw_off rfl rfl rfl rfl rfl) rfl ?_
          refine GO_pass rfl (nw_off rfl rfl rfl rfl rfl) rfl ?_
          refine GO_pass rfl (nw_off rfl rfl rfl rfl rfl) rfl ?_
          refine GO_pass rfl (nw_off rfl rfl rfl rfl rfl) rfl ?_
          refine GO_pass rfl (nw_off rfl rfl rfl rfl rfl) rfl ?_
          refine GO_pass rfl (nw_off rfl rfl rfl rfl rfl) rfl ?_
          refine GO_pass rfl (nw_off rfl rfl rfl rfl rfl) rfl ?_
          refine GO_pass rfl (nw_off rfl rfl rfl rfl rfl) rfl ?_
          refine GO_pass rfl (nw_off rfl rfl rfl rfl rfl) rfl ?_
          refine GO_pass rfl (nw_off rfl rfl rfl rfl rfl) rfl ?_
          refine GO_rdT (v := .bool _) rfl (wn_none rfl) rfl (fun w => (rd_pickF rfl rfl rfl)) ?_
          refine GO_nil ?_
          refine GW_false rfl ?_
          refine GW_skip ?_
          refine GW_region ?_
          refine GL_rd (v := .int _ _) (wn_none rfl) rfl (rd_move rfl rfl) ?_
          refine GL_rd (wn_none rfl) rfl (rd_bin rfl rfl rfl (bo_add64 (by omega))) ?_
          refine GL_rd (v := .int _ _) (wn_none rfl) rfl (rd_assign rfl rfl) ?_
          refine GL_nil ?_
          have hp := (((hp.front 1 rfl).front 1 rfl).take 2)
          exact ihL1 (i + 1, _) _ _ (by simp only []; omega) ⟨_, slots5 rfl rfl rfl rfl rfl, hp, by omega⟩
        ·(try simp only [decide_eq_true_eq, decide_eq_false_iff_not, Bool.not_eq_true', Bool.not_eq_false', Bool.not_eq_eq_eq_not, Bool.not_true, Bool.not_false, Int.not_lt, Int.not_le] at hb6)
         refine GW_exit ?_
         refine GW_seq ?_
         refine GW_seq ?_
         refine GW_region ?_
         refine GL_rd (v := .int _ _) (wn_none rfl) rfl (rd_assign rfl rfl) ?_
         refine GL_nil ?_
         refine GW_block ?_
         refine GW_loop ?_
         refine Lp_ind (α := Nat × Option Addr × Option Addr) (fun a_0 f_0 w' => match a_0 with | (i, A, Aa) => ∃ fz, f_0 = (upd (upd (upd (upd (upd fz 0 (.slice A m c)) 2 (.int .i64 t)) 5 (.pointer (some ⟨g, 0, none⟩))) 11 (.slice Aa (actL l).length ca)) 13 (.int .i64 (i : Int))) ∧ Hp w0 [] w' [.row 9 1 (.slice Aa (actL l).length ca) ((actL l)).length (((actL l)).map Value.string), cells g 23 (bys a.1)] ∧ (i ≤ m) ∧ (Sl w0 (.slice A m c) 100 m (l.flatMap recC)) ∧ (∀ j, j < i → 0 ≤ (recAt l j).time ∧ (recAt l j).time ≤ 1099511627776 ∧ (0 < j → (recAt l (j - 1)).time ≤ (recAt l j).time))) (fun a_0 => match a_0 with | (i, A, Aa) => m - i) ?_ (0, A, Aa) _ _ ?_
         ·rintro ⟨i, A, Aa⟩ f wz ⟨fz, rfl, hp, hi0, hI, hr⟩ ihL2
          refine Lp_round ?_
          refine GW_seq ?_
          refine GW_seq ?_
          refine GW_region ?_
          refine GL_rd (v := .int _ _) (wn_none rfl) rfl (rd_move rfl rfl) ?_
          refine GL_rd (v := .slice _ _ _) (wn_none rfl) rfl (rd_move rfl rfl) ?_
          refine GL_rd (wn_none rfl) rfl (rd_len rfl rfl Try.underlying22) ?_
          refine GL_rd (wn_none rfl) rfl (rd_bin rfl rfl rfl bo_lss) ?_
          refine GL_nil ?_
          refine GW_cond rfl (fun hb8 => ?_) (fun hb8 => ?_)
          ·(try simp only [decide_eq_true_eq, decide_eq_false_iff_not, Bool.not_eq_true', Bool.not_eq_false', Bool.not_eq_eq_eq_not, Bool.not_true, Bool.not_false, Int.not_lt, Int.not_le] at hb8)
           obtain ⟨gA, bA, rfl⟩ := hI.addr (by rw [flat_length recC_len]; omega)
           refine GW_skip ?_
           refine GW_seq ?_
           refine GW_block ?_
           refine GW_seq ?_
           refine GW_seq ?_
           refine GW_drawnK 32 (.one 0 true (.one 1 true (.one 2 true (.one 3 true (.one 4 true (.one 5 true (.one 6 true (.one 7 true (.one 8 true (.one 9 true (.one 10 true (.one 11 true (.one 12 true (.one 13 true (.one 14 true (.one 15 true (.one 16 true (.one 17 true (.one 18 true (.one 19 true (.one 20 true (.one 21 true (.one 22 true (.one 23 true (.one 24 true (.one 25 true (.one 26 true (.one 27 true (.one 28 true (.one 29 true (.one 30 true (.one 31 true .nil)))))))))))))))))))))))))))))))) mixed (by kernel_rfl) hp (fun _ h => h) fun w hp => ?_
           have hpS14 := hp
           refine GO_rdT (v := .slice _ _ _) rfl (wn_none rfl) rfl (fun w => (rd_move rfl rfl)) ?_
           refine GO_rdT (v := .int _ _) rfl (wn_none rfl) rfl (fun w => (rd_move rfl rfl)) ?_
           refine GO_rdT rfl (wn_none rfl) rfl (fun w => (rd_indexS (j := i) rfl rfl rfl Try.underlying22 ts32 rfl (by omega) _ rfl)) ?_
           refine GO_rdT rfl (wn_none rfl) rfl (fun w => (rd_field rfl rfl fa32_1 _ rfl)) ?_
           refine GO_rd rfl rfl (wn_none rfl) rfl hpS14 (fun w hp => (rd_load rfl rfl Try.underlying3 rfl (Sl.recE (hI.keep hp.mod) i (by first | omega | assumption | exact Nat.lt_succ_self _) (rec_time _)))) ?_
           refine GO_rd rfl rfl (wn_none rfl) rfl hpS14 (fun w hp => (rd_bin rfl rfl rfl bo_lss)) ?_
           refine GO_rdT (v := .bool _) rfl (wn_none rfl) rfl (fun w => (rd_move rfl rfl)) ?_
           refine GO_split (t := 83) (b := _) rfl ?_ ?_
           ·intro hb9; (try simp only [decide_eq_true_eq, decide_eq_false_iff_not, Bool.not_eq_true', Bool.not_eq_false', Bool.not_eq_eq_eq_not, Bool.not_true, Bool.not_false, Int.not_lt, Int.not_le] at hb9)
            refine GO_pass rfl (nw_off rfl rfl rfl rfl rfl) rfl ?_
            refine GO_pass rfl (nw_off rfl rfl rfl rfl rfl) rfl ?_
            refine GO_pass rfl (nw_off rfl rfl rfl rfl rfl) rfl ?_
            refine GO_pass rfl (nw_off rfl rfl rfl rfl rfl) rfl ?_
            refine GO_pass rfl (nw_off rfl rfl rfl rfl rfl) rfl ?_
            refine GO_pass rfl (nw_off rfl rfl rfl rfl rfl) rfl ?_
            refine GO_rdT (v := .bool _) rfl (wn_none rfl) rfl (fun w => (rd_pickT rfl rfl rfl)) ?_
            refine GO_rdT (v := .bool _) rfl (wn_none rfl) rfl (fun w => (rd_move rfl rfl)) ?_
            refine GO_pass rfl (nw_off rfl rfl rfl rfl rfl) rfl ?_
            refine GO_pass rfl (nw_off rfl rfl rfl rfl rfl) rfl ?_
            refine GO_pass rfl (nw_off rfl rfl rfl rfl rfl) rfl ?_
            refine GO_pass rfl (nw_undef rfl rfl rfl rfl) rfl ?_
            refine GO_pass rfl (nw_undef rfl rfl rfl rfl) rfl ?_
            refine GO_pass rfl (nw_undef rfl rfl rfl rfl) rfl ?_
            refine GO_pass rfl (nw_undef rfl rfl rfl rfl) rfl ?_
            refine GO_pass rfl (nw_undef rfl rfl rfl rfl) rfl ?_
            refine GO_pass rfl (nw_undef rfl rfl rfl rfl) rfl ?_
            refine GO_pass rfl (nw_undef rfl rfl rfl rfl) rfl ?_
            refine GO_pass rfl (nw_undef rfl rfl rfl rfl) rfl ?_
            refine GO_pass rfl (nw_undef rfl rfl rfl rfl) rfl ?_
            refine GO_pass rfl (nw_undef rfl rfl rfl rfl) rfl ?_
            refine GO_pass rfl (nw_undef rfl rfl rfl rfl) rfl ?_
            refine GO_pass rfl (nw_undef rfl rfl rfl rfl) rfl ?_
            refine GO_pass rfl (nw_off rfl rfl rfl rfl rfl) rfl ?_
            refine GO_rdT (v := .bool _) rfl (wn_none rfl) rfl (fun w => (rd_pickT rfl rfl rfl)) ?_
            refine GO_nil ?_
            refine GW_true rfl ?_
            refine GW_seq ?_
            refine GW_region ?_
            refine GL_call (wn_none rfl) rfl rfl (law_hworks _) rfl ?_
            rintro _ w ⟨rfl, hk⟩
            have hp := hp.comp hk
            refine GL_rd (v := .bool _) (wn_none rfl) rfl (rd_assign rfl rfl) ?_
            refine GL_nil ?_
            refine GW_ret ?_
            exact ⟨_, res1 Try.results3 (rv_tmp (v := .bool _) rfl rfl), rfl, hp.mods⟩
           ·intro hb9; (try simp only [decide_eq_true_eq, decide_eq_false_iff_not, Bool.not_eq_true', Bool.not_eq_false', Bool.not_eq_eq_eq_not, Bool.not_true, Bool.not_false, Int.not_lt, Int.not_le] at hb9)
            have h1 := hb9
            refine GO_rdT (v := .slice _ _ _) rfl (wn_on rfl rfl rfl rfl) rfl (fun w => (rd_move rfl rfl)) ?_
            refine GO_rdT (v := .int _ _) rfl (wn_on rfl rfl rfl rfl) rfl (fun w => (rd_move rfl rfl)) ?_
            refine GO_rdT rfl (wn_on rfl rfl rfl rfl) rfl (fun w => (rd_indexS (j := i) rfl rfl rfl Try.underlying22 ts32 rfl (by omega) _ rfl)) ?_
            refine GO_rdT rfl (wn_on rfl rfl rfl rfl) rfl (fun w => (rd_field rfl rfl fa32_1 _ rfl)) ?_
            refine GO_rd rfl rfl (wn_on rfl rfl rfl rfl) rfl hpS14 (fun w hp => (rd_load rfl rfl Try.underlying3 rfl (Sl.recE (hI.keep hp.mod) i (by first | omega | assumption | exact Nat.lt_succ_self _) (rec_time _)))) ?_
            refine GO_rd rfl rfl (wn_on rfl rfl rfl rfl) rfl hpS14 (fun w hp => (rd_bin rfl rfl rfl bo_gtr)) ?_
            refine GO_rdT (v := .bool _) rfl (wn_none rfl) rfl (fun w => (rd_pickF rfl rfl rfl)) ?_
            refine GO_rdT (v := .bool _) rfl (wn_none rfl) rfl (fun w => (rd_move rfl rfl)) ?_
            refine GO_split (t := 91) (b := _) rfl ?_ ?_
            ·intro hb10; (try simp only [decide_eq_true_eq, decide_eq_false_iff_not, Bool.not_eq_true', Bool.not_eq_false', Bool.not_eq_eq_eq_not, Bool.not_true, Bool.not_false, Int.not_lt, Int.not_le] at hb10)
             refine GO_pass rfl (nw_off rfl rfl rfl rfl rfl) rfl ?_
             refine GO_pass rfl (nw_off rfl rfl rfl rfl rfl) rfl ?_
             refine GO_pass rfl (nw_off rfl rfl rfl rfl rfl) rfl ?_
             refine GO_pass rfl (nw_undef rfl rfl rfl rfl) rfl ?_
             refine GO_pass rfl (nw_undef rfl rfl rfl rfl) rfl ?_
             refine GO_pass rfl (nw_undef rfl rfl rfl rfl) rfl ?_
             refine GO_pass rfl (nw_undef rfl rfl rfl rfl) rfl ?_
             refine GO_pass rfl (nw_undef rfl rfl rfl rfl) rfl ?_
             refine GO_pass rfl (nw_undef rfl rfl rfl rfl) rfl ?_
             refine GO_pass rfl (nw_undef rfl rfl rfl rfl) rfl ?_
             refine GO_pass rfl (nw_undef rfl rfl rfl rfl) rfl ?_
             refine GO_pass rfl (nw_undef rfl rfl rfl rfl) rfl ?_
             refine GO_pass rfl (nw_undef rfl rfl rfl rfl) rfl ?_
             refine GO_pass rfl (nw_undef rfl rfl rfl rfl) rfl ?_
             refine GO_pass rfl (nw_undef rfl rfl rfl rfl) rfl ?_
             refine GO_pass rfl (nw_off rfl rfl rfl rfl rfl) rfl ?_
             refine GO_rdT (v := .bool _) rfl (wn_none rfl) rfl (fun w => (rd_pickT rfl rfl rfl)) ?_
             refine GO_nil ?_
             refine GW_true rfl ?_
             refine GW_seq ?_
             refine GW_region ?_
             refine GL_call (wn_none rfl) rfl rfl (law_hworks _) rfl ?_
             rintro _ w ⟨rfl, hk⟩
             have hp := hp.comp hk
             refine GL_rd (v := .bool _) (wn_none rfl) rfl (rd_assign rfl rfl) ?_
             refine GL_nil ?_
             refine GW_ret ?_
             exact ⟨_, res1 Try.results3 (rv_tmp (v := .bool _) rfl rfl), rfl, hp.mods⟩
            ·intro hb10; (try simp only [decide_eq_true_eq, decide_eq_false_iff_not, Bool.not_eq_true', Bool.not_eq_false', Bool.not_eq_eq_eq_not, Bool.not_true, Bool.not_false, Int.not_lt, Int.not_le] at hb10)
             have h2 := hb10
             refine GO_rdT (v := .int _ _) rfl (wn_on rfl rfl rfl rfl) rfl (fun w => (rd_move rfl rfl)) ?_
             refine GO_rd rfl rfl (wn_on rfl rfl rfl rfl) rfl hpS14 (fun w hp => (rd_bin rfl rfl rfl bo_gtr)) ?_
             refine GO_rdT (v := .bool _) rfl (wn_on rfl rfl rfl rfl) rfl (fun w => (rd_move rfl rfl)) ?_
             refine GO_split (t := 94) (b := _) rfl ?_ ?_
             ·intro hb11; (try simp only [decide_eq_true_eq, decide_eq_false_iff_not, Bool.not_eq_true', Bool.not_eq_false', Bool.not_eq_eq_eq_not, Bool.not_true, Bool.not_false, Int.not_lt, Int.not_le] at hb11)
              refine GO_rdT (v := .slice _ _ _) rfl (wn_on rfl rfl rfl rfl) rfl (fun w => (rd_move rfl rfl)) ?_
              refine GO_rdT (v := .int _ _) rfl (wn_on rfl rfl rfl rfl) rfl (fun w => (rd_move rfl rfl)) ?_
              refine GO_rdT rfl (wn_on rfl rfl rfl rfl) rfl (fun w => (rd_indexS (j := i) rfl rfl rfl Try.underlying22 ts32 rfl (by omega) _ rfl)) ?_
              refine GO_rdT rfl (wn_on rfl rfl rfl rfl) rfl (fun w => (rd_field rfl rfl fa32_1 _ rfl)) ?_
              refine GO_rd rfl rfl (wn_on rfl rfl rfl rfl) rfl hpS14 (fun w hp => (rd_load rfl rfl Try.underlying3 rfl (Sl.recE (hI.keep hp.mod) i (by first | omega | assumption | exact Nat.lt_succ_self _) (rec_time _)))) ?_
              refine GO_rdT (v := .slice _ _ _) rfl (wn_on rfl rfl rfl rfl) rfl (fun w => (rd_move rfl rfl)) ?_
              refine GO_rdT (v := .int _ _) rfl (wn_on rfl rfl rfl rfl) rfl (fun w => (rd_move rfl rfl)) ?_
              refine GO_rd rfl rfl (wn_on rfl rfl rfl rfl) rfl hpS14 (fun w hp => (rd_bin rfl rfl rfl (bo_sub64 (by omega)))) ?_
              refine GO_rdT rfl (wn_on rfl rfl rfl rfl) rfl (fun w => (rd_indexS (j := (i - 1)) rfl rfl rfl Try.underlying22 ts32 (by omega) (by omega) _ rfl)) ?_
              refine GO_rdT rfl (wn_on rfl rfl rfl rfl) rfl (fun w => (rd_field rfl rfl fa32_1 _ rfl)) ?_
              refine GO_rd rfl rfl (wn_on rfl rfl rfl rfl) rfl hpS14 (fun w hp => (rd_load rfl rfl Try.underlying3 rfl (Sl.recE (hI.keep hp.mod) (i - 1) (by first | omega | assumption | exact Nat.lt_succ_self _) (rec_time _)))) ?_
              refine GO_rd rfl rfl (wn_on rfl rfl rfl rfl) rfl hpS14 (fun w hp => (rd_bin rfl rfl rfl bo_lss)) ?_
              refine GO_rdT (v := .bool _) rfl (wn_on rfl rfl rfl rfl) rfl (fun w => (rd_pickT rfl rfl rfl)) ?_
              refine GO_rdT (v := .bool _) rfl (wn_none rfl) rfl (fun w => (rd_pickF rfl rfl rfl)) ?_
              refine GO_nil ?_
              refine GW_cond rfl (fun hb12 => ?_) (fun hb12 => ?_)
              ·(try simp only [decide_eq_true_eq, decide_eq_false_iff_not, Bool.not_eq_true', Bool.not_eq_false', Bool.not_eq_eq_eq_not, Bool.not_true, Bool.not_false, Int.not_lt, Int.not_le] at hb12)
               refine GW_seq ?_
               refine GW_region ?_
               refine GL_call (wn_none rfl) rfl rfl (law_hworks _) rfl ?_
               rintro _ w ⟨rfl, hk⟩
               have hp := hp.comp hk
               refine GL_rd (v := .bool _) (wn_none rfl) rfl (rd_assign rfl rfl) ?_
               refine GL_nil ?_
               refine GW_ret ?_
               exact ⟨_, res1 Try.results3 (rv_tmp (v := .bool _) rfl rfl), rfl, hp.mods⟩
              ·(try simp only [decide_eq_true_eq, decide_eq_false_iff_not, Bool.not_eq_true', Bool.not_eq_false', Bool.not_eq_eq_eq_not, Bool.not_true, Bool.not_false, Int.not_lt, Int.not_le] at hb12)
               have h3 : 0 < i → (recAt l (i - 1)).time ≤ (recAt l i).time := fun hz => by have := hb12; omega
               refine GW_skip ?_
               refine GW_seq ?_
               refine GW_region ?_
               refine GL_rd (v := .bool _) (wn_none rfl) rfl (rd_assign rfl rfl) ?_
               refine GL_nil ?_
               refine GW_seq ?_
               refine GW_seq ?_
               refine GW_region ?_
               refine GL_rd (v := .int _ _) (wn_none rfl) rfl (rd_assign rfl rfl) ?_
               refine GL_nil ?_
               refine GW_block ?_
               refine GW_loop ?_
               refine Lp_ind (α := Nat × Option Addr) (fun a_0 f_0 w' => match a_0 with | (q, Aa) => ∃ fz, f_0 = (upd (upd (upd (upd (upd (upd (upd fz 0 (.slice (some ⟨gA, bA, none⟩) m c)) 2 (.int .i64 t)) 5 (.pointer (some ⟨g, 0, none⟩))) 11 (.slice Aa (actL l).length ca)) 13 (.int .i64 (i : Int))) 14 (.bool (decide ((recAt l i).actor ∈ (actL l).take q)))) 15 (.int .i64 (q : Int))) ∧ Hp w0 [] w' [.row 9 1 (.slice Aa (actL l).length ca) ((actL l)).length (((actL l)).map Value.string), cells g 23 (bys a.1)] ∧ (q ≤ (actL l).length)) (fun a_0 => match a_0 with | (q, Aa) => (actL l).length - q) ?_ (0, Aa) _ _ ?_
               ·rintro ⟨q, Aa⟩ f wz ⟨fz, rfl, hp, hq0⟩ ihL3
                have hal := actL_len l
                refine Lp_round ?_
                refine GW_seq ?_
                refine GW_seq ?_
                refine GW_region ?_
                refine GL_rd (v := .int _ _) (wn_none rfl) rfl (rd_move rfl rfl) ?_
                refine GL_rd (v := .slice _ _ _) (wn_none rfl) rfl (rd_move rfl rfl) ?_
                refine GL_rd (wn_none rfl) rfl (rd_len rfl rfl Try.underlying29) ?_
                refine GL_rd (wn_none rfl) rfl (rd_bin rfl rfl rfl bo_lss) ?_
                refine GL_nil ?_
                refine GW_cond rfl (fun hb13 => ?_) (fun hb13 => ?_)
                ·(try simp only [decide_eq_true_eq, decide_eq_false_iff_not, Bool.not_eq_true', Bool.not_eq_false', Bool.not_eq_eq_eq_not, Bool.not_true, Bool.not_false, Int.not_lt, Int.not_le] at hb13)
                 obtain ⟨gv, bv, rfl⟩ := (Sl.row (hp.get 0 rfl)).addr (by rw [List.length_map]; omega)
                 refine GW_skip ?_
                 refine GW_seq ?_
                 refine GW_block ?_
                 refine GW_drawnK 14 (.one 0 true (.one 1 true (.one 2 true (.one 3 true (.one 4 true (.one 5 true (.one 6 true (.one 7 true (.one 8 true (.one 9 true (.one 10 true (.one 11 true (.one 12 true (.one 13 true .nil)))))))))))))) mixed (by kernel_rfl) hp (fun _ h => h) fun w hp => ?_
                 have hpS15 := hp
                 refine GO_rdT (v := .bool _) rfl (wn_none rfl) rfl (fun w => (rd_move rfl rfl)) ?_
                 refine GO_rdT (v := .bool _) rfl (wn_none rfl) rfl (fun w => (rd_move rfl rfl)) ?_
                 refine GO_split (t := 117) (b := _) rfl ?_ ?_
                 ·intro hb14; (try simp only [decide_eq_true_eq, decide_eq_false_iff_not, Bool.not_eq_true', Bool.not_eq_false', Bool.not_eq_eq_eq_not, Bool.not_true, Bool.not_false, Int.not_lt, Int.not_le] at hb14)
                  have hmet : decide ((recAt l i).actor ∈ (actL l).take q) = true := decide_eq_true hb14
                  refine GO_pass rfl (nw_off rfl rfl rfl rfl rfl) rfl ?_
                  refine GO_pass rfl (nw_off rfl rfl rfl rfl rfl) rfl ?_
                  refine GO_pass rfl (nw_off rfl rfl rfl rfl rfl) rfl ?_
                  refine GO_pass rfl (nw_off rfl rfl rfl rfl rfl) rfl ?_
                  refine GO_pass rfl (nw_off rfl rfl rfl rfl rfl) rfl ?_
                  refine GO_pass rfl (nw_off rfl rfl rfl rfl rfl) rfl ?_
                  refine GO_pass rfl (nw_off rfl rfl rfl rfl rfl) rfl ?_
                  refine GO_pass rfl (nw_off rfl rfl rfl rfl rfl) rfl ?_
                  refine GO_pass rfl (nw_off rfl rfl rfl rfl rfl) rfl ?_
                  refine GO_pass rfl (nw_off rfl rfl rfl rfl rfl) rfl ?_
                  refine GO_rdT (v := .bool _) rfl (wn_none rfl) rfl (fun w => (rd_pickT rfl rfl rfl)) ?_
                  refine GO_rdT (v := .bool _) rfl (wn_none rfl) rfl (fun w => (rd_assign rfl rfl)) ?_
                  refine GO_nil ?_
                  refine GW_region ?_
                  refine GL_rd (v := .int _ _) (wn_none rfl) rfl (rd_move rfl rfl) ?_
                  refine GL_rd (wn_none rfl) rfl (rd_bin rfl rfl rfl (bo_add64 (by omega))) ?_
                  refine GL_rd (v := .int _ _) (wn_none rfl) rfl (rd_assign rfl rfl) ?_
                  refine GL_nil ?_
                  have hp := (((hp.front 1 rfl).front 1 rfl).take 2)
                  exact ihL3 (q + 1, _) _ _ (by simp only []; omega) ⟨_, slots7 rfl rfl rfl rfl rfl (by rw [mem_takeS (by omega)]; first | (rw [hmet]; rfl) | (rw [hno]; rfl)) rfl, hp, by omega⟩
                 ·intro hb14; (try simp only [decide_eq_true_eq, decide_eq_false_iff_not, Bool.not_eq_true', Bool.not_eq_false', Bool.not_eq_eq_eq_not, Bool.not_true, Bool.not_false, Int.not_lt, Int.not_le] at hb14)
                  have hno : decide ((recAt l i).actor ∈ (actL l).take q) = false := decide_eq_false hb14
                  refine GO_rdT (v := .slice _ _ _) rfl (wn_on rfl rfl rfl rfl) rfl (fun w => (rd_move rfl rfl)) ?_
                  refine GO_rdT (v := .int _ _) rfl (wn_on rfl rfl rfl rfl) rfl (fun w => (rd_move rfl rfl)) ?_
                  refine GO_rdT rfl (wn_on rfl rfl rfl rfl) rfl (fun w => (rd_indexS (j := q) rfl rfl rfl Try.underlying29 ts9 rfl (by omega) _ rfl)) ?_
                  refine GO_rd rfl rfl (wn_on rfl rfl rfl rfl) rfl hpS15 (fun w hp => (rd_load rfl rfl Try.underlying9 rfl ((Sl.row (hp.get 0 rfl)).get _ _ (strAt_cell (l := (actL l)) (i := q) (by omega))))) ?_
                  refine GO_rdT (v := .slice _ _ _) rfl (wn_on rfl rfl rfl rfl) rfl (fun w => (rd_move rfl rfl)) ?_
                  refine GO_rdT (v := .int _ _) rfl (wn_on rfl rfl rfl rfl) rfl (fun w => (rd_move rfl rfl)) ?_
                  refine GO_rdT rfl (wn_on rfl rfl rfl rfl) rfl (fun w => (rd_indexS (j := i) rfl rfl rfl Try.underlying22 ts32 rfl (by omega) _ rfl)) ?_
                  refine GO_rdT rfl (wn_on rfl rfl rfl rfl) rfl (fun w => (rd_field rfl rfl fa32_2 _ rfl)) ?_
                  refine GO_rd rfl rfl (wn_on rfl rfl rfl rfl) rfl hpS15 (fun w hp => (rd_load rfl rfl Try.underlying9 rfl (Sl.recE (hI.keep hp.mod) i (by first | omega | assumption | exact Nat.lt_succ_self _) (rec_actor _)))) ?_
                  refine GO_rd rfl rfl (wn_on rfl rfl rfl rfl) rfl hpS15 (fun w hp => (rd_bin rfl rfl rfl bo_seql)) ?_
                  refine GO_rdT (v := .bool _) rfl (wn_none rfl) rfl (fun w => (rd_pickF rfl rfl rfl)) ?_
                  refine GO_rdT (v := .bool _) rfl (wn_none rfl) rfl (fun w => (rd_assign rfl rfl)) ?_
                  refine GO_nil ?_
                  refine GW_region ?_
                  refine GL_rd (v := .int _ _) (wn_none rfl) rfl (rd_move rfl rfl) ?_
                  refine GL_rd (wn_none rfl) rfl (rd_bin rfl rfl rfl (bo_add64 (by omega))) ?_
                  refine GL_rd (v := .int _ _) (wn_none rfl) rfl (rd_assign rfl rfl) ?_
                  refine GL_nil ?_
                  have hp := (((hp.front 1 rfl).front 1 rfl).take 2)
                  exact ihL3 (q + 1, _) _ _ (by simp only []; omega) ⟨_, slots7 rfl rfl rfl rfl rfl (by rw [mem_takeS (by omega)]; first | (rw [hmet]; rfl) | (rw [hno]; rfl)) rfl, hp, by omega⟩
                ·(try simp only [decide_eq_true_eq, decide_eq_false_iff_not, Bool.not_eq_true', Bool.not_eq_false', Bool.not_eq_eq_eq_not, Bool.not_true, Bool.not_false, Int.not_lt, Int.not_le] at hb13)
                 obtain rfl : q = (actL l).length := by omega
                 refine GW_exit ?_
                 refine GW_seq ?_
                 refine GW_region ?_
                 refine GL_rd (v := .bool _) (wn_none rfl) rfl (rd_move rfl rfl) ?_
                 refine GL_rd (wn_none rfl) rfl (rd_not rfl rfl) ?_
                 refine GL_nil ?_
                 refine GW_cond rfl (fun hb15 => ?_) (fun hb15 => ?_)
                 ·(try simp only [decide_eq_true_eq, decide_eq_false_iff_not, Bool.not_eq_true', Bool.not_eq_false', Bool.not_eq_eq_eq_not, Bool.not_true, Bool.not_false, Int.not_lt, Int.not_le] at hb15)
                  exact absurd (by rw [List.take_length]; exact act_in (by omega)) hb15
                 ·(try simp only [decide_eq_true_eq, decide_eq_false_iff_not, Bool.not_eq_true', Bool.not_eq_false', Bool.not_eq_eq_eq_not, Bool.not_true, Bool.not_false, Int.not_lt, Int.not_le] at hb15)
                  refine GW_skip ?_
                  refine GW_region ?_
                  refine GL_rd (v := .int _ _) (wn_none rfl) rfl (rd_move rfl rfl) ?_
                  refine GL_rd (wn_none rfl) rfl (rd_bin rfl rfl rfl (bo_add64 (by omega))) ?_
                  refine GL_rd (v := .int _ _) (wn_none rfl) rfl (rd_assign rfl rfl) ?_
                  refine GL_nil ?_
                  have hp := (((hp.front 1 rfl).front 1 rfl).take 2)
                  exact ihL2 (i + 1, _, _) _ _ (by simp only []; omega) ⟨_, slots5 rfl rfl rfl rfl rfl, hp, by omega, hI, fun j hj => by rcases Nat.lt_succ_iff_lt_or_eq.1 hj with h | h; exact hr j h; subst h; exact ⟨h1, h2, h3⟩⟩
               ·have hp := (((hp.front 1 rfl).front 1 rfl).take 2)
                refine ⟨_, slots7 rfl rfl rfl rfl rfl rfl rfl, hp, Nat.zero_le _⟩
             ·intro hb11; (try simp only [decide_eq_true_eq, decide_eq_false_iff_not, Bool.not_eq_true', Bool.not_eq_false', Bool.not_eq_eq_eq_not, Bool.not_true, Bool.not_false, Int.not_lt, Int.not_le] at hb11)
              have h3 : 0 < i → (recAt l (i - 1)).time ≤ (recAt l i).time := fun hz => by have := hb11; omega
              refine GO_pass rfl (nw_off rfl rfl rfl rfl rfl) rfl ?_
              refine GO_pass rfl (nw_off rfl rfl rfl rfl rfl) rfl ?_
              refine GO_pass rfl (nw_off rfl rfl rfl rfl rfl) rfl ?_
              refine GO_pass rfl (nw_off rfl rfl rfl rfl rfl) rfl ?_
              refine GO_pass rfl (nw_off rfl rfl rfl rfl rfl) rfl ?_
              refine GO_pass rfl (nw_off rfl rfl rfl rfl rfl) rfl ?_
              refine GO_pass rfl (nw_off rfl rfl rfl rfl rfl) rfl ?_
              refine GO_pass rfl (nw_off rfl rfl rfl rfl rfl) rfl ?_
              refine GO_pass rfl (nw_off rfl rfl rfl rfl rfl) rfl ?_
              refine GO_pass rfl (nw_off rfl rfl rfl rfl rfl) rfl ?_
              refine GO_pass rfl (nw_off rfl rfl rfl rfl rfl) rfl ?_
              refine GO_pass rfl (nw_off rfl rfl rfl rfl rfl) rfl ?_
              refine GO_rdT (v := .bool _) rfl (wn_on rfl rfl rfl rfl) rfl (fun w => (rd_pickF rfl rfl rfl)) ?_
              refine GO_rdT (v := .bool _) rfl (wn_none rfl) rfl (fun w => (rd_pickF rfl rfl rfl)) ?_
              refine GO_nil ?_
              refine GW_false rfl ?_
              refine GW_skip ?_
              refine GW_seq ?_
              refine GW_region ?_
              refine GL_rd (v := .bool _) (wn_none rfl) rfl (rd_assign rfl rfl) ?_
              refine GL_nil ?_
              refine GW_seq ?_
              refine GW_seq ?_
              refine GW_region ?_
              refine GL_rd (v := .int _ _) (wn_none rfl) rfl (rd_assign rfl rfl) ?_
              refine GL_nil ?_
              refine GW_block ?_
              refine GW_loop ?_
              refine Lp_ind (α := Nat × Option Addr) (fun a_0 f_0 w' => match a_0 with | (q, Aa) => ∃ fz, f_0 = (upd (upd (upd (upd (upd (upd (upd fz 0 (.slice (some ⟨gA, bA, none⟩) m c)) 2 (.int .i64 t)) 5 (.pointer (some ⟨g, 0, none⟩))) 11 (.slice Aa (actL l).length ca)) 13 (.int .i64 (i : Int))) 14 (.bool (decide ((recAt l i).actor ∈ (actL l).take q)))) 15 (.int .i64 (q : Int))) ∧ Hp w0 [] w' [.row 9 1 (.slice Aa (actL l).length ca) ((actL l)).length (((actL l)).map Value.string), cells g 23 (bys a.1)] ∧ (q ≤ (actL l).length)) (fun a_0 => match a_0 with | (q, Aa) => (actL l).length - q) ?_ (0, Aa) _ _ ?_
              ·rintro ⟨q, Aa⟩ f wz ⟨fz, rfl, hp, hq0⟩ ihL4
               have hal := actL_len l
               refine Lp_round ?_
               refine GW_seq ?_
               refine GW_seq ?_
               refine GW_region ?_
               refine GL_rd (v := .int _ _) (wn_none rfl) rfl (rd_move rfl rfl) ?_
               refine GL_rd (v := .slice _ _ _) (wn_none rfl) rfl (rd_move rfl rfl) ?_
               refine GL_rd (wn_none rfl) rfl (rd_len rfl rfl Try.underlying29) ?_
               refine GL_rd (wn_none rfl) rfl (rd_bin rfl rfl rfl bo_lss) ?_
               refine GL_nil ?_
               refine GW_cond rfl (fun hb16 => ?_) (fun hb16 => ?_)
               ·(try simp only [decide_eq_true_eq, decide_eq_false_iff_not, Bool.not_eq_true', Bool.not_eq_false', Bool.not_eq_eq_eq_not, Bool.not_true, Bool.not_false, Int.not_lt, Int.not_le] at hb16)
                obtain ⟨gv, bv, rfl⟩ := (Sl.row (hp.get 0 rfl)).addr (by rw [List.length_map]; omega)
                refine GW_skip ?_
                refine GW_seq ?_
                refine GW_block ?_
                refine GW_drawnK 14 (.one 0 true (.one 1 true (.one 2 true (.one 3 true (.one 4 true (.one 5 true (.one 6 true (.one 7 true (.one 8 true (.one 9 true (.one 10 true (.one 11 true (.one 12 true (.one 13 true .nil)))))))))))))) mixed (by kernel_rfl) hp (fun _ h => h) fun w hp => ?_
                have hpS16 := hp
                refine GO_rdT (v := .bool _) rfl (wn_none rfl) rfl (fun w => (rd_move rfl rfl)) ?_
                refine GO_rdT (v := .bool _) rfl (wn_none rfl) rfl (fun w => (rd_move rfl rfl)) ?_
                refine GO_split (t := 117) (b := _) rfl ?_ ?_
                ·intro hb17; (try simp only [decide_eq_true_eq, decide_eq_false_iff_not, Bool.not_eq_true', Bool.not_eq_false', Bool.not_eq_eq_eq_not, Bool.not_true, Bool.not_false, Int.not_lt, Int.not_le] at hb17)
                 have hmet : decide ((recAt l i).actor ∈ (actL l).take q) = true := decide_eq_true hb17
                 refine GO_pass rfl (nw_off rfl rfl rfl rfl rfl) rfl ?_
                 refine GO_pass rfl (nw_off rfl rfl rfl rfl rfl) rfl ?_
                 refine GO_pass rfl (nw_off rfl rfl rfl rfl rfl) rfl ?_
                 refine GO_pass rfl (nw_off rfl rfl rfl rfl rfl) rfl ?_
                 refine GO_pass rfl (nw_off rfl rfl rfl rfl rfl) rfl ?_
                 refine GO_pass rfl (nw_off rfl rfl rfl rfl rfl) rfl ?_
                 refine GO_pass rfl (nw_off rfl rfl rfl rfl rfl) rfl ?_
                 refine GO_pass rfl (nw_off rfl rfl rfl rfl rfl) rfl ?_
                 refine GO_pass rfl (nw_off rfl rfl rfl rfl rfl) rfl ?_
                 refine GO_pass rfl (nw_off rfl rfl rfl rfl rfl) rfl ?_
                 refine GO_rdT (v := .bool _) rfl (wn_none rfl) rfl (fun w => (rd_pickT rfl rfl rfl)) ?_
                 refine GO_rdT (v := .bool _) rfl (wn_none rfl) rfl (fun w => (rd_assign rfl rfl)) ?_
                 refine GO_nil ?_
                 refine GW_region ?_
                 refine GL_rd (v := .int _ _) (wn_none rfl) rfl (rd_move rfl rfl) ?_
                 refine GL_rd (wn_none rfl) rfl (rd_bin rfl rfl rfl (bo_add64 (by omega))) ?_
                 refine GL_rd (v := .int _ _) (wn_none rfl) rfl (rd_assign rfl rfl) ?_
                 refine GL_nil ?_
                 have hp := (((hp.front 1 rfl).front 1 rfl).take 2)
                 exact ihL4 (q + 1, _) _ _ (by simp only []; omega) ⟨_, slots7 rfl rfl rfl rfl rfl (by rw [mem_takeS (by omega)]; first | (rw [hmet]; rfl) | (rw [hno]; rfl)) rfl, hp, by omega⟩
                ·intro hb17; (try simp only [decide_eq_true_eq, decide_eq_false_iff_not, Bool.not_eq_true', Bool.not_eq_false', Bool.not_eq_eq_eq_not, Bool.not_true, Bool.not_false, Int.not_lt, Int.not_le] at hb17)
                 have hno : decide ((recAt l i).actor ∈ (actL l).take q) = false := decide_eq_false hb17
                 refine GO_rdT (v := .slice _ _ _) rfl (wn_on rfl rfl rfl rfl) rfl (fun w => (rd_move rfl rfl)) ?_
                 refine GO_rdT (v := .int _ _) rfl (wn_on rfl rfl rfl rfl) rfl (fun w => (rd_move rfl rfl)) ?_
                 refine GO_rdT rfl (wn_on rfl rfl rfl rfl) rfl (fun w => (rd_indexS (j := q) rfl rfl rfl Try.underlying29 ts9 rfl (by omega) _ rfl)) ?_
                 refine GO_rd rfl rfl (wn_on rfl rfl rfl rfl) rfl hpS16 (fun w hp => (rd_load rfl rfl Try.underlying9 rfl ((Sl.row (hp.get 0 rfl)).get _ _ (strAt_cell (l := (actL l)) (i := q) (by omega))))) ?_
                 refine GO_rdT (v := .slice _ _ _) rfl (wn_on rfl rfl rfl rfl) rfl (fun w => (rd_move rfl rfl)) ?_
                 refine GO_rdT (v := .int _ _) rfl (wn_on rfl rfl rfl rfl) rfl (fun w => (rd_move rfl rfl)) ?_
                 refine GO_rdT rfl (wn_on rfl rfl rfl rfl) rfl (fun w => (rd_indexS (j := i) rfl rfl rfl Try.underlying22 ts32 rfl (by omega) _ rfl)) ?_
                 refine GO_rdT rfl (wn_on rfl rfl rfl rfl) rfl (fun w => (rd_field rfl rfl fa32_2 _ rfl)) ?_
                 refine GO_rd rfl rfl (wn_on rfl rfl rfl rfl) rfl hpS16 (fun w hp => (rd_load rfl rfl Try.underlying9 rfl (Sl.recE (hI.keep hp.mod) i (by first | omega | assumption | exact Nat.lt_succ_self _) (rec_actor _)))) ?_
                 refine GO_rd rfl rfl (wn_on rfl rfl rfl rfl) rfl hpS16 (fun w hp => (rd_bin rfl rfl rfl bo_seql)) ?_
                 refine GO_rdT (v := .bool _) rfl (wn_none rfl) rfl (fun w => (rd_pickF rfl rfl rfl)) ?_
                 refine GO_rdT (v := .bool _) rfl (wn_none rfl) rfl (fun w => (rd_assign rfl rfl)) ?_
                 refine GO_nil ?_
                 refine GW_region ?_
                 refine GL_rd (v := .int _ _) (wn_none rfl) rfl (rd_move rfl rfl) ?_
                 refine GL_rd (wn_none rfl) rfl (rd_bin rfl rfl rfl (bo_add64 (by omega))) ?_
                 refine GL_rd (v := .int _ _) (wn_none rfl) rfl (rd_assign rfl rfl) ?_
                 refine GL_nil ?_
                 have hp := (((hp.front 1 rfl).front 1 rfl).take 2)
                 exact ihL4 (q + 1, _) _ _ (by simp only []; omega) ⟨_, slots7 rfl rfl rfl rfl rfl (by rw [mem_takeS (by omega)]; first | (rw [hmet]; rfl) | (rw [hno]; rfl)) rfl, hp, by omega⟩
               ·(try simp only [decide_eq_true_eq, decide_eq_false_iff_not, Bool.not_eq_true', Bool.not_eq_false', Bool.not_eq_eq_eq_not, Bool.not_true, Bool.not_false, Int.not_lt, Int.not_le] at hb16)
                obtain rfl : q = (actL l).length := by omega
                refine GW_exit ?_
                refine GW_seq ?_
                refine GW_region ?_
                refine GL_rd (v := .bool _) (wn_none rfl) rfl (rd_move rfl rfl) ?_
                refine GL_rd (wn_none rfl) rfl (rd_not rfl rfl) ?_
                refine GL_nil ?_
                refine GW_cond rfl (fun hb18 => ?_) (fun hb18 => ?_)
                ·(try simp only [decide_eq_true_eq, decide_eq_false_iff_not, Bool.not_eq_true', Bool.not_eq_false', Bool.not_eq_eq_eq_not, Bool.not_true, Bool.not_false, Int.not_lt, Int.not_le] at hb18)
                 exact absurd (by rw [List.take_length]; exact act_in (by omega)) hb18
                ·(try simp only [decide_eq_true_eq, decide_eq_false_iff_not, Bool.not_eq_true', Bool.not_eq_false', Bool.not_eq_eq_eq_not, Bool.not_true, Bool.not_false, Int.not_lt, Int.not_le] at hb18)
                 refine GW_skip ?_
                 refine GW_region ?_
                 refine GL_rd (v := .int _ _) (wn_none rfl) rfl (rd_move rfl rfl) ?_
                 refine GL_rd (wn_none rfl) rfl (rd_bin rfl rfl rfl (bo_add64 (by omega))) ?_
                 refine GL_rd (v := .int _ _) (wn_none rfl) rfl (rd_assign rfl rfl) ?_
                 refine GL_nil ?_
                 have hp := (((hp.front 1 rfl).front 1 rfl).take 2)
                 exact ihL2 (i + 1, _, _) _ _ (by simp only []; omega) ⟨_, slots5 rfl rfl rfl rfl rfl, hp, by omega, hI, fun j hj => by rcases Nat.lt_succ_iff_lt_or_eq.1 hj with h | h; exact hr j h; subst h; exact ⟨h1, h2, h3⟩⟩
              ·have hp := (((hp.front 1 rfl).front 1 rfl).take 2)
               refine ⟨_, slots7 rfl rfl rfl rfl rfl rfl rfl, hp, Nat.zero_le _⟩
          ·(try simp only [decide_eq_true_eq, decide_eq_false_iff_not, Bool.not_eq_true', Bool.not_eq_false', Bool.not_eq_eq_eq_not, Bool.not_true, Bool.not_false, Int.not_lt, Int.not_le] at hb8)
           obtain rfl : m = i := by omega
           have hT := all_recs (p := fun r => 0 ≤ r.time ∧ r.time ≤ 1099511627776) (fun j hj => ⟨(hr j (by omega)).1, (hr j (by omega)).2.1⟩)
           have hs := rise_of (fun j h0 hj => (hr j (by omega)).2.2 h0)
           have hsp := span_in (a := a) hs (fun r hr => (hT r hr).1) ht1
           refine GW_exit ?_
           refine GW_seq ?_
           refine GW_region ?_
           refine GL_rd (v := .slice _ _ _) (wn_none rfl) rfl (rd_move rfl rfl) ?_
           refine GL_rd (wn_none rfl) rfl (rd_loadC rfl rfl Try.underlying23 rfl ts23 (hp.get 1 rfl) (by first | (rw [bys_length]; first | exact a32_len _) | rfl | simp [bys_length, *])) ?_
           refine GL_rd (v := .int _ _) (wn_none rfl) rfl (rd_move rfl rfl) ?_
           refine GL_call (wn_none rfl) rfl rfl (his_Span _ m l a t _ (hI.keep hp.mod) (by omega) hT ⟨ht1, ht2⟩) rfl ?_
           rintro _ w ⟨rfl, hk⟩
           have hp := hp.comp hk
           refine GL_rd (v := .int _ _) (wn_none rfl) rfl (rd_assign rfl rfl) ?_
           refine GL_nil ?_
           refine GW_seq ?_
           refine GW_region ?_
           refine GL_rd (v := .int _ _) (wn_none rfl) rfl (rd_move rfl rfl) ?_
           refine GL_rd (v := .slice _ _ _) (wn_none rfl) rfl (rd_move rfl rfl) ?_
           refine GL_rd (wn_none rfl) rfl (rd_loadC rfl rfl Try.underlying23 rfl ts23 (hp.get 1 rfl) (by first | (rw [bys_length]; first | exact a32_len _) | rfl | simp [bys_length, *])) ?_
           refine GL_rd (v := .int _ _) (wn_none rfl) rfl (rd_move rfl rfl) ?_
           refine GL_call (wn_none rfl) rfl rfl (ref_Span _ m l a t _ (hI.keep hp.mod) (by omega) hT ⟨ht1, ht2⟩) rfl ?_
           rintro _ w ⟨rfl, hk⟩
           have hp := hp.comp hk
           refine GL_rd (wn_none rfl) rfl (rd_bin rfl rfl rfl (bo_boolE (q := true) bo_eql (decide_eq_true rfl))) ?_
           refine GL_rd (v := .bool _) (wn_none rfl) rfl (rd_move rfl rfl) ?_
           refine GL_rd (v := .int _ _) (wn_on rfl rfl rfl rfl) rfl (rd_move rfl rfl) ?_
           refine GL_rd (wn_on rfl rfl rfl rfl) rfl (rd_bin rfl rfl rfl (bo_boolE (q := true) bo_geq (decide_eq_true hsp.1))) ?_
           refine GL_rd (v := .bool _) (wn_none rfl) rfl (rd_pickT rfl rfl rfl) ?_
           refine GL_rd (v := .bool _) (wn_none rfl) rfl (rd_move rfl rfl) ?_
           refine GL_rd (v := .int _ _) (wn_on rfl rfl rfl rfl) rfl (rd_move rfl rfl) ?_
           refine GL_rd (v := .int _ _) (wn_on rfl rfl rfl rfl) rfl (rd_move rfl rfl) ?_
           refine GL_rd (wn_on rfl rfl rfl rfl) rfl (rd_bin rfl rfl rfl (bo_boolE (q := true) bo_leq (decide_eq_true hsp.2))) ?_
           refine GL_rd (v := .bool _) (wn_none rfl) rfl (rd_pickT rfl rfl rfl) ?_
           refine GL_rd (v := .bool _) (wn_none rfl) rfl (rd_move rfl rfl) ?_
           refine GL_call (wn_on rfl rfl rfl rfl) rfl rfl (law_hworks _) rfl ?_
           rintro _ w ⟨rfl, hk⟩
           have hp := hp.comp hk
           refine GL_rd (v := .bool _) (wn_none rfl) rfl (rd_pickT rfl rfl rfl) ?_
           refine GL_rd (v := .bool _) (wn_none rfl) rfl (rd_assign rfl rfl) ?_
           refine GL_nil ?_
           refine GW_ret ?_
           exact ⟨_, res1 Try.results3 (rv_tmp (v := .bool _) rfl rfl), rfl, hp.mods⟩
         ·have hp := (((hp.front 1 rfl).front 1 rfl).take 2)
          refine ⟨_, slots5 rfl rfl rfl rfl rfl, hp, Nat.zero_le _, hI, fun j hj => absurd hj (by omega)⟩
       ·have hp := (((hp.front 2 rfl).front 1 rfl).take 2)
        refine ⟨_, slots5 rfl rfl rfl rfl rfl, hp, Nat.zero_le _⟩
     ·refine ⟨_, slots6 rfl rfl rfl rfl rfl rfl, hp, Nat.zero_le _⟩
end Go.Proofs.Ytdbkmpnknkldlaa
