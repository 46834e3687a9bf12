/- Walks of functions of the program. -/
import Derived.Test.YtblpmjbddpadcaaHLHis
set_option linter.unusedVariables false
set_option linter.unusedSimpArgs false
namespace Go.Proofs.Ytblpmjbddpadcaa
open Go.Mo Go.RowKit
set_option maxRecDepth 100000 in
set_option maxHeartbeats 2000000 in
theorem law_HistoryTells (sv : Value) (m : Nat) (l : List Rec) (a : A32) (t : Int) (nm : ByteArray) (w0 : World) (hI : Sl w0 sv 100 m (l.flatMap recC)) : Does Try.prog 14 #[sv, .agg ⟨bys a.1⟩, .int .i64 t, .string nm] w0 fun v w' => v = .bool true ∧ Hp w0 [] w' [] := by
 obtain ⟨A, c, rfl⟩ := sl_shape hI
 have hlm := Sl.recs hI
 have hmle := hI.le
 refine does_ofM (l := [.slice A m c, .agg ⟨bys a.1⟩, .int .i64 t, .string nm]) Try.func14 (by kernel_rfl) rfl Try.ntmps14 rfl rfl ?_
 have hp := Hp.refl w0 []
 refine GV_seq ?_
 refine GV_of (by kernel_rfl) ?_
 refine GW_region ?_
 refine GL_box (wn_none rfl) rfl rfl rfl rfl hp ?_
 intro g w hp
 refine GL_box (wn_none rfl) rfl rfl rfl rfl hp ?_
 intro g2 w hp
 refine GL_alloc (wn_none rfl) rfl rfl tz4 rfl hp ?_
 intro g3 w hp
 refine GL_nil ?_
 refine GV_seq ?_
 refine GV_of (by kernel_rfl) ?_
 refine GW_seq ?_
 refine GW_region ?_
 refine GL_rd (v := .slice _ _ _) (wn_none rfl) rfl (rd_move rfl rfl) ?_
 refine GL_call (wn_none rfl) rfl rfl (law_alight _ m l _ (hI.keep hp.mod)) rfl ?_
 rintro _ w ⟨rfl, hk⟩
 have hp := hp.comp hk
 refine GL_rd (wn_none rfl) rfl (rd_bin rfl rfl rfl bo_gtr) ?_
 refine GL_rd (v := .bool _) (wn_none rfl) rfl (rd_move rfl rfl) ?_
 refine GL_split (t := 16) (b := _) rfl ?_ ?_
 ·intro hb; (try simp only [decide_eq_true_eq, decide_eq_false_iff_not, Bool.not_eq_true', Bool.not_eq_false', Bool.not_eq_eq_eq_not, Bool.not_true, Bool.not_false, Int.not_lt, Int.not_le] at hb)
  refine GL_pass (nw_off rfl rfl rfl rfl rfl) rfl ?_
  refine GL_pass (nw_off rfl rfl rfl rfl rfl) rfl ?_
  refine GL_pass (nw_off rfl rfl rfl rfl rfl) rfl ?_
  refine GL_rd (v := .bool _) (wn_none rfl) rfl (rd_pickT rfl rfl rfl) ?_
  refine GL_nil ?_
  refine GW_true rfl ?_
  refine GW_seq ?_
  refine GW_region ?_
  refine GL_call (wn_none rfl) rfl rfl (law_hworks _) rfl ?_
  rintro _ w ⟨rfl, hk⟩
  have hp := hp.comp hk
  refine GL_store (i := 0) (wn_none rfl) rfl rfl rfl rfl ts4 rfl rfl (one1 rfl) hp rfl (by first | exact Nat.le_of_ble_eq_true rfl | simp [bys_length, *]) (show splice _ _ _ = [.bool true] from rfl) ?_
  intro w hp
  refine GL_nil ?_
  refine GW_ret ?_
  refine (FM_of [] ?_).1
  refine Shut_nil ?_
  exact ⟨_, res1 Try.results14 (rv_cell1 rfl rfl Try.underlying4 rfl (hp.get 0 rfl)), rfl, hp.mods⟩
 ·intro hb; (try simp only [decide_eq_true_eq, decide_eq_false_iff_not, Bool.not_eq_true', Bool.not_eq_false', Bool.not_eq_eq_eq_not, Bool.not_true, Bool.not_false, Int.not_lt, Int.not_le] at hb)
  have hg1 := light_of hb
  refine GL_rd (v := .string _) (wn_on rfl rfl rfl rfl) rfl (rd_move rfl rfl) ?_
  refine GL_rd (wn_on rfl rfl rfl rfl) rfl (rd_lenS rfl rfl Try.underlying9) ?_
  refine GL_rd (wn_on rfl rfl rfl rfl) rfl (rd_bin rfl rfl rfl bo_gtr) ?_
  refine GL_rd (v := .bool _) (wn_none rfl) rfl (rd_pickF rfl rfl rfl) ?_
  refine GL_nil ?_
  refine GW_cond rfl (fun hb2 => ?_) (fun hb2 => ?_)
  ·(try simp only [decide_eq_true_eq, decide_eq_false_iff_not, Bool.not_eq_true', Bool.not_eq_false', Bool.not_eq_eq_eq_not, Bool.not_true, Bool.not_false, Int.not_lt, Int.not_le] at hb2)
   refine GW_seq ?_
   refine GW_region ?_
   refine GL_call (wn_none rfl) rfl rfl (law_hworks _) rfl ?_
   rintro _ w ⟨rfl, hk⟩
   have hp := hp.comp hk
   refine GL_store (i := 0) (wn_none rfl) rfl rfl rfl rfl ts4 rfl rfl (one1 rfl) hp rfl (by first | exact Nat.le_of_ble_eq_true rfl | simp [bys_length, *]) (show splice _ _ _ = [.bool true] from rfl) ?_
   intro w hp
   refine GL_nil ?_
   refine GW_ret ?_
   refine (FM_of [] ?_).1
   refine Shut_nil ?_
   exact ⟨_, res1 Try.results14 (rv_cell1 rfl rfl Try.underlying4 rfl (hp.get 0 rfl)), rfl, hp.mods⟩
  ·(try simp only [decide_eq_true_eq, decide_eq_false_iff_not, Bool.not_eq_true', Bool.not_eq_false', Bool.not_eq_eq_eq_not, Bool.not_true, Bool.not_false, Int.not_lt, Int.not_le] at hb2)
   refine GW_skip ?_
   refine GV_seq ?_
   refine GV_of (by kernel_rfl) ?_
   refine GW_region ?_
   refine GL_alloc (wn_none rfl) rfl rfl tz3 rfl hp ?_
   intro g4 w hp
   refine GL_store (i := 0) (wn_none rfl) rfl rfl rfl rfl ts3 rfl rfl (one1 rfl) hp rfl (by first | exact Nat.le_of_ble_eq_true rfl | simp [bys_length, *]) rfl ?_
   intro w hp
   refine GL_nil ?_
   refine GV_seq ?_
   refine GV_of (by kernel_rfl) ?_
   refine GW_region ?_
   refine GL_rd (v := .slice _ _ _) (wn_none rfl) rfl (rd_move rfl rfl) ?_
   refine GL_rd (wn_none rfl) rfl (rd_load rfl rfl Try.underlying3 rfl ((cell_of_cells (hp.get 2 rfl) _).trans rfl)) ?_
   refine GL_call (wn_none rfl) rfl rfl (his_Until _ m l t _ (hI.keep hp.mod)) rfl ?_
   rintro _ w ⟨ga, gb, rfl, hk⟩
   have hp := hp.comp hk
   refine GL_rd (v := .func (.func 142) #[] #[.pointer (some ⟨ga, 0, none⟩), .pointer (some ⟨gb, 0, none⟩)]) (wn_none rfl) rfl (rd_assign rfl rfl) ?_
   refine GL_nil ?_
   refine GV_seq ?_
   refine GV_of (by kernel_rfl) ?_
   refine GW_seq ?_
   refine GW_region ?_
   refine GL_rd (v := .func (.func 142) #[] #[.pointer (some ⟨ga, 0, none⟩), .pointer (some ⟨gb, 0, none⟩)]) (wn_none rfl) rfl (rd_move rfl rfl) ?_
   refine GL_rd (wn_none rfl) rfl (rd_bin rfl rfl rfl (bo_fnil Try.underlying104)) ?_
   refine GL_nil ?_
   refine GW_false rfl ?_
   refine GW_skip ?_
   refine GV_seq ?_
   refine GV_seq ?_
   refine GV_of (by kernel_rfl) ?_
   refine GW_region ?_
   refine GL_rd (v := .func (.func 142) #[] #[.pointer (some ⟨ga, 0, none⟩), .pointer (some ⟨gb, 0, none⟩)]) (wn_none rfl) rfl (rd_move rfl rfl) ?_
   refine GL_nil ?_
   refine GV_block ?_
   have hp := (((((((hp.front 1 rfl).front 1 rfl).front 3 rfl).front 4 rfl).front 5 rfl).front 5 rfl).take 6)
   refine GV_range1 (α := Rec) (β := Unit) (γ := Unit) (fun r : Rec => .agg ⟨recC r⟩) (l.filter (uT t)) (fun q_ z => [cells g4 3 [.int .i64 (q_.length : Int)], cells g 57 (bys a.1), cells g2 3 [.int .i64 t], cells g3 4 [.bool false], cells ga 56 [(.slice A m c)], cells gb 3 [.int .i64 t]]) (fun q_ z => True) (fun c => []) (fun c => False) ((OwnU 56 3 (.slice A m c) m l t ga gb)) () rfl (by kernel_rfl) (by kernel_rfl) ((his_Iter _ m l t ga gb)) hp trivial (fun _ _ _ h _ => ⟨h.get 4 rfl, h.get 5 rfl, hI.keep h.mod⟩) ?_ ?_ ?_
   ·intro q_ x s_ z w L1_ D1_ r_ r2_ hxs hz hp
    have hx0 : x ∈ l.filter (uT t) := by rw [hxs]; simp
    have hxt : x.time ≤ t := by have := (List.mem_filter.1 hx0).2; simpa [uT] using this
    have hq2 : q_.length < l.length := by have h1 := congrArg List.length hxs; have h2 := List.length_filter_le (uT t) l; simp only [List.length_append, List.length_cons] at h1; omega
    refine GW_region ?_
    refine GL_alloc (wn_none rfl) rfl rfl tz59 rfl hp ?_
    intro g5 w hp
    refine GL_store (i := 0) (wn_none rfl) rfl rfl rfl rfl ts59 rfl (recC_len _) (recC_one _) hp rfl (by first | exact Nat.le_of_ble_eq_true rfl | (rw [recC_len]; decide)) (splice_all _ _ (by first | rw [recC_len, recC_len] | (rw [recC_len]; rfl))) ?_
    intro w hp
    refine GL_nil ?_
    refine ⟨rfl, _, (hp.front 1 rfl), fun w hp => ?_⟩
    refine GW_block ?_
    refine GW_seq ?_
    refine GW_seq ?_
    refine GW_region ?_
    refine GL_rd (wn_none rfl) rfl (rd_field rfl rfl fa59_1 _ rfl) ?_
    refine GL_rd (wn_none rfl) rfl (rd_load rfl rfl Try.underlying3 rfl ((cell_of_cells (hp.get 1 rfl) _).trans (rec_time _))) ?_
    refine GL_rd (wn_none rfl) rfl (rd_load rfl rfl Try.underlying3 rfl ((cell_of_cells (hp.get 5 rfl) _).trans rfl)) ?_
    refine GL_rd (wn_none rfl) rfl (rd_bin rfl rfl rfl bo_gtr) ?_
    refine GL_nil ?_
    refine GW_cond rfl (fun hb3 => ?_) (fun hb3 => ?_)
    ·(try simp only [decide_eq_true_eq, decide_eq_false_iff_not, Bool.not_eq_true', Bool.not_eq_false', Bool.not_eq_eq_eq_not, Bool.not_true, Bool.not_false, Int.not_lt, Int.not_le] at hb3)
     exact absurd hxt (by have := hb3; omega)
    ·(try simp only [decide_eq_true_eq, decide_eq_false_iff_not, Bool.not_eq_true', Bool.not_eq_false', Bool.not_eq_eq_eq_not, Bool.not_true, Bool.not_false, Int.not_lt, Int.not_le] at hb3)
     refine GW_skip ?_
     refine GW_region ?_
     refine GL_rd (wn_none rfl) rfl (rd_load rfl rfl Try.underlying3 rfl ((cell_of_cells (hp.get 3 rfl) _).trans rfl)) ?_
     refine GL_rd (wn_none rfl) rfl (rd_bin rfl rfl rfl (bo_add64 (by omega))) ?_
     refine GL_store (i := 3) (wn_none rfl) rfl rfl rfl rfl ts3 rfl rfl (one1 rfl) hp rfl (by first | exact Nat.le_of_ble_eq_true rfl | simp [bys_length, *]) rfl ?_
     intro w hp
     refine GL_nil ?_
     have hp := (((((((((hp.front 8 rfl).front 8 rfl).front 8 rfl).front 8 rfl).front 8 rfl).front 8 rfl).front 8 rfl).front 7 rfl).take 8)
     rw [show ((q_.length : Int) + 1) = ((q_ ++ [x]).length : Int) by simp] at hp
     exact ⟨(), trivial, hp⟩
   ·intro z Dm w hz hp
    refine GV_of (by kernel_rfl) ?_
    refine GW_seq ?_
    refine GW_seq ?_
    refine GW_region ?_
    refine GL_rd (v := .int _ _) (wn_none rfl) rfl (rd_assign rfl rfl) ?_
    refine GL_nil ?_
    refine GW_block ?_
    refine GW_loop ?_
    refine Lp_ind (α := Nat × Option Addr) (fun a_0 f_0 w' => match a_0 with | (i, A) => ∃ fz, f_0 = (upd (upd (upd (upd (upd (upd (upd fz 0 (.slice A m c)) 3 (.string nm)) 5 (.pointer (some ⟨g, 0, none⟩))) 6 (.pointer (some ⟨g2, 0, none⟩))) 8 (.pointer (some ⟨g3, 0, none⟩))) 9 (.pointer (some ⟨g4, 0, none⟩))) 12 (.int .i64 (i : Int))) ∧ Hp w0 [] w' [cells g4 3 [.int .i64 (((l.filter (uT t)).length : Int) - (((l.take i).filter (uT t)).length : Int))], cells g 57 (bys a.1), cells g2 3 [.int .i64 t], cells g3 4 [.bool false], .blk Dm (.deferred (some []))] ∧ (i ≤ m) ∧ (Sl w0 (.slice A m c) 100 m (l.flatMap recC))) (fun a_0 => match a_0 with | (i, A) => m - i) ?_ (0, A) _ _ ?_
    ·rintro ⟨i, A⟩ f wz ⟨fz, rfl, hp, hi0, hI⟩ ihL0
     refine Lp_round ?_
     refine GW_seq ?_
     refine GW_seq ?_
     refine GW_region ?_
     refine GL_rd (v := .int _ _) (wn_none rfl) rfl (rd_move rfl rfl) ?_
     refine GL_rd (v := .slice _ _ _) (wn_none rfl) rfl (rd_move rfl rfl) ?_
     refine GL_rd (wn_none rfl) rfl (rd_len rfl rfl Try.underlying56) ?_
     refine GL_rd (wn_none rfl) rfl (rd_bin rfl rfl rfl bo_lss) ?_
     refine GL_nil ?_
     refine GW_cond rfl (fun hb4 => ?_) (fun hb4 => ?_)
     ·(try simp only [decide_eq_true_eq, decide_eq_false_iff_not, Bool.not_eq_true', Bool.not_eq_false', Bool.not_eq_eq_eq_not, Bool.not_true, Bool.not_false, Int.not_lt, Int.not_le] at hb4)
      obtain ⟨gA, bA, rfl⟩ := hI.addr (by rw [flat_length recC_len]; omega)
      have hfl := List.length_filter_le (uT t) l
      have hfi := List.length_filter_le (uT t) (l.take i)
      rw [List.length_take] at hfi
      refine GW_skip ?_
      refine GW_seq ?_
      refine GW_block ?_
      refine GW_seq ?_
      refine GW_drawnK 7 (.one 0 true (.one 1 true (.one 2 true (.one 3 true (.one 4 true (.one 5 true (.one 6 true .nil))))))) mixed (by kernel_rfl) hp (fun _ h => (h.sub (.cons _ (.cons _ (.cons_cons _ (.cons _ (.cons _ .slnil))))))) fun w hp => ?_
      have hpS := (hp.sub (.cons _ (.cons _ (.cons_cons _ (.cons _ (.cons _ .slnil))))))
      refine GO_rdT (v := .slice _ _ _) rfl (wn_none rfl) rfl (fun w => (rd_move rfl rfl)) ?_
      refine GO_rdT (v := .int _ _) rfl (wn_none rfl) rfl (fun w => (rd_move rfl rfl)) ?_
      refine GO_rdT rfl (wn_none rfl) rfl (fun w => (rd_indexS (j := i) rfl rfl rfl Try.underlying56 ts59 rfl (by omega) _ rfl)) ?_
      refine GO_rdT rfl (wn_none rfl) rfl (fun w => (rd_field rfl rfl fa59_1 _ rfl)) ?_
      refine GO_rd rfl rfl (wn_none rfl) rfl hpS (fun w hp => (rd_load rfl rfl Try.underlying3 rfl (Sl.recE (hI.keep hp.mod) i (by first | omega | assumption | exact Nat.lt_succ_self _) (rec_time _)))) ?_
      refine GO_rd rfl rfl (wn_none rfl) rfl hpS (fun w hp => (rd_load rfl rfl Try.underlying3 rfl ((cell_of_cells (hp.get 0 rfl) _).trans rfl))) ?_
      refine GO_rd rfl rfl (wn_none rfl) rfl hpS (fun w hp => (rd_bin rfl rfl rfl bo_leq)) ?_
      refine GO_nil ?_
      refine GW_cond rfl (fun hb5 => ?_) (fun hb5 => ?_)
      ·(try simp only [decide_eq_true_eq, decide_eq_false_iff_not, Bool.not_eq_true', Bool.not_eq_false', Bool.not_eq_eq_eq_not, Bool.not_true, Bool.not_false, Int.not_lt, Int.not_le] at hb5)
       have e1 := filt_yes (p := uT t) (recAt_some (l := l) (i := i) (by omega)) (decide_eq_true hb5)
       refine GW_region ?_
       refine GL_rd (wn_none rfl) rfl (rd_load rfl rfl Try.underlying3 rfl ((cell_of_cells (hp.get 0 rfl) _).trans rfl)) ?_
       refine GL_rd (wn_none rfl) rfl (rd_bin rfl rfl rfl (bo_sub64 (by omega))) ?_
       refine GL_store (i := 0) (wn_none rfl) rfl rfl rfl rfl ts3 rfl rfl (one1 rfl) hp rfl (by first | exact Nat.le_of_ble_eq_true rfl | simp [bys_length, *]) rfl ?_
       intro w hp
       refine GL_nil ?_
       refine GW_region ?_
       refine GL_rd (v := .int _ _) (wn_none rfl) rfl (rd_move rfl rfl) ?_
       refine GL_rd (wn_none rfl) rfl (rd_bin rfl rfl rfl (bo_add64 (by omega))) ?_
       refine GL_rd (v := .int _ _) (wn_none rfl) rfl (rd_assign rfl rfl) ?_
       refine GL_nil ?_
       have e2 : (((l.filter (uT t)).length : Int) - (((l.take i).filter (uT t)).length : Int)) - 1 = (((l.filter (uT t)).length : Int) - (((l.take (i + 1)).filter (uT t)).length : Int)) := by rw [e1, List.length_append, List.length_singleton]; omega
       rw [e2] at hp
       have hp := ((((((hp.front 4 rfl).front 4 rfl).front 4 rfl).front 4 rfl).front 4 rfl).take 5)
       exact ihL0 (i + 1, _) _ _ (by simp only []; omega) ⟨_, slots7 rfl rfl rfl rfl rfl rfl rfl, hp, by omega, hI⟩
      ·(try simp only [decide_eq_true_eq, decide_eq_false_iff_not, Bool.not_eq_true', Bool.not_eq_false', Bool.not_eq_eq_eq_not, Bool.not_true, Bool.not_false, Int.not_lt, Int.not_le] at hb5)
       have e1 := filt_none (p := uT t) (recAt_some (l := l) (i := i) (by omega)) (decide_eq_false (by have := hb5; omega))
       refine GW_skip ?_
       refine GW_region ?_
       refine GL_rd (v := .int _ _) (wn_none rfl) rfl (rd_move rfl rfl) ?_
       refine GL_rd (wn_none rfl) rfl (rd_bin rfl rfl rfl (bo_add64 (by omega))) ?_
       refine GL_rd (v := .int _ _) (wn_none rfl) rfl (rd_assign rfl rfl) ?_
       refine GL_nil ?_
       have e2 : (((l.filter (uT t)).length : Int) - (((l.take i).filter (uT t)).length : Int)) = (((l.filter (uT t)).length : Int) - (((l.take (i + 1)).filter (uT t)).length : Int)) := by rw [e1]
       rw [e2] at hp
       have hp := ((((((hp.front 4 rfl).front 4 rfl).front 4 rfl).front 4 rfl).front 4 rfl).take 5)
       exact ihL0 (i + 1, _) _ _ (by simp only []; omega) ⟨_, slots7 rfl rfl rfl rfl rfl rfl rfl, hp, by omega, hI⟩
     ·(try simp only [decide_eq_true_eq, decide_eq_false_iff_not, Bool.not_eq_true', Bool.not_eq_false', Bool.not_eq_eq_eq_not, Bool.not_true, Bool.not_false, Int.not_lt, Int.not_le] at hb4)
      obtain rfl : m = i := by omega
      rw [List.take_of_length_le (by omega), Int.sub_self] at hp
      refine GW_exit ?_
      refine GW_seq ?_
      refine GW_drawnK 35 (.one 0 true (.one 1 true (.one 2 true (.one 3 true (.one 4 true (.one 5 true (.one 8 true (.one 9 true (.one 10 true (.one 6 false (.one 7 false (.one 11 false (.one 12 false (.one 13 true (.one 14 true (.one 15 true (.one 17 true (.one 16 false (.one 18 false (.one 19 false (.one 20 true (.one 21 true (.one 22 true (.one 23 true (.one 24 true (.one 26 true (.one 27 true (.one 28 true (.one 25 false (.one 29 false (.one 30 false (.one 31 true (.one 32 true (.one 33 false (.one 34 true (.one 35 false .nil)))))))))))))))))))))))))))))))))))) mixed (by kernel_rfl) hp (fun _ h => (h.sub (.cons_cons _ (.cons_cons _ (.cons_cons _ (.cons _ (.cons _ .slnil))))))) fun w hp => ?_
      have hpS2 := (hp.sub (.cons_cons _ (.cons_cons _ (.cons_cons _ (.cons _ (.cons _ .slnil))))))
      refine GO_rd rfl rfl (wn_none rfl) rfl hpS2 (fun w hp => (rd_load rfl rfl Try.underlying3 rfl ((cell_of_cells (hp.get 0 rfl) _).trans rfl))) ?_
      refine GO_rd rfl rfl (wn_none rfl) rfl hpS2 (fun w hp => (rd_bin rfl rfl rfl (bo_boolE (q := true) bo_eql (decide_eq_true rfl)))) ?_
      refine GO_rdT (v := .bool _) rfl (wn_none rfl) rfl (fun w => (rd_move rfl rfl)) ?_
      refine GO_rdT (v := .slice _ _ _) rfl (wn_on rfl rfl rfl rfl) rfl (fun w => (rd_move rfl rfl)) ?_
      refine GO_rd rfl rfl (wn_on rfl rfl rfl rfl) rfl hpS2 (fun w hp => (rd_loadC rfl rfl Try.underlying57 rfl ts57 (hp.get 1 rfl) (by first | (rw [bys_length]; first | exact a32_len _) | rfl | simp [bys_length, *]))) ?_
      refine GO_rd rfl rfl (wn_on rfl rfl rfl rfl) rfl hpS2 (fun w hp => (rd_load rfl rfl Try.underlying3 rfl ((cell_of_cells (hp.get 2 rfl) _).trans rfl))) ?_
      refine GO_rdT (v := .slice _ _ _) rfl (wn_on rfl rfl rfl rfl) rfl (fun w => (rd_move rfl rfl)) ?_
      refine GO_rd rfl rfl (wn_on rfl rfl rfl rfl) rfl hpS2 (fun w hp => (rd_loadC rfl rfl Try.underlying57 rfl ts57 (hp.get 1 rfl) (by first | (rw [bys_length]; first | exact a32_len _) | rfl | simp [bys_length, *]))) ?_
      refine GO_rd rfl rfl (wn_on rfl rfl rfl rfl) rfl hpS2 (fun w hp => (rd_load rfl rfl Try.underlying3 rfl ((cell_of_cells (hp.get 2 rfl) _).trans rfl))) ?_
      refine GO_of_GL rfl ?_
      refine GL_call (wn_on rfl rfl rfl rfl) rfl rfl (his_Of _ m l a t _ (hI.keep hp.mod) (by omega)) rfl ?_
      rintro _ w ⟨hu1, rfl, hk⟩
      have hp := hp.comp hk
      obtain ⟨A1, c1, rfl⟩ := row_shape (hp.get 0 rfl)
      have hpS3 := (hp.sub (.cons _ (.cons_cons _ (.cons_cons _ (.cons_cons _ (.cons _ (.cons _ .slnil)))))))
      refine GL_nil ⟨fun _ => hpS3, ?_⟩
      refine GO_of_GL rfl ?_
      refine GL_call (wn_on rfl rfl rfl rfl) rfl rfl (law_own _ _ _ (hOf l a t) _) rfl ?_
      rintro _ w ⟨rfl, hk⟩
      have hp := hp.comp hk
      have hpS4 := (hp.sub (.cons _ (.cons_cons _ (.cons_cons _ (.cons_cons _ (.cons _ (.cons _ .slnil)))))))
      refine GL_nil ⟨fun _ => hpS4, ?_⟩
      refine GO_of_GL rfl ?_
      refine GL_call (wn_on rfl rfl rfl rfl) rfl rfl (ref_Of _ m l a t _ (hI.keep hp.mod) (by omega)) rfl ?_
      rintro _ w ⟨hu2, rfl, hk⟩
      have hp := hp.comp hk
      obtain ⟨A2, c2, rfl⟩ := row_shape (hp.get 0 rfl)
      have hpS5 := (hp.sub (.cons _ (.cons _ (.cons_cons _ (.cons_cons _ (.cons_cons _ (.cons _ (.cons _ .slnil))))))))
      refine GL_nil ⟨fun _ => hpS5, ?_⟩
      refine GO_of_GL rfl ?_
      refine GL_call (wn_on rfl rfl rfl rfl) rfl rfl (ref_SameS _ _ _ _ (hOf l a t) _ (Sl.row (hp.get 1 rfl)) (Sl.row (hp.get 0 rfl))) rfl ?_
      rintro _ w ⟨rfl, hk⟩
      have hp := hp.comp hk
      have hpS6 := (hp.sub (.cons _ (.cons _ (.cons_cons _ (.cons_cons _ (.cons_cons _ (.cons _ (.cons _ .slnil))))))))
      refine GL_nil ⟨fun _ => hpS6, ?_⟩
      refine GO_rdT (v := .bool _) rfl (wn_none rfl) rfl (fun w => (rd_pickT rfl rfl rfl)) ?_
      refine GO_rdT (v := .bool _) rfl (wn_none rfl) rfl (fun w => (rd_move rfl rfl)) ?_
      refine GO_rdT (v := .slice _ _ _) rfl (wn_on rfl rfl rfl rfl) rfl (fun w => (rd_move rfl rfl)) ?_
      refine GO_rdT (v := .slice _ _ _) rfl (wn_on rfl rfl rfl rfl) rfl (fun w => (rd_move rfl rfl)) ?_
      refine GO_of_GL rfl ?_
      refine GL_call (wn_on rfl rfl rfl rfl) rfl rfl (his_Clips _ m l _ (hI.keep hp.mod) (by omega)) rfl ?_
      intro vc1 w hk
      have hp := hp.comp hk
      have hpS7 := (hp.sub (.cons _ (.cons _ (.cons _ (.cons_cons _ (.cons_cons _ (.cons_cons _ (.cons _ (.cons _ .slnil)))))))))
      refine GL_nil ⟨fun _ => hpS7, ?_⟩
      refine GO_of_GL rfl ?_
      refine GL_call (wn_on rfl rfl rfl rfl) rfl rfl (ref_Clips _ m l _ (hI.keep hp.mod) (by omega)) rfl ?_
      intro vc2 w hk
      have hp := hp.comp hk
      have hpS8 := (hp.sub (.cons _ (.cons _ (.cons _ (.cons _ (.cons_cons _ (.cons_cons _ (.cons_cons _ (.cons _ (.cons _ .slnil))))))))))
      refine GL_nil ⟨fun _ => hpS8, ?_⟩
      refine GO_of_GL rfl ?_
      refine GL_call (wn_on rfl rfl rfl rfl) rfl rfl (law_hsame _ _ _ (clipsL l) _ (Sl.row (hp.get 1 rfl)) (Sl.row (hp.get 0 rfl))) rfl ?_
      rintro _ w ⟨rfl, hk⟩
      have hp := hp.comp hk
      have hpS9 := (hp.sub (.cons _ (.cons _ (.cons _ (.cons _ (.cons_cons _ (.cons_cons _ (.cons_cons _ (.cons _ (.cons _ .slnil))))))))))
      refine GL_nil ⟨fun _ => hpS9, ?_⟩
      refine GO_rdT (v := .bool _) rfl (wn_none rfl) rfl (fun w => (rd_pickT rfl rfl rfl)) ?_
      refine GO_rdT (v := .bool _) rfl (wn_none rfl) rfl (fun w => (rd_move rfl rfl)) ?_
      refine GO_rdT (v := .slice _ _ _) rfl (wn_on rfl rfl rfl rfl) rfl (fun w => (rd_move rfl rfl)) ?_
      refine GO_rdT (v := .string _) rfl (wn_on rfl rfl rfl rfl) rfl (fun w => (rd_move rfl rfl)) ?_
      refine GO_rd rfl rfl (wn_on rfl rfl rfl rfl) rfl hpS9 (fun w hp => (rd_load rfl rfl Try.underlying3 rfl ((cell_of_cells (hp.get 2 rfl) _).trans rfl))) ?_
      refine GO_rdT (v := .slice _ _ _) rfl (wn_on rfl rfl rfl rfl) rfl (fun w => (rd_move rfl rfl)) ?_
      refine GO_rdT (v := .string _) rfl (wn_on rfl rfl rfl rfl) rfl (fun w => (rd_move rfl rfl)) ?_
      refine GO_rd rfl rfl (wn_on rfl rfl rfl rfl) rfl hpS9 (fun w hp => (rd_load rfl rfl Try.underlying3 rfl ((cell_of_cells (hp.get 2 rfl) _).trans rfl))) ?_
      refine GO_of_GL rfl ?_
      refine GL_call (wn_on rfl rfl rfl rfl) rfl rfl (his_Held _ m l nm t _ (hI.keep hp.mod) (by omega)) rfl ?_
      intro vh1 w hk
      have hp := hp.comp hk
      have hpS10 := (hp.sub (.cons _ (.cons _ (.cons _ (.cons _ (.cons _ (.cons_cons _ (.cons_cons _ (.cons_cons _ (.cons _ (.cons _ .slnil)))))))))))
      refine GL_nil ⟨fun _ => hpS10, ?_⟩
      refine GO_of_GL rfl ?_
      refine GL_call (wn_on rfl rfl rfl rfl) rfl rfl (ref_Held _ m l nm t _ (hI.keep hp.mod) (by omega)) rfl ?_
      intro vh2 w hk
      have hp := hp.comp hk
      have hpS11 := (hp.sub (.cons _ (.cons _ (.cons _ (.cons _ (.cons _ (.cons _ (.cons_cons _ (.cons_cons _ (.cons_cons _ (.cons _ (.cons _ .slnil))))))))))))
      refine GL_nil ⟨fun _ => hpS11, ?_⟩
      refine GO_of_GL rfl ?_
      refine GL_call (wn_on rfl rfl rfl rfl) rfl rfl (law_hsame _ _ _ (heldL l nm t) _ (Sl.row (hp.get 1 rfl)) (Sl.row (hp.get 0 rfl))) rfl ?_
      rintro _ w ⟨rfl, hk⟩
      have hp := hp.comp hk
      have hpS12 := (hp.sub (.cons _ (.cons _ (.cons _ (.cons _ (.cons _ (.cons _ (.cons_cons _ (.cons_cons _ (.cons_cons _ (.cons _ (.cons _ .slnil))))))))))))
      refine GL_nil ⟨fun _ => hpS12, ?_⟩
      refine GO_rdT (v := .bool _) rfl (wn_none rfl) rfl (fun w => (rd_pickT rfl rfl rfl)) ?_
      refine GO_rdT (v := .bool _) rfl (wn_none rfl) rfl (fun w => (rd_move rfl rfl)) ?_
      refine GO_of_GL rfl ?_
      refine GL_call (wn_on rfl rfl rfl rfl) rfl rfl (law_hworks _) rfl ?_
      rintro _ w ⟨rfl, hk⟩
      have hp := hp.comp hk
      have hpS13 := (hp.sub (.cons _ (.cons _ (.cons _ (.cons _ (.cons _ (.cons _ (.cons_cons _ (.cons_cons _ (.cons_cons _ (.cons _ (.cons _ .slnil))))))))))))
      refine GL_nil ⟨fun _ => hpS13, ?_⟩
      refine GO_rdT (v := .bool _) rfl (wn_none rfl) rfl (fun w => (rd_pickT rfl rfl rfl)) ?_
      refine GO_of_GL rfl ?_
      refine GL_store (i := 9) (wn_none rfl) rfl rfl rfl rfl ts4 rfl rfl (one1 rfl) hp rfl (by first | exact Nat.le_of_ble_eq_true rfl | simp [bys_length, *]) (show splice _ _ _ = [.bool true] from rfl) ?_
      intro w hp
      refine GL_nil ⟨fun h => absurd h (by decide), ?_⟩
      refine GO_nil ?_
      refine GW_ret ?_
      refine (FM_of [Dm] ?_).1
      refine Shut_cons (i := 10) hp rfl fun w hp => ?_
      refine Shut_nil ?_
      exact ⟨_, res1 Try.results14 (rv_cell1 rfl rfl Try.underlying4 rfl (hp.get 9 rfl)), rfl, hp.mods⟩
    ·have hp := ((((((hp.front 0 rfl).front 4 rfl).front 4 rfl).front 4 rfl).front 4 rfl).take 5)
     have hp := hp.cast (show _ = [cells g4 3 [.int .i64 (((l.filter (uT t)).length : Int) - (((l.take 0).filter (uT t)).length : Int))], cells g 57 (bys a.1), cells g2 3 [.int .i64 t], cells g3 4 [.bool false], .blk Dm (.deferred (some []))] by rw [show (((l.filter (uT t)).length : Int) - (((l.take 0).filter (uT t)).length : Int)) = ((l.filter (uT t)).length : Int) from Int.sub_zero _]; rfl)
     refine ⟨_, slots7 rfl rfl rfl rfl rfl rfl rfl, hp, Nat.zero_le _, hI⟩
   ·intro c Dm w hc hp
    exact hc.elim
end Go.Proofs.Ytblpmjbddpadcaa
