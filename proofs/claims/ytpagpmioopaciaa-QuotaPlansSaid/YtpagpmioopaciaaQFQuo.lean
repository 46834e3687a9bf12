/- Walks of functions of the program. -/
import Derived.Test.YtpagpmioopaciaaQFImN
set_option linter.unusedVariables false
set_option linter.unusedSimpArgs false
namespace Go.Proofs.Ytpagpmioopaciaa
open Go.Mo Go.RowKit
theorem q_OfNil (w0 : World) : Does Try.prog 38 #[.pointer none] w0 fun v w' => v = .agg ⟨rmC rmZ⟩ ∧ Hp w0 [] w' [] := by
 refine does_of (l := [.pointer none]) Try.func38 (by kernel_rfl) rfl Try.ntmps38 rfl rfl (by kernel_rfl) ?_
 have hp := Hp.refl w0 []
 refine GW_seq ?_
 refine GW_region ?_
 refine GL_alloc (wn_none rfl) rfl rfl tz93 rfl hp ?_
 intro g w hp
 refine GL_nil ?_
 refine GW_seq ?_
 refine GW_seq ?_
 refine GW_region ?_
 refine GL_rd (v := .pointer none) (wn_none rfl) rfl (rd_move rfl rfl) ?_
 refine GL_rd (wn_none rfl) rfl (rd_bin rfl rfl rfl (bo_pnn Try.underlying29)) ?_
 refine GL_nil ?_
 refine GW_true rfl ?_
 refine GW_seq ?_
 refine GW_region ?_
 refine GL_rd (wn_none rfl) rfl (rd_buildS (L := (rmC rmZ)) rfl tz93 pl93 (by kernel_rfl)) ?_
 refine GL_store (i := 0) (wn_none rfl) rfl rfl rfl rfl ts93 rfl rfl (oneC rfl (oneC rfl (oneC rfl (oneC rfl (oneC rfl one0))))) hp rfl (by first | exact Nat.le_of_ble_eq_true rfl | simp [bys_length, *]) rfl ?_
 intro w hp
 refine GL_nil ?_
 refine GW_ret ?_
 exact ⟨_, res1 Try.results38 (rv_cell rfl rfl Try.underlying93 rfl ts93 rfl (hp.get 0 rfl)), rfl, hp.mods⟩
set_option maxHeartbeats 2000000 in
theorem q_Of (gx : Nat) (I : Im) (w0 : World) (hT : ImAt 117 171 174 gx I w0) (hpa : 0 ≤ I.p.a ∧ I.p.a ≤ 80) (hm2 : I.m.length ≤ 200) (hAl : I.A.length ≤ 80) : Does Try.prog 38 #[.pointer (some ⟨gx, 0, none⟩)] w0 fun v w' => v = .agg ⟨rmC (roomR I)⟩ ∧ Hp w0 [] w' [] := by
 obtain ⟨At, ct, htv⟩ := sl_shape hT.tx
 have htx := hT.tx
 rw [htv] at htx
 have htle := htx.le
 obtain ⟨Ac, cc, hcv⟩ := sl_shape hT.cl
 have hcl := hT.cl
 rw [hcv] at hcl
 have hcle := hcl.le
 obtain ⟨Aa, ca, hav⟩ := sl_shape hT.au
 have hau := hT.au
 rw [hav] at hau
 have hale := hau.le
 have hs0 := slN_le I.m 0
 have hs2 := slN_le I.m 2
 refine does_of (l := [.pointer (some ⟨gx, 0, none⟩)]) Try.func38 (by kernel_rfl) rfl Try.ntmps38 rfl rfl (by kernel_rfl) ?_
 have hp := Hp.refl w0 []
 refine GW_seq ?_
 refine GW_region ?_
 refine GL_alloc (wn_none rfl) rfl rfl tz93 rfl hp ?_
 intro g w hp
 refine GL_nil ?_
 refine GW_seq ?_
 refine GW_seq ?_
 refine GW_region ?_
 refine GL_rd (v := .pointer (some ⟨gx, 0, none⟩)) (wn_none rfl) rfl (rd_move rfl rfl) ?_
 refine GL_rd (wn_none rfl) rfl (rd_bin rfl rfl rfl (bo_pnil Try.underlying29)) ?_
 refine GL_nil ?_
 refine GW_false rfl ?_
 refine GW_skip ?_
 refine GW_cut (fun f_0 w' => ∃ (g2 : Nat) (fz : _), f_0 = (upd (upd (upd fz 3 (.pointer (some ⟨g2, 0, none⟩))) 0 (.pointer (some ⟨gx, 0, none⟩))) 2 (.pointer (some ⟨g, 0, none⟩))) ∧ Hp w0 [] w' [cells g 93 [.int .i64 0, .int .i64 0, .int .i64 0, .int .i64 0, .int .i64 0], cells g2 93 [.int .i64 (slN I.m 0 : Int), .int .i64 0, .int .i64 0, .int .i64 (I.p.a - (I.A.length : Int)), .int .i64 0]]) ?_ ?_
 ·skip
  refine GW_drawnK 19 (.one 0 true (.one 1 true (.one 2 true (.one 3 true (.one 5 true (.one 6 true (.one 7 true (.one 8 true (.one 9 true (.one 10 true (.one 11 true (.one 12 true (.one 13 true (.one 14 true (.one 15 true (.one 16 true (.two 4 18 (.one 17 true (.one 18 false (.one 19 false .nil))) (.one 4 false (.one 17 true (.one 19 false .nil)))))))))))))))))))) mixed (by kernel_rfl) hp (fun _ h => h) fun w hp => ?_
  have hpS := hp
  refine GO_rdT (v := .pointer (some ⟨gx, 0, none⟩)) rfl (wn_none rfl) rfl (fun w => (rd_move rfl rfl)) ?_
  refine GO_rdT rfl (wn_none rfl) rfl (fun w => (rd_nilCheck rfl rfl)) ?_
  refine GO_rdT rfl (wn_none rfl) rfl (fun w => (rd_field rfl rfl fa117_1 _ rfl)) ?_
  refine GO_rd (v := .pointer (some ⟨I.mg, 0, none⟩)) rfl rfl (wn_none rfl) rfl hpS (fun w hp => (rd_load rfl rfl Try.underlying104 rfl ((cell_of_cells (hT.keep hp.mod).i _).trans rfl))) ?_
  refine GO_rdT (v := .pointer (some ⟨gx, 0, none⟩)) rfl (wn_none rfl) rfl (fun w => (rd_move rfl rfl)) ?_
  refine GO_rdT rfl (wn_none rfl) rfl (fun w => (rd_nilCheck rfl rfl)) ?_
  refine GO_rdT rfl (wn_none rfl) rfl (fun w => (rd_field rfl rfl fa117_0 _ rfl)) ?_
  refine GO_rdT rfl (wn_none rfl) rfl (fun w => (rd_field rfl rfl fa101_0 _ rfl)) ?_
  refine GO_rdT rfl (wn_none rfl) rfl (fun w => (rd_field rfl rfl fa23_3 _ rfl)) ?_
  refine GO_rd rfl rfl (wn_none rfl) rfl hpS (fun w hp => (rd_load rfl rfl Try.underlying3 rfl ((cell_of_cells (hT.keep hp.mod).i _).trans rfl))) ?_
  refine GO_rdT (v := .pointer (some ⟨gx, 0, none⟩)) rfl (wn_none rfl) rfl (fun w => (rd_move rfl rfl)) ?_
  refine GO_rdT rfl (wn_none rfl) rfl (fun w => (rd_nilCheck rfl rfl)) ?_
  refine GO_rdT rfl (wn_none rfl) rfl (fun w => (rd_field rfl rfl fa117_6 _ rfl)) ?_
  refine GO_rd (v := .slice _ _ _) rfl rfl (wn_none rfl) rfl hpS (fun w hp => (rd_load rfl rfl Try.underlying76 rfl ((cell_of_cells (hT.keep hp.mod).i _).trans (Eq.trans (show (imC I)[19]? = some I.av from rfl) (congrArg some hav))))) ?_
  refine GO_rd rfl rfl (wn_none rfl) rfl hpS (fun w hp => (rd_len rfl rfl Try.underlying76)) ?_
  refine GO_rd rfl rfl (wn_none rfl) rfl hpS (fun w hp => (rd_bin rfl rfl rfl (bo_sub64 (by omega)))) ?_
  refine GO_two rfl rfl ?_ ?_
  ·skip
   refine GC_of_GL ?_
   refine GL_call (wn_none rfl) rfl rfl (sm_Count I.mg 0 I.mv I.m _ (hT.keep hp.mod).mm (hT.keep hp.mod).mb) rfl ?_
   rintro _ w ⟨rfl, hk⟩
   have hp := hp.comp hk
   have hpS2 := hp
   refine GL_nil ⟨fun _ => hpS2, ?_⟩
   refine GO_rd rfl rfl (wn_none rfl) rfl hpS2 (fun w hp => (rd_buildS (L := [.int .i64 (slN I.m 0 : Int), .int .i64 0, .int .i64 0, .int .i64 (I.p.a - (I.A.length : Int)), .int .i64 0]) rfl tz93 pl93 (by kernel_rfl))) ?_
   refine GO_of_GL rfl ?_
   refine GL_alloc (wn_none rfl) rfl rfl tz93 rfl hp ?_
   intro g2 w hp
   have hpS3 := (hp.sub (.cons _ (.cons_cons _ .slnil)))
   refine GL_nil ⟨fun _ => hpS3, ?_⟩
   refine GO_of_GL rfl ?_
   refine GL_store (i := 0) (wn_none rfl) rfl rfl rfl rfl ts93 rfl rfl (oneC rfl (oneC rfl (oneC rfl (oneC rfl (oneC rfl one0))))) hp rfl (by first | exact Nat.le_of_ble_eq_true rfl | simp [bys_length, *]) rfl ?_
   intro w hp
   refine GL_nil ⟨fun h => absurd h (by decide), ?_⟩
   refine GO_nil ?_
   have hp := (((hp.front 0 rfl).front 1 rfl).take 2)
   exact ⟨g2, _, slots3 rfl rfl rfl, hp⟩
  ·skip
   refine GC_of_GL ?_
   refine GL_alloc (wn_none rfl) rfl rfl tz93 rfl hp ?_
   intro g3 w hp
   have hpS4 := (hp.sub (.cons _ (.cons_cons _ .slnil)))
   refine GL_nil ⟨fun _ => hpS4, ?_⟩
   refine GO_of_GL rfl ?_
   refine GL_call (wn_none rfl) rfl rfl (sm_Count I.mg 0 I.mv I.m _ (hT.keep hp.mod).mm (hT.keep hp.mod).mb) rfl ?_
   rintro _ w ⟨rfl, hk⟩
   have hp := hp.comp hk
   have hpS5 := (hp.sub (.cons _ (.cons_cons _ .slnil)))
   refine GL_nil ⟨fun _ => hpS5, ?_⟩
   refine GO_rd rfl rfl (wn_none rfl) rfl hpS5 (fun w hp => (rd_buildS (L := [.int .i64 (slN I.m 0 : Int), .int .i64 0, .int .i64 0, .int .i64 (I.p.a - (I.A.length : Int)), .int .i64 0]) rfl tz93 pl93 (by kernel_rfl))) ?_
   refine GO_of_GL rfl ?_
   refine GL_store (i := 0) (wn_none rfl) rfl rfl rfl rfl ts93 rfl rfl (oneC rfl (oneC rfl (oneC rfl (oneC rfl (oneC rfl one0))))) hp rfl (by first | exact Nat.le_of_ble_eq_true rfl | simp [bys_length, *]) rfl ?_
   intro w hp
   refine GL_nil ⟨fun h => absurd h (by decide), ?_⟩
   refine GO_nil ?_
   have hp := (((hp.front 0 rfl).front 1 rfl).take 2)
   exact ⟨g3, _, slots3 rfl rfl rfl, hp⟩
 ·rintro f w ⟨g2, fz, rfl, hp⟩
  refine GW_seq ?_
  refine GW_drawnK 9 (.one 0 true (.one 1 true (.one 2 true (.one 3 true (.one 4 true (.one 5 true (.one 6 false (.one 7 true (.one 8 true (.one 9 false .nil)))))))))) mixed (by kernel_rfl) hp (fun _ h => (h.sub (.cons _ (.cons_cons _ .slnil)))) fun w hp => ?_
  have hpS6 := (hp.sub (.cons _ (.cons_cons _ .slnil)))
  refine GO_rdT rfl (wn_none rfl) rfl (fun w => (rd_field rfl rfl fa93_0 _ rfl)) ?_
  refine GO_rd rfl rfl (wn_none rfl) rfl hpS6 (fun w hp => (rd_load rfl rfl Try.underlying3 rfl ((cell_of_cells (hp.get 0 rfl) _).trans rfl))) ?_
  refine GO_rdT (v := .pointer (some ⟨gx, 0, none⟩)) rfl (wn_none rfl) rfl (fun w => (rd_move rfl rfl)) ?_
  refine GO_rdT rfl (wn_none rfl) rfl (fun w => (rd_nilCheck rfl rfl)) ?_
  refine GO_rdT rfl (wn_none rfl) rfl (fun w => (rd_field rfl rfl fa117_1 _ rfl)) ?_
  refine GO_rd (v := .pointer (some ⟨I.mg, 0, none⟩)) rfl rfl (wn_none rfl) rfl hpS6 (fun w hp => (rd_load rfl rfl Try.underlying104 rfl ((cell_of_cells (hT.keep hp.mod).i _).trans rfl))) ?_
  refine GO_of_GL rfl ?_
  refine GL_call (wn_none rfl) rfl rfl (sm_Count I.mg 2 I.mv I.m _ (hT.keep hp.mod).mm (hT.keep hp.mod).mb) rfl ?_
  rintro _ w ⟨rfl, hk⟩
  have hp := hp.comp hk
  have hpS7 := (hp.sub (.cons _ (.cons_cons _ .slnil)))
  refine GL_nil ⟨fun _ => hpS7, ?_⟩
  refine GO_rd rfl rfl (wn_none rfl) rfl hpS7 (fun w hp => (rd_bin rfl rfl rfl (bo_add64 (by omega)))) ?_
  refine GO_rdT rfl (wn_none rfl) rfl (fun w => (rd_field rfl rfl fa93_4 _ rfl)) ?_
  refine GO_of_GL rfl ?_
  refine GL_store (i := 1) (wn_none rfl) rfl rfl rfl rfl ts3 rfl rfl (one1 rfl) hp rfl (by first | exact Nat.le_of_ble_eq_true rfl | simp [bys_length, *]) rfl ?_
  intro w hp
  refine GL_nil ⟨fun h => absurd h (by decide), ?_⟩
  refine GO_nil ?_
  refine GW_seq ?_
  refine GW_seq ?_
  refine GW_region ?_
  refine GL_rd (v := .pointer (some ⟨gx, 0, none⟩)) (wn_none rfl) rfl (rd_move rfl rfl) ?_
  refine GL_rd (wn_none rfl) rfl (rd_nilCheck rfl rfl) ?_
  refine GL_rd (wn_none rfl) rfl (rd_field rfl rfl fa117_4 _ rfl) ?_
  refine GL_rd (v := .slice _ _ _) (wn_none rfl) rfl (rd_load rfl rfl Try.underlying112 rfl ((cell_of_cells (hT.keep hp.mod).i _).trans (Eq.trans (show (imC I)[17]? = some I.tv from rfl) (congrArg some htv)))) ?_
  refine GL_rd (wn_none rfl) rfl (rd_len rfl rfl Try.underlying112) ?_
  refine GL_rd (v := .int _ _) (wn_none rfl) rfl (rd_move rfl rfl) ?_
  refine GL_nil ?_
  refine GW_block ?_
  refine GW_loop ?_
  refine Lp_ind (α := Nat × Option Addr) (fun a_0 f_0 w' => match a_0 with | (i, At) => ∃ fz, f_0 = (upd (upd (upd (upd (upd (upd fz 41 (.slice At I.T.length ct)) 42 (.int .i64 (I.T.length : Int))) 43 (.int .i64 (i : Int))) 0 (.pointer (some ⟨gx, 0, none⟩))) 2 (.pointer (some ⟨g, 0, none⟩))) 3 (.pointer (some ⟨g2, 0, none⟩))) ∧ Hp w0 [] w' [cells g 93 [.int .i64 0, .int .i64 0, .int .i64 0, .int .i64 0, .int .i64 0], cells g2 93 [.int .i64 (slN I.m 0 : Int), .int .i64 (freT I.T i : Int), .int .i64 0, .int .i64 (I.p.a - (I.A.length : Int)), .int .i64 ((slN I.m 0 : Int) + (slN I.m 2 : Int))]] ∧ (i ≤ I.T.length) ∧ (Sl w0 (.slice At I.T.length ct) 35 I.T.length (I.T.flatMap tvC))) (fun a_0 => match a_0 with | (i, At) => I.T.length - i) ?_ (0, At) _ _ ?_
  ·rintro ⟨i, At⟩ f wz ⟨fz, rfl, hp, hi0, htx⟩ ihL0
   refine Lp_round ?_
   refine GW_seq ?_
   refine GW_region ?_
   refine GL_rd (wn_none rfl) rfl (rd_bin rfl rfl rfl bo_lss) ?_
   refine GL_nil ?_
   refine GW_seq ?_
   refine GW_cond rfl (fun hb => ?_) (fun hb => ?_)
   ·(try simp only [decide_eq_true_eq, decide_eq_false_iff_not, Bool.not_eq_true', Bool.not_eq_false', Bool.not_eq_eq_eq_not, Bool.not_true, Bool.not_false, Int.not_lt, Int.not_le] at hb)
    obtain ⟨gA, bA, rfl⟩ := htx.addr (by rw [flat_length tvC_len]; omega)
    refine GW_skip ?_
    refine GW_seq ?_
    refine GW_block ?_
    refine GW_seq ?_
    refine GW_region ?_
    refine GL_rd (wn_none rfl) rfl (rd_indexS (j := i) rfl rfl rfl Try.underlying112 ts158 rfl (by omega) _ rfl) ?_
    refine GL_rd (wn_none rfl) rfl (rd_loadN (L := tvC _) rfl rfl Try.underlying158 rfl ts158 (tvC_len _) (fun jq u hj => Sl.tvE (htx.keep hp.mod) i (by first | omega | assumption | exact Nat.lt_succ_self _) hj)) ?_
    refine GL_alloc (wn_none rfl) rfl rfl tz158 rfl hp ?_
    intro g4 w hp
    refine GL_store (i := 0) (wn_none rfl) rfl rfl rfl rfl ts158 rfl (tvC_len _) (tvC_one (hT.txs _ (tvAt_mem (i := i) (by omega)))) hp rfl (by first | exact Nat.le_of_ble_eq_true rfl | (rw [tvC_len]; decide)) (splice_all _ _ (by first | rw [tvC_len, tvC_len] | (rw [tvC_len]; rfl))) ?_
    intro w hp
    refine GL_nil ?_
    refine GW_seq ?_
    refine GW_region ?_
    refine GL_rd (wn_none rfl) rfl (rd_field rfl rfl fa158_1 _ rfl) ?_
    refine GL_rd (wn_none rfl) rfl (rd_load rfl rfl Try.underlying3 rfl ((cell_of_cells (hp.get 0 rfl) _).trans (tv_size _))) ?_
    refine GL_rd (wn_none rfl) rfl (rd_bin rfl rfl rfl bo_eql) ?_
    refine GL_nil ?_
    refine GW_cond rfl (fun hb2 => ?_) (fun hb2 => ?_)
    ·(try simp only [decide_eq_true_eq, decide_eq_false_iff_not, Bool.not_eq_true', Bool.not_eq_false', Bool.not_eq_eq_eq_not, Bool.not_true, Bool.not_false, Int.not_lt, Int.not_le] at hb2)
     have e1 : freT I.T (i + 1) = freT I.T i + 1 := by rw [freT_succ (by omega), if_pos hb2]
     have hfl := freT_le I.T i
     refine GW_region ?_
     refine GL_rd (wn_none rfl) rfl (rd_field rfl rfl fa93_1 _ rfl) ?_
     refine GL_rd (wn_none rfl) rfl (rd_load rfl rfl Try.underlying3 rfl ((cell_of_cells (hp.get 2 rfl) _).trans rfl)) ?_
     refine GL_rd (wn_none rfl) rfl (rd_bin rfl rfl rfl (bo_add64 (by omega))) ?_
     refine GL_rd (wn_none rfl) rfl (rd_field rfl rfl fa93_1 _ rfl) ?_
     refine GL_store (i := 2) (wn_none rfl) rfl rfl rfl rfl ts3 rfl rfl (one1 rfl) hp rfl (by first | exact Nat.le_of_ble_eq_true rfl | simp [bys_length, *]) rfl ?_
     intro w hp
     refine GL_nil ?_
     refine GW_region ?_
     refine GL_rd (wn_none rfl) rfl (rd_bin rfl rfl rfl (bo_add64 (by omega))) ?_
     refine GL_rd (v := .int _ _) (wn_none rfl) rfl (rd_move rfl rfl) ?_
     refine GL_nil ?_
     have e2 : (freT I.T (i + 1) : Int) = _ := congrArg Nat.cast e1
     have hp := (((hp.front 2 rfl).front 2 rfl).take 2)
     have hp : Hp w0 [] w [cells g 93 [.int .i64 0, .int .i64 0, .int .i64 0, .int .i64 0, .int .i64 0], cells g2 93 [.int .i64 (slN I.m 0 : Int), .int .i64 (freT I.T (i + 1) : Int), .int .i64 0, .int .i64 (I.p.a - (I.A.length : Int)), .int .i64 ((slN I.m 0 : Int) + (slN I.m 2 : Int))]] := by rw [e2]; exact hp
     exact ihL0 (i + 1, _) _ _ (by simp only []; omega) ⟨_, slots6 rfl rfl rfl rfl rfl rfl, hp, by omega, htx⟩
    ·(try simp only [decide_eq_true_eq, decide_eq_false_iff_not, Bool.not_eq_true', Bool.not_eq_false', Bool.not_eq_eq_eq_not, Bool.not_true, Bool.not_false, Int.not_lt, Int.not_le] at hb2)
     have e1 : freT I.T (i + 1) = freT I.T i := by rw [freT_succ (by omega), if_neg hb2]
     refine GW_skip ?_
     refine GW_region ?_
     refine GL_rd (wn_none rfl) rfl (rd_bin rfl rfl rfl (bo_add64 (by omega))) ?_
     refine GL_rd (v := .int _ _) (wn_none rfl) rfl (rd_move rfl rfl) ?_
     refine GL_nil ?_
     have e2 : (freT I.T (i + 1) : Int) = _ := congrArg Nat.cast e1
     have hp := (((hp.front 2 rfl).front 2 rfl).take 2)
     have hp : Hp w0 [] w [cells g 93 [.int .i64 0, .int .i64 0, .int .i64 0, .int .i64 0, .int .i64 0], cells g2 93 [.int .i64 (slN I.m 0 : Int), .int .i64 (freT I.T (i + 1) : Int), .int .i64 0, .int .i64 (I.p.a - (I.A.length : Int)), .int .i64 ((slN I.m 0 : Int) + (slN I.m 2 : Int))]] := by rw [e2]; exact hp
     exact ihL0 (i + 1, _) _ _ (by simp only []; omega) ⟨_, slots6 rfl rfl rfl rfl rfl rfl, hp, by omega, htx⟩
   ·(try simp only [decide_eq_true_eq, decide_eq_false_iff_not, Bool.not_eq_true', Bool.not_eq_false', Bool.not_eq_eq_eq_not, Bool.not_true, Bool.not_false, Int.not_lt, Int.not_le] at hb)
    have hiT : i = I.T.length := by omega
    rw [hiT] at hp
    refine GW_exit ?_
    refine GW_seq ?_
    refine GW_seq ?_
    refine GW_region ?_
    refine GL_rd (v := .pointer (some ⟨gx, 0, none⟩)) (wn_none rfl) rfl (rd_move rfl rfl) ?_
    refine GL_rd (wn_none rfl) rfl (rd_nilCheck rfl rfl) ?_
    refine GL_rd (wn_none rfl) rfl (rd_field rfl rfl fa117_5 _ rfl) ?_
    refine GL_rd (v := .slice _ _ _) (wn_none rfl) rfl (rd_load rfl rfl Try.underlying113 rfl ((cell_of_cells (hT.keep hp.mod).i _).trans (Eq.trans (show (imC I)[18]? = some I.cv from rfl) (congrArg some hcv)))) ?_
    refine GL_rd (wn_none rfl) rfl (rd_len rfl rfl Try.underlying113) ?_
    refine GL_rd (v := .int _ _) (wn_none rfl) rfl (rd_move rfl rfl) ?_
    refine GL_nil ?_
    refine GW_block ?_
    refine GW_loop ?_
    refine Lp_ind (α := Nat × Option Addr) (fun a_0 f_0 w' => match a_0 with | (i, Ac) => ∃ fz, f_0 = (upd (upd (upd (upd (upd fz 58 (.slice Ac I.C.length cc)) 59 (.int .i64 (I.C.length : Int))) 60 (.int .i64 (i : Int))) 2 (.pointer (some ⟨g, 0, none⟩))) 3 (.pointer (some ⟨g2, 0, none⟩))) ∧ Hp w0 [] w' [cells g 93 [.int .i64 0, .int .i64 0, .int .i64 0, .int .i64 0, .int .i64 0], cells g2 93 [.int .i64 (slN I.m 0 : Int), .int .i64 (freT I.T I.T.length : Int), .int .i64 (freC I.C i : Int), .int .i64 (I.p.a - (I.A.length : Int)), .int .i64 ((slN I.m 0 : Int) + (slN I.m 2 : Int))]] ∧ (i ≤ I.C.length) ∧ (Sl w0 (.slice Ac I.C.length cc) 39 I.C.length (I.C.flatMap cvC))) (fun a_0 => match a_0 with | (i, Ac) => I.C.length - i) ?_ (0, Ac) _ _ ?_
    ·rintro ⟨i, Ac⟩ f wz ⟨fz, rfl, hp, hi0, hcl⟩ ihL1
     refine Lp_round ?_
     refine GW_seq ?_
     refine GW_region ?_
     refine GL_rd (wn_none rfl) rfl (rd_bin rfl rfl rfl bo_lss) ?_
     refine GL_nil ?_
     refine GW_seq ?_
     refine GW_cond rfl (fun hb3 => ?_) (fun hb3 => ?_)
     ·(try simp only [decide_eq_true_eq, decide_eq_false_iff_not, Bool.not_eq_true', Bool.not_eq_false', Bool.not_eq_eq_eq_not, Bool.not_true, Bool.not_false, Int.not_lt, Int.not_le] at hb3)
      obtain ⟨gC, bC, rfl⟩ := hcl.addr (by rw [flat_length cvC_len]; omega)
      obtain ⟨Ax, cx, hxt⟩ := sl_shape (hT.cls _ (cvAt_in (i := i) (by omega))).2
      refine GW_skip ?_
      refine GW_seq ?_
      refine GW_block ?_
      refine GW_seq ?_
      refine GW_region ?_
      refine GL_rd (wn_none rfl) rfl (rd_indexS (j := i) rfl rfl rfl Try.underlying113 ts160 rfl (by omega) _ rfl) ?_
      refine GL_rd (wn_none rfl) rfl (rd_loadN (L := cvC (cvAt I.C i)) rfl rfl Try.underlying160 rfl ts160 (cvC_len _) (fun jq u hj => (hcl.keep hp.mod).elem cvC_len i jq (by have := (List.getElem?_eq_some_iff.1 hj).1; rwa [cvC_len] at this) (cvAt_some (by omega)) hj)) ?_
      refine GL_alloc (wn_none rfl) rfl rfl tz160 rfl hp ?_
      intro g5 w hp
      refine GL_store (i := 0) (wn_none rfl) rfl rfl rfl rfl ts160 rfl (cvC_len _) (cvC_one (hT.cls _ (cvAt_in (i := i) (by omega)))) hp rfl (by first | exact Nat.le_of_ble_eq_true rfl | (rw [cvC_len]; decide)) (splice_all _ _ (by rw [cvC_len]; rfl)) ?_
      intro w hp
      refine GL_nil ?_
      refine GW_seq ?_
      refine GW_region ?_
      refine GL_rd (wn_none rfl) rfl (rd_field rfl rfl fa160_7 _ rfl) ?_
      refine GL_rd (v := .slice _ _ _) (wn_none rfl) rfl (rd_load rfl rfl Try.underlying36 rfl ((cell_of_cells (hp.get 0 rfl) _).trans ((cv_texts _).trans (congrArg some hxt)))) ?_
      refine GL_rd (wn_none rfl) rfl (rd_len rfl rfl Try.underlying36) ?_
      refine GL_rd (wn_none rfl) rfl (rd_bin rfl rfl rfl bo_eql) ?_
      refine GL_nil ?_
      refine GW_cond rfl (fun hb4 => ?_) (fun hb4 => ?_)
      ·(try simp only [decide_eq_true_eq, decide_eq_false_iff_not, Bool.not_eq_true', Bool.not_eq_false', Bool.not_eq_eq_eq_not, Bool.not_true, Bool.not_false, Int.not_lt, Int.not_le] at hb4)
       have e1 : freC I.C (i + 1) = freC I.C i + 1 := by rw [freC_succ (by omega), if_pos (by have := hb4; omega)]
       have hfl := freC_le I.C i
       refine GW_region ?_
       refine GL_rd (wn_none rfl) rfl (rd_field rfl rfl fa93_2 _ rfl) ?_
       refine GL_rd (wn_none rfl) rfl (rd_load rfl rfl Try.underlying3 rfl ((cell_of_cells (hp.get 2 rfl) _).trans rfl)) ?_
       refine GL_rd (wn_none rfl) rfl (rd_bin rfl rfl rfl (bo_add64 (by omega))) ?_
       refine GL_rd (wn_none rfl) rfl (rd_field rfl rfl fa93_2 _ rfl) ?_
       refine GL_store (i := 2) (wn_none rfl) rfl rfl rfl rfl ts3 rfl rfl (one1 rfl) hp rfl (by first | exact Nat.le_of_ble_eq_true rfl | simp [bys_length, *]) rfl ?_
       intro w hp
       refine GL_nil ?_
       refine GW_region ?_
       refine GL_rd (wn_none rfl) rfl (rd_bin rfl rfl rfl (bo_add64 (by omega))) ?_
       refine GL_rd (v := .int _ _) (wn_none rfl) rfl (rd_move rfl rfl) ?_
       refine GL_nil ?_
       have e2 : (freC I.C (i + 1) : Int) = _ := congrArg Nat.cast e1
       have hp := (((hp.front 2 rfl).front 2 rfl).take 2)
       have hp : Hp w0 [] w [cells g 93 [.int .i64 0, .int .i64 0, .int .i64 0, .int .i64 0, .int .i64 0], cells g2 93 [.int .i64 (slN I.m 0 : Int), .int .i64 (freT I.T I.T.length : Int), .int .i64 (freC I.C (i + 1) : Int), .int .i64 (I.p.a - (I.A.length : Int)), .int .i64 ((slN I.m 0 : Int) + (slN I.m 2 : Int))]] := by rw [e2]; exact hp
       exact ihL1 (i + 1, _) _ _ (by simp only []; omega) ⟨_, slots5 rfl rfl rfl rfl rfl, hp, by omega, hcl⟩
      ·(try simp only [decide_eq_true_eq, decide_eq_false_iff_not, Bool.not_eq_true', Bool.not_eq_false', Bool.not_eq_eq_eq_not, Bool.not_true, Bool.not_false, Int.not_lt, Int.not_le] at hb4)
       have e1 : freC I.C (i + 1) = freC I.C i := by rw [freC_succ (by omega), if_neg (by have := hb4; omega)]
       refine GW_skip ?_
       refine GW_region ?_
       refine GL_rd (wn_none rfl) rfl (rd_bin rfl rfl rfl (bo_add64 (by omega))) ?_
       refine GL_rd (v := .int _ _) (wn_none rfl) rfl (rd_move rfl rfl) ?_
       refine GL_nil ?_
       have e2 : (freC I.C (i + 1) : Int) = _ := congrArg Nat.cast e1
       have hp := (((hp.front 2 rfl).front 2 rfl).take 2)
       have hp : Hp w0 [] w [cells g 93 [.int .i64 0, .int .i64 0, .int .i64 0, .int .i64 0, .int .i64 0], cells g2 93 [.int .i64 (slN I.m 0 : Int), .int .i64 (freT I.T I.T.length : Int), .int .i64 (freC I.C (i + 1) : Int), .int .i64 (I.p.a - (I.A.length : Int)), .int .i64 ((slN I.m 0 : Int) + (slN I.m 2 : Int))]] := by rw [e2]; exact hp
       exact ihL1 (i + 1, _) _ _ (by simp only []; omega) ⟨_, slots5 rfl rfl rfl rfl rfl, hp, by omega, hcl⟩
     ·(try simp only [decide_eq_true_eq, decide_eq_false_iff_not, Bool.not_eq_true', Bool.not_eq_false', Bool.not_eq_eq_eq_not, Bool.not_true, Bool.not_false, Int.not_lt, Int.not_le] at hb3)
      have hiC : i = I.C.length := by omega
      rw [hiC] at hp
      refine GW_exit ?_
      refine GW_seq ?_
      refine GW_region ?_
      refine GL_rd (wn_none rfl) rfl (rd_loadC rfl rfl Try.underlying93 rfl ts93 (hp.get 1 rfl) (by first | (rw [bys_length]; first | exact a32_len _) | rfl | simp [bys_length, *])) ?_
      refine GL_store (i := 0) (wn_none rfl) rfl rfl rfl rfl ts93 rfl rfl (oneC rfl (oneC rfl (oneC rfl (oneC rfl (oneC rfl one0))))) hp rfl (by first | exact Nat.le_of_ble_eq_true rfl | simp [bys_length, *]) rfl ?_
      intro w hp
      refine GL_nil ?_
      refine GW_ret ?_
      exact ⟨_, res1 Try.results38 (rv_cell rfl rfl Try.underlying93 rfl ts93 rfl (hp.get 0 rfl)), rfl, hp.mods⟩
    ·have hp := (((hp.front 1 rfl).front 1 rfl).take 2)
     refine ⟨_, slots5 rfl rfl rfl rfl rfl, hp, Nat.zero_le _, hcl⟩
  ·have hp := (((hp.front 1 rfl).front 1 rfl).take 2)
   refine ⟨_, slots6 rfl rfl rfl rfl rfl rfl, hp, Nat.zero_le _, htx⟩
end Go.Proofs.Ytpagpmioopaciaa
