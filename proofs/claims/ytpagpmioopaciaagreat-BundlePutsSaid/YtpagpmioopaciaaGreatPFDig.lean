/- Walks of functions of the program. -/
import Derived.Test.YtpagpmioopaciaaGreatPTypes
import Derived.Test.YtpagpmioopaciaaGreatPDigS
import Derived.Test.YtpagpmioopaciaaGreatPFCrc
set_option linter.unusedVariables false
set_option linter.unusedSimpArgs false
namespace Go.Proofs.YtpagpmioopaciaaGreat
open Go.Mo Go.RowKit
set_option maxRecDepth 100000 in
theorem dig_rounds (w0 : World) : Does Tryz.prog 106 #[] w0 fun v w' => v = .agg ⟨w32s kTab⟩ ∧ Hp w0 [] w' [] := by
 refine does_of (l := []) Tryz.func106 (by kernel_rfl) rfl Tryz.ntmps106 rfl rfl (by kernel_rfl) ?_
 have hp := Hp.refl w0 []
 refine GW_seq ?_
 refine GW_region ?_
 refine GL_alloc (wn_none rfl) rfl rfl tz115 rfl hp ?_
 intro g w hp
 refine GL_nil ?_
 refine GW_seq ?_
 refine GW_region ?_
 refine GL_rd (wn_none rfl) rfl (rd_buildA (L := (w32s kTab)) rfl tz115 Tryz.underlying115 ts64 (by kernel_rfl)) ?_
 refine GL_store (i := 0) (wn_none rfl) rfl rfl rfl rfl ts115 rfl rfl (w32s_one _) hp rfl (Nat.le_of_ble_eq_true rfl) (splice_all _ _ rfl) ?_
 intro w hp
 refine GL_nil ?_
 refine GW_ret ?_
 exact ⟨_, res1 Tryz.results106 (rv_cell rfl rfl Tryz.underlying115 rfl ts115 rfl (hp.get 0 rfl)), rfl, hp.mods⟩
theorem dig_New (w0 : World) : Does Tryz.prog 62 #[] w0 fun v w' => ∃ g, v = .pointer (some ⟨g, 0, none⟩) ∧ Hp w0 [] w' [cells g 125 (hsC [] (.slice none 0 0)), .row 5 1 (.slice none 0 0) 0 (bys (hrB []))] := by
 refine does_of (l := []) Tryz.func62 (by kernel_rfl) rfl Tryz.ntmps62 rfl rfl (by kernel_rfl) ?_
 have hp := Hp.refl w0 []
 refine GW_seq ?_
 refine GW_region ?_
 refine GL_rd (v := _) (wn_none rfl) rfl (rd_assign rfl rfl) ?_
 refine GL_nil ?_
 refine GW_seq ?_
 refine GW_region ?_
 refine GL_rd (wn_none rfl) rfl (rd_buildA (L := (stC ivB)) rfl tz113 Tryz.underlying113 ts64 (by kernel_rfl)) ?_
 refine GL_rd (wn_none rfl) rfl (rd_buildS (L := (hsC [] (.slice none 0 0))) rfl tz125 pl125 (by kernel_rfl)) ?_
 refine GL_box (wn_none rfl) rfl rfl rfl rfl hp ?_
 intro g w hp
 refine GL_rd (v := .pointer (some ⟨_, _, none⟩)) (wn_none rfl) rfl (rd_assign rfl rfl) ?_
 refine GL_nil ?_
 refine GW_ret ?_
 have hp := hp.nilRow 5 1
 exact ⟨_, res1 Tryz.results62 (rv_tmp (v := .pointer (some ⟨_, _, none⟩)) rfl rfl), _, rfl, hp.front 1 rfl⟩
theorem dig_spin (x : BitVec 32) (n : Nat) (w0 : World) (hn : n ≤ 32) : Does Tryz.prog 107 #[.int .u32 ((x).toNat : Int), .int .i64 (n : Int)] w0 fun v w' => v = .int .u32 ((rotB x n).toNat : Int) ∧ Hp w0 [] w' [] := by
 refine does_of (l := [.int .u32 ((x).toNat : Int), .int .i64 (n : Int)]) Tryz.func107 (by kernel_rfl) rfl Tryz.ntmps107 rfl rfl (by kernel_rfl) ?_
 have hp := Hp.refl w0 []
 refine GW_seq ?_
 refine GW_region ?_
 refine GL_rd (v := .int _ _) (wn_none rfl) rfl (rd_assign rfl rfl) ?_
 refine GL_nil ?_
 refine GW_seq ?_
 refine GW_drawnK 9 (.one 0 true (.one 1 true (.one 2 true (.one 3 true (.one 4 true (.one 5 true (.one 6 true (.one 7 true (.one 8 true .nil))))))))) mixed (by kernel_rfl) hp (fun _ h => h) fun w hp => ?_
 have hpS := hp
 refine GO_rdT (v := .int _ _) rfl (wn_none rfl) rfl (fun w => (rd_move rfl rfl)) ?_
 refine GO_rdT (v := .int _ _) rfl (wn_none rfl) rfl (fun w => (rd_move rfl rfl)) ?_
 refine GO_rd rfl rfl (wn_none rfl) rfl hpS (fun w hp => (rd_bin rfl rfl rfl (bo_shr32 x n hn))) ?_
 refine GO_rdT (v := .int _ _) rfl (wn_none rfl) rfl (fun w => (rd_move rfl rfl)) ?_
 refine GO_rdT (v := .int _ _) rfl (wn_none rfl) rfl (fun w => (rd_move rfl rfl)) ?_
 refine GO_rd rfl rfl (wn_none rfl) rfl hpS (fun w hp => (rd_bin rfl rfl rfl (bo_int (q := ((32 - n : Nat) : Int)) (bo_sub64 (by omega)) (by omega)))) ?_
 refine GO_rd rfl rfl (wn_none rfl) rfl hpS (fun w hp => (rd_bin rfl rfl rfl (bo_shlV x (32 - n) (by omega)))) ?_
 refine GO_rd rfl rfl (wn_none rfl) rfl hpS (fun w hp => (rd_bin rfl rfl rfl (bo_orV _ _))) ?_
 refine GO_rdT (v := .int _ _) rfl (wn_none rfl) rfl (fun w => (rd_assign rfl rfl)) ?_
 refine GO_nil ?_
 refine GW_ret ?_
 exact ⟨_, res1 Tryz.results107 (rv_tmp (v := .int _ _) rfl rfl), rfl, hp.mods⟩
theorem dig_spread (sv : Value) (m : Nat) (l : List UInt8) (w0 : World) (hs : Sl w0 sv 1 m (bys l)) (hm : 64 ≤ m) : Does Tryz.prog 105 #[sv] w0 fun v w' => v = .agg ⟨w32s (schedB l 64)⟩ ∧ Hp w0 [] w' [] := by
 obtain ⟨A, c, rfl⟩ := sl_shape hs
 have hml := hs.blen
 have hmle := hs.le
 obtain ⟨gA, bA, rfl⟩ := hs.addr (by rw [bys_length]; omega)
 refine does_of (l := [.slice (some ⟨gA, bA, none⟩) m c]) Tryz.func105 (by kernel_rfl) rfl Tryz.ntmps105 rfl rfl (by kernel_rfl) ?_
 have hp := Hp.refl w0 []
 refine GW_seq ?_
 refine GW_region ?_
 refine GL_alloc (wn_none rfl) rfl rfl tz115 rfl hp ?_
 intro g w hp
 refine GL_nil ?_
 refine GW_seq ?_
 refine GW_region ?_
 refine GL_alloc (wn_none rfl) rfl rfl tz115 rfl hp ?_
 intro g2 w hp
 refine GL_nil ?_
 refine GW_seq ?_
 refine GW_seq ?_
 refine GW_region ?_
 refine GL_rd (v := .int _ _) (wn_none rfl) rfl (rd_move rfl rfl) ?_
 refine GL_nil ?_
 refine GW_block ?_
 refine GW_loop ?_
 refine Lp_ind (α := Nat) (fun a_0 f_0 w' => match a_0 with | i => ∃ fz, f_0 = (upd (upd (upd (upd fz 0 (.slice (some ⟨gA, bA, none⟩) m c)) 2 (.pointer (some ⟨g, 0, none⟩))) 3 (.pointer (some ⟨g2, 0, none⟩))) 8 (.int .i64 (i : Int))) ∧ Hp w0 [] w' [cells g2 115 (w32s (schZ l i)), cells g 115 (List.replicate 64 (.int .u32 0))] ∧ (i ≤ 16)) (fun a_0 => match a_0 with | i => 16 - i) ?_ 0 _ _ ?_
 ·rintro i f wz ⟨fz, rfl, hp, hi0⟩ ihL0
  refine Lp_round ?_
  refine GW_seq ?_
  refine GW_region ?_
  refine GL_rd (wn_none rfl) rfl (rd_bin rfl rfl rfl bo_lss) ?_
  refine GL_nil ?_
  refine GW_seq ?_
  refine GW_cond rfl (fun hb => ?_) (fun hb => ?_)
  ·(try simp only [decide_eq_true_eq, decide_eq_false_iff_not, Bool.not_eq_true', Bool.not_eq_false', Bool.not_eq_eq_eq_not, Bool.not_true, Bool.not_false, Int.not_lt, Int.not_le] at hb)
   refine GW_skip ?_
   refine GW_seq ?_
   refine GW_block ?_
   refine GW_seq ?_
   refine GW_region ?_
   refine GL_rd (v := .int _ _) (wn_none rfl) rfl (rd_move rfl rfl) ?_
   refine GL_rd (v := .int _ _) (wn_none rfl) rfl (rd_assign rfl rfl) ?_
   refine GL_nil ?_
   refine GW_drawnK 35 (.one 0 true (.one 1 true (.one 2 true (.one 3 true (.one 4 true (.one 5 true (.one 6 true (.one 7 true (.one 8 true (.one 9 true (.one 10 true (.one 11 true (.one 12 true (.one 13 true (.one 14 true (.one 15 true (.one 16 true (.one 17 true (.one 18 true (.one 19 true (.one 20 true (.one 21 true (.one 22 true (.one 23 true (.one 24 true (.one 25 true (.one 26 true (.one 27 true (.one 28 true (.one 29 true (.one 30 true (.one 31 true (.one 32 true (.one 33 true (.one 34 true (.one 35 false .nil)))))))))))))))))))))))))))))))))))) mixed (by kernel_rfl) hp (fun _ h => h) fun w hp => ?_
   have hpS := hp
   refine GO_rdT (v := .int _ _) rfl (wn_none rfl) rfl (fun w => (rd_move rfl rfl)) ?_
   refine GO_rdT (v := .slice _ _ _) rfl (wn_none rfl) rfl (fun w => (rd_move rfl rfl)) ?_
   refine GO_rdT (v := .int _ _) rfl (wn_none rfl) rfl (fun w => (rd_move rfl rfl)) ?_
   refine GO_rd rfl rfl (wn_none rfl) rfl hpS (fun w hp => (rd_bin rfl rfl rfl (bo_mul64 (by omega)))) ?_
   refine GO_rdT rfl (wn_none rfl) rfl (fun w => (rd_indexS (j := (4 * i)) rfl rfl rfl Tryz.underlying35 ts5 (by omega) (by omega) _ rfl)) ?_
   refine GO_rd rfl rfl (wn_none rfl) rfl hpS (fun w hp => (rd_load rfl rfl Tryz.underlying5 rfl (Sl.byte (hs.keep hp.mod) (4 * i) (by omega)))) ?_
   refine GO_rd rfl rfl (wn_none rfl) rfl hpS (fun w hp => (rd_conv8 .u32 rfl rfl Tryz.underlying64 Tryz.underlying5 (by simp))) ?_
   refine GO_rd rfl rfl (wn_none rfl) rfl hpS (fun w hp => (rd_bin rfl rfl rfl (bo_shlN _ 24 (by first | decide | omega)))) ?_
   refine GO_rdT (v := .slice _ _ _) rfl (wn_none rfl) rfl (fun w => (rd_move rfl rfl)) ?_
   refine GO_rdT (v := .int _ _) rfl (wn_none rfl) rfl (fun w => (rd_move rfl rfl)) ?_
   refine GO_rd rfl rfl (wn_none rfl) rfl hpS (fun w hp => (rd_bin rfl rfl rfl (bo_mul64 (by omega)))) ?_
   refine GO_rd rfl rfl (wn_none rfl) rfl hpS (fun w hp => (rd_bin rfl rfl rfl (bo_add64 (by omega)))) ?_
   refine GO_rdT rfl (wn_none rfl) rfl (fun w => (rd_indexS (j := (4 * i + 1)) rfl rfl rfl Tryz.underlying35 ts5 (by omega) (by omega) _ rfl)) ?_
   refine GO_rd rfl rfl (wn_none rfl) rfl hpS (fun w hp => (rd_load rfl rfl Tryz.underlying5 rfl (Sl.byte (hs.keep hp.mod) (4 * i + 1) (by omega)))) ?_
   refine GO_rd rfl rfl (wn_none rfl) rfl hpS (fun w hp => (rd_conv8 .u32 rfl rfl Tryz.underlying64 Tryz.underlying5 (by simp))) ?_
   refine GO_rd rfl rfl (wn_none rfl) rfl hpS (fun w hp => (rd_bin rfl rfl rfl (bo_shlN _ 16 (by first | decide | omega)))) ?_
   refine GO_rd rfl rfl (wn_none rfl) rfl hpS (fun w hp => (rd_bin rfl rfl rfl (bo_orV _ _))) ?_
   refine GO_rdT (v := .slice _ _ _) rfl (wn_none rfl) rfl (fun w => (rd_move rfl rfl)) ?_
   refine GO_rdT (v := .int _ _) rfl (wn_none rfl) rfl (fun w => (rd_move rfl rfl)) ?_
   refine GO_rd rfl rfl (wn_none rfl) rfl hpS (fun w hp => (rd_bin rfl rfl rfl (bo_mul64 (by omega)))) ?_
   refine GO_rd rfl rfl (wn_none rfl) rfl hpS (fun w hp => (rd_bin rfl rfl rfl (bo_add64 (by omega)))) ?_
   refine GO_rdT rfl (wn_none rfl) rfl (fun w => (rd_indexS (j := (4 * i + 2)) rfl rfl rfl Tryz.underlying35 ts5 (by omega) (by omega) _ rfl)) ?_
   refine GO_rd rfl rfl (wn_none rfl) rfl hpS (fun w hp => (rd_load rfl rfl Tryz.underlying5 rfl (Sl.byte (hs.keep hp.mod) (4 * i + 2) (by omega)))) ?_
   refine GO_rd rfl rfl (wn_none rfl) rfl hpS (fun w hp => (rd_conv8 .u32 rfl rfl Tryz.underlying64 Tryz.underlying5 (by simp))) ?_
   refine GO_rd rfl rfl (wn_none rfl) rfl hpS (fun w hp => (rd_bin rfl rfl rfl (bo_shlN _ 8 (by first | decide | omega)))) ?_
   refine GO_rd rfl rfl (wn_none rfl) rfl hpS (fun w hp => (rd_bin rfl rfl rfl (bo_orV _ _))) ?_
   refine GO_rdT (v := .slice _ _ _) rfl (wn_none rfl) rfl (fun w => (rd_move rfl rfl)) ?_
   refine GO_rdT (v := .int _ _) rfl (wn_none rfl) rfl (fun w => (rd_move rfl rfl)) ?_
   refine GO_rd rfl rfl (wn_none rfl) rfl hpS (fun w hp => (rd_bin rfl rfl rfl (bo_mul64 (by omega)))) ?_
   refine GO_rd rfl rfl (wn_none rfl) rfl hpS (fun w hp => (rd_bin rfl rfl rfl (bo_add64 (by omega)))) ?_
   refine GO_rdT rfl (wn_none rfl) rfl (fun w => (rd_indexS (j := (4 * i + 3)) rfl rfl rfl Tryz.underlying35 ts5 (by omega) (by omega) _ rfl)) ?_
   refine GO_rd rfl rfl (wn_none rfl) rfl hpS (fun w hp => (rd_load rfl rfl Tryz.underlying5 rfl (Sl.byte (hs.keep hp.mod) (4 * i + 3) (by omega)))) ?_
   refine GO_rd rfl rfl (wn_none rfl) rfl hpS (fun w hp => (rd_conv8 .u32 rfl rfl Tryz.underlying64 Tryz.underlying5 (by simp))) ?_
   refine GO_rd rfl rfl (wn_none rfl) rfl hpS (fun w hp => (rd_bin rfl rfl rfl (bo_or32 _ _))) ?_
   refine GO_rdT rfl (wn_none rfl) rfl (fun w => (rd_indexA (j := i) rfl rfl rfl Tryz.underlying115 ts64 rfl (by omega) _ rfl)) ?_
   refine GO_of_GL rfl ?_
   refine GL_store (i := 0) (wn_none rfl) rfl rfl rfl rfl ts64 rfl rfl (one1 rfl) hp rfl (by rw [w32s_length, schZ_length (by omega)]; omega) (sch_put (by omega) (sched_low (by omega))) ?_
   intro w hp
   refine GL_nil ⟨fun h => absurd h (by decide), ?_⟩
   refine GO_nil ?_
   refine GW_region ?_
   refine GL_rd (wn_none rfl) rfl (rd_bin rfl rfl rfl (bo_add64 (by omega))) ?_
   refine GL_rd (v := .int _ _) (wn_none rfl) rfl (rd_move rfl rfl) ?_
   refine GL_nil ?_
   exact ihL0 (i + 1) _ _ (by simp only []; omega) ⟨_, slots4 rfl rfl rfl rfl, hp, by omega⟩
  ·(try simp only [decide_eq_true_eq, decide_eq_false_iff_not, Bool.not_eq_true', Bool.not_eq_false', Bool.not_eq_eq_eq_not, Bool.not_true, Bool.not_false, Int.not_lt, Int.not_le] at hb)
   obtain rfl : i = 16 := by omega
   refine GW_exit ?_
   refine GW_seq ?_
   refine GW_seq ?_
   refine GW_region ?_
   refine GL_rd (v := .int _ _) (wn_none rfl) rfl (rd_assign rfl rfl) ?_
   refine GL_nil ?_
   refine GW_block ?_
   refine GW_loop ?_
   refine Lp_ind (α := Nat) (fun a_0 f_0 w' => match a_0 with | i => ∃ fz, f_0 = (upd (upd (upd fz 2 (.pointer (some ⟨g, 0, none⟩))) 3 (.pointer (some ⟨g2, 0, none⟩))) 5 (.int .i64 (i : Int))) ∧ Hp w0 [] w' [cells g2 115 (w32s (schZ l i)), cells g 115 (List.replicate 64 (.int .u32 0))] ∧ (i ≤ 64) ∧ (16 ≤ i)) (fun a_0 => match a_0 with | i => 64 - i) ?_ 16 _ _ ?_
   ·rintro i f wz ⟨fz, rfl, hp, hi0, hi1⟩ ihL1
    refine Lp_round ?_
    refine GW_seq ?_
    refine GW_seq ?_
    refine GW_region ?_
    refine GL_rd (v := .int _ _) (wn_none rfl) rfl (rd_move rfl rfl) ?_
    refine GL_rd (wn_none rfl) rfl (rd_bin rfl rfl rfl bo_lss) ?_
    refine GL_nil ?_
    refine GW_cond rfl (fun hb2 => ?_) (fun hb2 => ?_)
    ·(try simp only [decide_eq_true_eq, decide_eq_false_iff_not, Bool.not_eq_true', Bool.not_eq_false', Bool.not_eq_eq_eq_not, Bool.not_true, Bool.not_false, Int.not_lt, Int.not_le] at hb2)
     refine GW_skip ?_
     refine GW_seq ?_
     refine GW_block ?_
     refine GW_seq ?_
     refine GW_drawnK 10 (.one 0 true (.one 1 true (.one 2 true (.one 3 true (.one 4 true (.one 5 true (.one 6 true (.one 7 true (.one 8 true (.one 9 true .nil)))))))))) mixed (by kernel_rfl) hp (fun _ h => h) fun w hp => ?_
     have hpS2 := hp
     refine GO_rdT (v := .int _ _) rfl (wn_none rfl) rfl (fun w => (rd_move rfl rfl)) ?_
     refine GO_rd rfl rfl (wn_none rfl) rfl hpS2 (fun w hp => (rd_bin rfl rfl rfl (bo_sub64 (by omega)))) ?_
     refine GO_rdT rfl (wn_none rfl) rfl (fun w => (rd_indexA (j := (i - 15)) rfl rfl rfl Tryz.underlying115 ts64 (by omega) (by omega) _ rfl)) ?_
     refine GO_rd rfl rfl (wn_none rfl) rfl hpS2 (fun w hp => (rd_load rfl rfl Tryz.underlying64 rfl ((cell_of_cells (hp.get 0 rfl) _).trans (sch_cell (j := i - 15) (by omega) (by omega))))) ?_
     refine GO_rdT (v := .int _ _) rfl (wn_none rfl) rfl (fun w => (rd_move rfl rfl)) ?_
     refine GO_rd rfl rfl (wn_none rfl) rfl hpS2 (fun w hp => (rd_bin rfl rfl rfl (bo_sub64 (by omega)))) ?_
     refine GO_rdT rfl (wn_none rfl) rfl (fun w => (rd_indexA (j := (i - 2)) rfl rfl rfl Tryz.underlying115 ts64 (by omega) (by omega) _ rfl)) ?_
     refine GO_rd rfl rfl (wn_none rfl) rfl hpS2 (fun w hp => (rd_load rfl rfl Tryz.underlying64 rfl ((cell_of_cells (hp.get 0 rfl) _).trans (sch_cell (j := i - 2) (by omega) (by omega))))) ?_
     refine GO_rdT (v := .int _ _) rfl (wn_none rfl) rfl (fun w => (rd_assign rfl rfl)) ?_
     refine GO_rdT (v := .int _ _) rfl (wn_none rfl) rfl (fun w => (rd_assign rfl rfl)) ?_
     refine GO_nil ?_
     refine GW_drawnK 29 (.one 0 true (.one 1 true (.one 2 true (.one 3 true (.one 4 true (.one 5 true (.one 7 true (.one 10 true (.one 11 true (.one 14 true (.one 15 true (.one 16 true (.one 17 true (.one 19 true (.one 21 true (.one 24 true (.one 25 true (.one 6 false (.one 8 false (.one 9 true (.one 12 true (.one 13 true (.one 18 true (.one 20 false (.one 22 false (.one 23 true (.one 26 true (.one 27 true (.one 28 true (.one 29 false .nil)))))))))))))))))))))))))))))) mixed (by kernel_rfl) hp (fun _ h => h) fun w hp => ?_
     have hpS3 := hp
     refine GO_rdT (v := .int _ _) rfl (wn_none rfl) rfl (fun w => (rd_move rfl rfl)) ?_
     refine GO_rdT (v := .int _ _) rfl (wn_none rfl) rfl (fun w => (rd_move rfl rfl)) ?_
     refine GO_rd rfl rfl (wn_none rfl) rfl hpS3 (fun w hp => (rd_bin rfl rfl rfl (bo_sub64 (by omega)))) ?_
     refine GO_rdT rfl (wn_none rfl) rfl (fun w => (rd_indexA (j := (i - 16)) rfl rfl rfl Tryz.underlying115 ts64 (by omega) (by omega) _ rfl)) ?_
     refine GO_rd rfl rfl (wn_none rfl) rfl hpS3 (fun w hp => (rd_load rfl rfl Tryz.underlying64 rfl ((cell_of_cells (hp.get 0 rfl) _).trans (sch_cell (j := i - 16) (by omega) (by omega))))) ?_
     refine GO_rdT (v := .int _ _) rfl (wn_none rfl) rfl (fun w => (rd_move rfl rfl)) ?_
     refine GO_rdT (v := .int _ _) rfl (wn_none rfl) rfl (fun w => (rd_move rfl rfl)) ?_
     refine GO_rdT (v := .int _ _) rfl (wn_none rfl) rfl (fun w => (rd_move rfl rfl)) ?_
     refine GO_rd rfl rfl (wn_none rfl) rfl hpS3 (fun w hp => (rd_bin rfl rfl rfl (bo_shr32 _ 3 (by first | decide | omega)))) ?_
     refine GO_rdT (v := .int _ _) rfl (wn_none rfl) rfl (fun w => (rd_move rfl rfl)) ?_
     refine GO_rd rfl rfl (wn_none rfl) rfl hpS3 (fun w hp => (rd_bin rfl rfl rfl (bo_sub64 (by omega)))) ?_
     refine GO_rdT rfl (wn_none rfl) rfl (fun w => (rd_indexA (j := (i - 7)) rfl rfl rfl Tryz.underlying115 ts64 (by omega) (by omega) _ rfl)) ?_
     refine GO_rd rfl rfl (wn_none rfl) rfl hpS3 (fun w hp => (rd_load rfl rfl Tryz.underlying64 rfl ((cell_of_cells (hp.get 0 rfl) _).trans (sch_cell (j := i - 7) (by omega) (by omega))))) ?_
     refine GO_rdT (v := .int _ _) rfl (wn_none rfl) rfl (fun w => (rd_move rfl rfl)) ?_
     refine GO_rdT (v := .int _ _) rfl (wn_none rfl) rfl (fun w => (rd_move rfl rfl)) ?_
     refine GO_rdT (v := .int _ _) rfl (wn_none rfl) rfl (fun w => (rd_move rfl rfl)) ?_
     refine GO_rd rfl rfl (wn_none rfl) rfl hpS3 (fun w hp => (rd_bin rfl rfl rfl (bo_shr32 _ 10 (by first | decide | omega)))) ?_
     refine GO_of_GL rfl ?_
     refine GL_call (wn_none rfl) rfl rfl (dig_spin ((schedB l i).getD (i - 15) 0) 7 _ (by decide)) rfl ?_
     rintro _ w ⟨rfl, hk⟩
     have hp := hp.comp hk
     have hpS4 := hp
     refine GL_nil ⟨fun _ => hpS4, ?_⟩
     refine GO_of_GL rfl ?_
     refine GL_call (wn_none rfl) rfl rfl (dig_spin ((schedB l i).getD (i - 15) 0) 18 _ (by decide)) rfl ?_
     rintro _ w ⟨rfl, hk⟩
     have hp := hp.comp hk
     have hpS5 := hp
     refine GL_nil ⟨fun _ => hpS5, ?_⟩
     refine GO_rd rfl rfl (wn_none rfl) rfl hpS5 (fun w hp => (rd_bin rfl rfl rfl (bo_xorV _ _))) ?_
     refine GO_rd rfl rfl (wn_none rfl) rfl hpS5 (fun w hp => (rd_bin rfl rfl rfl (bo_xorV _ _))) ?_
     refine GO_rd rfl rfl (wn_none rfl) rfl hpS5 (fun w hp => (rd_bin rfl rfl rfl (bo_addV _ _))) ?_
     refine GO_rd rfl rfl (wn_none rfl) rfl hpS5 (fun w hp => (rd_bin rfl rfl rfl (bo_addV _ _))) ?_
     refine GO_of_GL rfl ?_
     refine GL_call (wn_none rfl) rfl rfl (dig_spin ((schedB l i).getD (i - 2) 0) 17 _ (by decide)) rfl ?_
     rintro _ w ⟨rfl, hk⟩
     have hp := hp.comp hk
     have hpS6 := hp
     refine GL_nil ⟨fun _ => hpS6, ?_⟩
     refine GO_of_GL rfl ?_
     refine GL_call (wn_none rfl) rfl rfl (dig_spin ((schedB l i).getD (i - 2) 0) 19 _ (by decide)) rfl ?_
     rintro _ w ⟨rfl, hk⟩
     have hp := hp.comp hk
     have hpS7 := hp
     refine GL_nil ⟨fun _ => hpS7, ?_⟩
     refine GO_rd rfl rfl (wn_none rfl) rfl hpS7 (fun w hp => (rd_bin rfl rfl rfl (bo_xorV _ _))) ?_
     refine GO_rd rfl rfl (wn_none rfl) rfl hpS7 (fun w hp => (rd_bin rfl rfl rfl (bo_xorV _ _))) ?_
     refine GO_rd rfl rfl (wn_none rfl) rfl hpS7 (fun w hp => (rd_bin rfl rfl rfl (bo_addV _ _))) ?_
     refine GO_rdT rfl (wn_none rfl) rfl (fun w => (rd_indexA (j := i) rfl rfl rfl Tryz.underlying115 ts64 rfl (by omega) _ rfl)) ?_
     refine GO_of_GL rfl ?_
     refine GL_store (i := 0) (wn_none rfl) rfl rfl rfl rfl ts64 rfl rfl (one1 rfl) hp rfl (by rw [w32s_length, schZ_length (by omega)]; omega) (sch_put (by omega) (sched_high (by omega))) ?_
     intro w hp
     refine GL_nil ⟨fun h => absurd h (by decide), ?_⟩
     refine GO_nil ?_
     refine GW_region ?_
     refine GL_rd (v := .int _ _) (wn_none rfl) rfl (rd_move rfl rfl) ?_
     refine GL_rd (wn_none rfl) rfl (rd_bin rfl rfl rfl (bo_add64 (by omega))) ?_
     refine GL_rd (v := .int _ _) (wn_none rfl) rfl (rd_assign rfl rfl) ?_
     refine GL_nil ?_
     exact ihL1 (i + 1) _ _ (by simp only []; omega) ⟨_, slots3 rfl rfl rfl, hp, by omega, by omega⟩
    ·(try simp only [decide_eq_true_eq, decide_eq_false_iff_not, Bool.not_eq_true', Bool.not_eq_false', Bool.not_eq_eq_eq_not, Bool.not_true, Bool.not_false, Int.not_lt, Int.not_le] at hb2)
     obtain rfl : i = 64 := by omega
     rw [schZ_all] at hp
     refine GW_exit ?_
     refine GW_seq ?_
     refine GW_region ?_
     refine GL_rd (wn_none rfl) rfl (rd_loadC rfl rfl Tryz.underlying115 rfl ts115 (hp.get 0 rfl) (by rw [w32s_length, schedB_length])) ?_
     refine GL_store (i := 1) (wn_none rfl) rfl rfl rfl rfl ts115 rfl (by rw [w32s_length, schedB_length]) (w32s_one _) hp rfl (Nat.le_of_ble_eq_true rfl) (splice_all _ _ (by rw [w32s_length, schedB_length]; rfl)) ?_
     intro w hp
     refine GL_nil ?_
     refine GW_ret ?_
     exact ⟨_, res1 Tryz.results105 (rv_cell rfl rfl Tryz.underlying115 rfl ts115 (by rw [w32s_length, schedB_length]) (hp.get 1 rfl)), rfl, hp.mods⟩
   ·refine ⟨_, slots3 rfl rfl rfl, hp, by decide, by decide⟩
 ·refine ⟨_, slots4 rfl rfl rfl rfl, hp, by decide⟩
set_option maxHeartbeats 1000000 in
theorem dig_mix (s : W8) (sv : Value) (m : Nat) (l : List UInt8) (w0 : World) (hs : Sl w0 sv 1 m (bys l)) (hm : 64 ≤ m) : Does Tryz.prog 92 #[.agg ⟨stC s⟩, sv] w0 fun v w' => v = .agg ⟨stC (mixB s l)⟩ ∧ Hp w0 [] w' [] := by
 obtain ⟨A, c, rfl⟩ := sl_shape hs
 have hml := hs.blen
 have hmle := hs.le
 refine does_of (l := [.agg ⟨stC s⟩, .slice A m c]) Tryz.func92 (by kernel_rfl) rfl Tryz.ntmps92 rfl rfl (by kernel_rfl) ?_
 have hp := Hp.refl w0 []
 refine GW_seq ?_
 refine GW_region ?_
 refine GL_box (wn_none rfl) rfl rfl rfl rfl hp ?_
 intro g w hp
 refine GL_alloc (wn_none rfl) rfl rfl tz113 rfl hp ?_
 intro g2 w hp
 refine GL_nil ?_
 refine GW_cut (fun f_0 w' => ∃ (g3 : Nat) (g4 : Nat) (g5 : Nat) (fz : _), f_0 = (upd (upd (upd (upd (upd fz 2 (.pointer (some ⟨g, 0, none⟩))) 4 (.pointer (some ⟨g2, 0, none⟩))) 5 (.pointer (some ⟨g3, 0, none⟩))) 6 (.pointer (some ⟨g4, 0, none⟩))) 7 (.pointer (some ⟨g5, 0, none⟩))) ∧ Hp w0 [] w' [cells g5 113 (stC s), cells g4 115 (w32s kTab), cells g3 115 (w32s (schedB l 64)), cells g2 113 (List.replicate 8 (.int .u32 0)), cells g 113 (stC s)]) ?_ ?_
 ·skip
  refine GW_drawnK 10 (.one 0 true (.one 3 true (.alt 1 (.alt 2 (.alt 4 (.two 5 6 (.one 6 false (.one 7 false (.one 8 false (.one 9 false .nil)))) (.one 5 false (.one 7 false (.one 8 false (.one 9 false .nil))))) (.alt 5 (.two 4 6 (.one 6 false (.one 7 false (.one 8 false (.one 9 false .nil)))) (.one 4 false (.one 7 false (.one 8 false (.one 9 false .nil))))) (.one 6 false (.two 4 5 (.one 5 false (.one 7 false (.one 8 false (.one 9 false .nil)))) (.one 4 false (.one 7 false (.one 8 false (.one 9 false .nil)))))))) (.alt 4 (.alt 2 (.two 5 6 (.one 6 false (.one 7 false (.one 8 false (.one 9 false .nil)))) (.one 5 false (.one 7 false (.one 8 false (.one 9 false .nil))))) (.alt 5 (.two 2 6 (.one 6 false (.one 7 false (.one 8 false (.one 9 false .nil)))) (.one 2 false (.one 7 false (.one 8 false (.one 9 false .nil))))) (.one 6 false (.two 2 5 (.one 5 false (.one 7 false (.one 8 false (.one 9 false .nil)))) (.one 2 false (.one 7 false (.one 8 false (.one 9 false .nil)))))))) (.alt 5 (.alt 2 (.two 4 6 (.one 6 false (.one 7 false (.one 8 false (.one 9 false .nil)))) (.one 4 false (.one 7 false (.one 8 false (.one 9 false .nil))))) (.alt 4 (.two 2 6 (.one 6 false (.one 7 false (.one 8 false (.one 9 false .nil)))) (.one 2 false (.one 7 false (.one 8 false (.one 9 false .nil))))) (.one 6 false (.two 2 4 (.one 4 false (.one 7 false (.one 8 false (.one 9 false .nil)))) (.one 2 false (.one 7 false (.one 8 false (.one 9 false .nil)))))))) (.one 6 false (.alt 2 (.two 4 5 (.one 5 false (.one 7 false (.one 8 false (.one 9 false .nil)))) (.one 4 false (.one 7 false (.one 8 false (.one 9 false .nil))))) (.alt 4 (.two 2 5 (.one 5 false (.one 7 false (.one 8 false (.one 9 false .nil)))) (.one 2 false (.one 7 false (.one 8 false (.one 9 false .nil))))) (.one 5 false (.two 2 4 (.one 4 false (.one 7 false (.one 8 false (.one 9 false .nil)))) (.one 2 false (.one 7 false (.one 8 false (.one 9 false .nil)))))))))))) (.alt 4 (.alt 1 (.alt 2 (.two 5 6 (.one 6 false (.one 7 false (.one 8 false (.one 9 false .nil)))) (.one 5 false (.one 7 false (.one 8 false (.one 9 false .nil))))) (.alt 5 (.two 2 6 (.one 6 false (.one 7 false (.one 8 false (.one 9 false .nil)))) (.one 2 false (.one 7 false (.one 8 false (.one 9 false .nil))))) (.one 6 false (.two 2 5 (.one 5 false (.one 7 false (.one 8 false (.one 9 false .nil)))) (.one 2 false (.one 7 false (.one 8 false (.one 9 false .nil)))))))) (.alt 5 (.two 1 6 (.two 2 6 (.one 6 false (.one 7 false (.one 8 false (.one 9 false .nil)))) (.one 2 false (.one 7 false (.one 8 false (.one 9 false .nil))))) (.one 1 false (.one 2 false (.one 7 false (.one 8 false (.one 9 false .nil)))))) (.one 6 false (.two 1 5 (.two 2 5 (.one 5 false (.one 7 false (.one 8 false (.one 9 false .nil)))) (.one 2 false (.one 7 false (.one 8 false (.one 9 false .nil))))) (.one 1 false (.one 2 false (.one 7 false (.one 8 false (.one 9 false .nil))))))))) (.alt 5 (.alt 1 (.alt 2 (.two 4 6 (.one 6 false (.one 7 false (.one 8 false (.one 9 false .nil)))) (.one 4 false (.one 7 false (.one 8 false (.one 9 false .nil))))) (.alt 4 (.two 2 6 (.one 6 false (.one 7 false (.one 8 false (.one 9 false .nil)))) (.one 2 false (.one 7 false (.one 8 false (.one 9 false .nil))))) (.one 6 false (.two 2 4 (.one 4 false (.one 7 false (.one 8 false (.one 9 false .nil)))) (.one 2 false (.one 7 false (.one 8 false (.one 9 false .nil)))))))) (.alt 4 (.two 1 6 (.two 2 6 (.one 6 false (.one 7 false (.one 8 false (.one 9 false .nil)))) (.one 2 false (.one 7 false (.one 8 false (.one 9 false .nil))))) (.one 1 false (.one 2 false (.one 7 false (.one 8 false (.one 9 false .nil)))))) (.one 6 false (.two 1 4 (.two 2 4 (.one 4 false (.one 7 false (.one 8 false (.one 9 false .nil)))) (.one 2 false (.one 7 false (.one 8 false (.one 9 false .nil))))) (.one 1 false (.one 2 false (.one 7 false (.one 8 false (.one 9 false .nil))))))))) (.one 6 false (.alt 1 (.alt 2 (.two 4 5 (.one 5 false (.one 7 false (.one 8 false (.one 9 false .nil)))) (.one 4 false (.one 7 false (.one 8 false (.one 9 false .nil))))) (.alt 4 (.two 2 5 (.one 5 false (.one 7 false (.one 8 false (.one 9 false .nil)))) (.one 2 false (.one 7 false (.one 8 false (.one 9 false .nil))))) (.one 5 false (.two 2 4 (.one 4 false (.one 7 false (.one 8 false (.one 9 false .nil)))) (.one 2 false (.one 7 false (.one 8 false (.one 9 false .nil)))))))) (.alt 4 (.two 1 5 (.two 2 5 (.one 5 false (.one 7 false (.one 8 false (.one 9 false .nil)))) (.one 2 false (.one 7 false (.one 8 false (.one 9 false .nil))))) (.one 1 false (.one 2 false (.one 7 false (.one 8 false (.one 9 false .nil)))))) (.one 5 false (.two 1 4 (.two 2 4 (.one 4 false (.one 7 false (.one 8 false (.one 9 false .nil)))) (.one 2 false (.one 7 false (.one 8 false (.one 9 false .nil))))) (.one 1 false (.one 2 false (.one 7 false (.one 8 false (.one 9 false .nil))))))))))))))) mixed (by kernel_rfl) hp (fun _ h => h) fun w hp => ?_
  have hpS := hp
  refine GO_rdT (v := .slice _ _ _) rfl (wn_none rfl) rfl (fun w => (rd_move rfl rfl)) ?_
  refine GO_rd rfl rfl (wn_none rfl) rfl hpS (fun w hp => (rd_loadC rfl rfl Tryz.underlying113 rfl ts113 (hp.get 1 rfl) (by first | rfl | simp [bys_length, *]))) ?_
  refine GO_alt rfl ?_ (GX_alt rfl ?_ (GX_alt rfl ?_ (GX_one rfl ?_)))
  ·skip
   refine GC_of_GL ?_
   refine GL_call (wn_none rfl) rfl rfl (dig_spread _ m l _ (hs.keep hp.mod) hm) rfl ?_
   rintro _ w ⟨rfl, hk⟩
   have hp := hp.comp hk
   have hpS2 := hp
   refine GL_nil ⟨fun _ => hpS2, ?_⟩
   refine GO_alt rfl ?_ (GX_alt rfl ?_ (GX_alt rfl ?_ (GX_one rfl ?_)))
   ·skip
    refine GC_of_GL ?_
    refine GL_call (wn_none rfl) rfl rfl (dig_rounds _) rfl ?_
    rintro _ w ⟨rfl, hk⟩
    have hp := hp.comp hk
    have hpS3 := hp
    refine GL_nil ⟨fun _ => hpS3, ?_⟩
    refine GO_alt rfl ?_ (GX_alt rfl ?_ (GX_one rfl ?_))
    ·skip
     refine GC_of_GL ?_
     refine GL_alloc (wn_none rfl) rfl rfl tz115 rfl hp ?_
     intro g3 w hp
     have hpS4 := (hp.sub (.cons _ (.cons_cons _ (.cons_cons _ .slnil))))
     refine GL_nil ⟨fun _ => hpS4, ?_⟩
     refine GO_two rfl rfl ?_ ?_
     ·skip
      refine GC_of_GL ?_
      refine GL_alloc (wn_none rfl) rfl rfl tz115 rfl hp ?_
      intro g4 w hp
      have hpS5 := (hp.sub (.cons _ (.cons _ (.cons_cons _ (.cons_cons _ .slnil)))))
      refine GL_nil ⟨fun _ => hpS5, ?_⟩
      refine GO_of_GL rfl ?_
      refine GL_alloc (wn_none rfl) rfl rfl tz113 rfl hp ?_
      intro g5 w hp
      have hpS6 := (hp.sub (.cons _ (.cons _ (.cons _ (.cons_cons _ (.cons_cons _ .slnil))))))
      refine GL_nil ⟨fun _ => hpS6, ?_⟩
      refine GO_of_GL rfl ?_
      refine GL_store (i := 2) (wn_none rfl) rfl rfl rfl rfl ts115 rfl (by rw [w32s_length, schedB_length]) (w32s_one _) hp rfl (Nat.le_of_ble_eq_true rfl) (splice_all _ _ (by rw [w32s_length, schedB_length]; rfl)) ?_
      intro w hp
      have hpS7 := (hp.sub (.cons _ (.cons _ (.cons _ (.cons_cons _ (.cons_cons _ .slnil))))))
      refine GL_nil ⟨fun _ => hpS7, ?_⟩
      refine GO_of_GL rfl ?_
      refine GL_store (i := 1) (wn_none rfl) rfl rfl rfl rfl ts115 rfl rfl (w32s_one _) hp rfl (Nat.le_of_ble_eq_true rfl) (splice_all _ _ rfl) ?_
      intro w hp
      have hpS8 := (hp.sub (.cons _ (.cons _ (.cons _ (.cons_cons _ (.cons_cons _ .slnil))))))
      refine GL_nil ⟨fun _ => hpS8, ?_⟩
      refine GO_of_GL rfl ?_
      refine GL_store (i := 0) (wn_none rfl) rfl rfl rfl rfl ts113 rfl (stC_length _) (stC_one _) hp rfl (Nat.le_of_ble_eq_true rfl) (splice_all _ _ (by rw [stC_length]; rfl)) ?_
      intro w hp
      have hpS9 := (hp.sub (.cons _ (.cons _ (.cons _ (.cons_cons _ (.cons_cons _ .slnil))))))
      refine GL_nil ⟨fun _ => hpS9, ?_⟩
      refine GO_nil ?_
      have hp := ((((((hp.front 4 rfl).front 4 rfl).front 4 rfl).front 4 rfl).front 4 rfl).take 5)
      exact ⟨g3, g4, g5, _, slots5 rfl rfl rfl rfl rfl, hp⟩
     ·skip
      refine GC_of_GL ?_
      refine GL_alloc (wn_none rfl) rfl rfl tz113 rfl hp ?_
      intro g6 w hp
      have hpS10 := (hp.sub (.cons _ (.cons _ (.cons_cons _ (.cons_cons _ .slnil)))))
      refine GL_nil ⟨fun _ => hpS10, ?_⟩
      refine GO_of_GL rfl ?_
      refine GL_alloc (wn_none rfl) rfl rfl tz115 rfl hp ?_
      intro g7 w hp
      have hpS11 := (hp.sub (.cons _ (.cons _ (.cons _ (.cons_cons _ (.cons_cons _ .slnil))))))
      refine GL_nil ⟨fun _ => hpS11, ?_⟩
      refine GO_of_GL rfl ?_
      refine GL_store (i := 2) (wn_none rfl) rfl rfl rfl rfl ts115 rfl (by rw [w32s_length, schedB_length]) (w32s_one _) hp rfl (Nat.le_of_ble_eq_true rfl) (splice_all _ _ (by rw [w32s_length, schedB_length]; rfl)) ?_
      intro w hp
      have hpS12 := (hp.sub (.cons _ (.cons _ (.cons _ (.cons_cons _ (.cons_cons _ .slnil))))))
      refine GL_nil ⟨fun _ => hpS12, ?_⟩
      refine GO_of_GL rfl ?_
      refine GL_store (i := 0) (wn_none rfl) rfl rfl rfl rfl ts115 rfl rfl (w32s_one _) hp rfl (Nat.le_of_ble_eq_true rfl) (splice_all _ _ rfl) ?_
      intro w hp
      have hpS13 := (hp.sub (.cons _ (.cons _ (.cons _ (.cons_cons _ (.cons_cons _ .slnil))))))
      refine GL_nil ⟨fun _ => hpS13, ?_⟩
      refine GO_of_GL rfl ?_
      refine GL_store (i := 1) (wn_none rfl) rfl rfl rfl rfl ts113 rfl (stC_length _) (stC_one _) hp rfl (Nat.le_of_ble_eq_true rfl) (splice_all _ _ (by rw [stC_length]; rfl)) ?_
      intro w hp
      have hpS14 := (hp.sub (.cons _ (.cons _ (.cons _ (.cons_cons _ (.cons_cons _ .slnil))))))
      refine GL_nil ⟨fun _ => hpS14, ?_⟩
      refine GO_nil ?_
      have hp := ((((((hp.front 4 rfl).front 4 rfl).front 4 rfl).front 3 rfl).front 4 rfl).take 5)
      exact ⟨g3, g7, g6, _, slots5 rfl rfl rfl rfl rfl, hp⟩
    ·skip
     refine GC_of_GL ?_
     refine GL_alloc (wn_none rfl) rfl rfl tz115 rfl hp ?_
     intro g8 w hp
     have hpS15 := (hp.sub (.cons _ (.cons_cons _ (.cons_cons _ .slnil))))
     refine GL_nil ⟨fun _ => hpS15, ?_⟩
     refine GO_two rfl rfl ?_ ?_
     ·skip
      refine GC_of_GL ?_
      refine GL_alloc (wn_none rfl) rfl rfl tz115 rfl hp ?_
      intro g9 w hp
      have hpS16 := (hp.sub (.cons _ (.cons _ (.cons_cons _ (.cons_cons _ .slnil)))))
      refine GL_nil ⟨fun _ => hpS16, ?_⟩
      refine GO_of_GL rfl ?_
      refine GL_alloc (wn_none rfl) rfl rfl tz113 rfl hp ?_
      intro g10 w hp
      have hpS17 := (hp.sub (.cons _ (.cons _ (.cons _ (.cons_cons _ (.cons_cons _ .slnil))))))
      refine GL_nil ⟨fun _ => hpS17, ?_⟩
      refine GO_of_GL rfl ?_
      refine GL_store (i := 1) (wn_none rfl) rfl rfl rfl rfl ts115 rfl (by rw [w32s_length, schedB_length]) (w32s_one _) hp rfl (Nat.le_of_ble_eq_true rfl) (splice_all _ _ (by rw [w32s_length, schedB_length]; rfl)) ?_
      intro w hp
      have hpS18 := (hp.sub (.cons _ (.cons _ (.cons _ (.cons_cons _ (.cons_cons _ .slnil))))))
      refine GL_nil ⟨fun _ => hpS18, ?_⟩
      refine GO_of_GL rfl ?_
      refine GL_store (i := 2) (wn_none rfl) rfl rfl rfl rfl ts115 rfl rfl (w32s_one _) hp rfl (Nat.le_of_ble_eq_true rfl) (splice_all _ _ rfl) ?_
      intro w hp
      have hpS19 := (hp.sub (.cons _ (.cons _ (.cons _ (.cons_cons _ (.cons_cons _ .slnil))))))
      refine GL_nil ⟨fun _ => hpS19, ?_⟩
      refine GO_of_GL rfl ?_
      refine GL_store (i := 0) (wn_none rfl) rfl rfl rfl rfl ts113 rfl (stC_length _) (stC_one _) hp rfl (Nat.le_of_ble_eq_true rfl) (splice_all _ _ (by rw [stC_length]; rfl)) ?_
      intro w hp
      have hpS20 := (hp.sub (.cons _ (.cons _ (.cons _ (.cons_cons _ (.cons_cons _ .slnil))))))
      refine GL_nil ⟨fun _ => hpS20, ?_⟩
      refine GO_nil ?_
      have hp := ((((((hp.front 4 rfl).front 4 rfl).front 3 rfl).front 4 rfl).front 4 rfl).take 5)
      exact ⟨g9, g8, g10, _, slots5 rfl rfl rfl rfl rfl, hp⟩
     ·skip
      refine GC_of_GL ?_
      refine GL_alloc (wn_none rfl) rfl rfl tz113 rfl hp ?_
      intro g11 w hp
      have hpS21 := (hp.sub (.cons _ (.cons _ (.cons_cons _ (.cons_cons _ .slnil)))))
      refine GL_nil ⟨fun _ => hpS21, ?_⟩
      refine GO_of_GL rfl ?_
      refine GL_alloc (wn_none rfl) rfl rfl tz115 rfl hp ?_
      intro g12 w hp
      have hpS22 := (hp.sub (.cons _ (.cons _ (.cons _ (.cons_cons _ (.cons_cons _ .slnil))))))
      refine GL_nil ⟨fun _ => hpS22, ?_⟩
      refine GO_of_GL rfl ?_
      refine GL_store (i := 0) (wn_none rfl) rfl rfl rfl rfl ts115 rfl (by rw [w32s_length, schedB_length]) (w32s_one _) hp rfl (Nat.le_of_ble_eq_true rfl) (splice_all _ _ (by rw [w32s_length, schedB_length]; rfl)) ?_
      intro w hp
      have hpS23 := (hp.sub (.cons _ (.cons _ (.cons _ (.cons_cons _ (.cons_cons _ .slnil))))))
      refine GL_nil ⟨fun _ => hpS23, ?_⟩
      refine GO_of_GL rfl ?_
      refine GL_store (i := 2) (wn_none rfl) rfl rfl rfl rfl ts115 rfl rfl (w32s_one _) hp rfl (Nat.le_of_ble_eq_true rfl) (splice_all _ _ rfl) ?_
      intro w hp
      have hpS24 := (hp.sub (.cons _ (.cons _ (.cons _ (.cons_cons _ (.cons_cons _ .slnil))))))
      refine GL_nil ⟨fun _ => hpS24, ?_⟩
      refine GO_of_GL rfl ?_
      refine GL_store (i := 1) (wn_none rfl) rfl rfl rfl rfl ts113 rfl (stC_length _) (stC_one _) hp rfl (Nat.le_of_ble_eq_true rfl) (splice_all _ _ (by rw [stC_length]; rfl)) ?_
      intro w hp
      have hpS25 := (hp.sub (.cons _ (.cons _ (.cons _ (.cons_cons _ (.cons_cons _ .slnil))))))
      refine GL_nil ⟨fun _ => hpS25, ?_⟩
      refine GO_nil ?_
      have hp := ((((((hp.front 4 rfl).front 4 rfl).front 2 rfl).front 4 rfl).front 4 rfl).take 5)
      exact ⟨g12, g8, g11, _, slots5 rfl rfl rfl rfl rfl, hp⟩
    ·skip
     refine GC_of_GL ?_
     refine GL_alloc (wn_none rfl) rfl rfl tz113 rfl hp ?_
     intro g13 w hp
     have hpS26 := (hp.sub (.cons _ (.cons_cons _ (.cons_cons _ .slnil))))
     refine GL_nil ⟨fun _ => hpS26, ?_⟩
     refine GO_two rfl rfl ?_ ?_
     ·skip
      refine GC_of_GL ?_
      refine GL_alloc (wn_none rfl) rfl rfl tz115 rfl hp ?_
      intro g14 w hp
      have hpS27 := (hp.sub (.cons _ (.cons _ (.cons_cons _ (.cons_cons _ .slnil)))))
      refine GL_nil ⟨fun _ => hpS27, ?_⟩
      refine GO_of_GL rfl ?_
      refine GL_alloc (wn_none rfl) rfl rfl tz115 rfl hp ?_
      intro g15 w hp
      have hpS28 := (hp.sub (.cons _ (.cons _ (.cons _ (.cons_cons _ (.cons_cons _ .slnil))))))
      refine GL_nil ⟨fun _ => hpS28, ?_⟩
      refine GO_of_GL rfl ?_
      refine GL_store (i := 1) (wn_none rfl) rfl rfl rfl rfl ts115 rfl (by rw [w32s_length, schedB_length]) (w32s_one _) hp rfl (Nat.le_of_ble_eq_true rfl) (splice_all _ _ (by rw [w32s_length, schedB_length]; rfl)) ?_
      intro w hp
      have hpS29 := (hp.sub (.cons _ (.cons _ (.cons _ (.cons_cons _ (.cons_cons _ .slnil))))))
      refine GL_nil ⟨fun _ => hpS29, ?_⟩
      refine GO_of_GL rfl ?_
      refine GL_store (i := 0) (wn_none rfl) rfl rfl rfl rfl ts115 rfl rfl (w32s_one _) hp rfl (Nat.le_of_ble_eq_true rfl) (splice_all _ _ rfl) ?_
      intro w hp
      have hpS30 := (hp.sub (.cons _ (.cons _ (.cons _ (.cons_cons _ (.cons_cons _ .slnil))))))
      refine GL_nil ⟨fun _ => hpS30, ?_⟩
      refine GO_of_GL rfl ?_
      refine GL_store (i := 2) (wn_none rfl) rfl rfl rfl rfl ts113 rfl (stC_length _) (stC_one _) hp rfl (Nat.le_of_ble_eq_true rfl) (splice_all _ _ (by rw [stC_length]; rfl)) ?_
      intro w hp
      have hpS31 := (hp.sub (.cons _ (.cons _ (.cons _ (.cons_cons _ (.cons_cons _ .slnil))))))
      refine GL_nil ⟨fun _ => hpS31, ?_⟩
      refine GO_nil ?_
      have hp := ((((((hp.front 4 rfl).front 4 rfl).front 3 rfl).front 3 rfl).front 4 rfl).take 5)
      exact ⟨g14, g15, g13, _, slots5 rfl rfl rfl rfl rfl, hp⟩
     ·skip
      refine GC_of_GL ?_
      refine GL_alloc (wn_none rfl) rfl rfl tz115 rfl hp ?_
      intro g16 w hp
      have hpS32 := (hp.sub (.cons _ (.cons _ (.cons_cons _ (.cons_cons _ .slnil)))))
      refine GL_nil ⟨fun _ => hpS32, ?_⟩
      refine GO_of_GL rfl ?_
      refine GL_alloc (wn_none rfl) rfl rfl tz115 rfl hp ?_
      intro g17 w hp
      have hpS33 := (hp.sub (.cons _ (.cons _ (.cons _ (.cons_cons _ (.cons_cons _ .slnil))))))
      refine GL_nil ⟨fun _ => hpS33, ?_⟩
      refine GO_of_GL rfl ?_
      refine GL_store (i := 0) (wn_none rfl) rfl rfl rfl rfl ts115 rfl (by rw [w32s_length, schedB_length]) (w32s_one _) hp rfl (Nat.le_of_ble_eq_true rfl) (splice_all _ _ (by rw [w32s_length, schedB_length]; rfl)) ?_
      intro w hp
      have hpS34 := (hp.sub (.cons _ (.cons _ (.cons _ (.cons_cons _ (.cons_cons _ .slnil))))))
      refine GL_nil ⟨fun _ => hpS34, ?_⟩
      refine GO_of_GL rfl ?_
      refine GL_store (i := 1) (wn_none rfl) rfl rfl rfl rfl ts115 rfl rfl (w32s_one _) hp rfl (Nat.le_of_ble_eq_true rfl) (splice_all _ _ rfl) ?_
      intro w hp
      have hpS35 := (hp.sub (.cons _ (.cons _ (.cons _ (.cons_cons _ (.cons_cons _ .slnil))))))
      refine GL_nil ⟨fun _ => hpS35, ?_⟩
      refine GO_of_GL rfl ?_
      refine GL_store (i := 2) (wn_none rfl) rfl rfl rfl rfl ts113 rfl (stC_length _) (stC_one _) hp rfl (Nat.le_of_ble_eq_true rfl) (splice_all _ _ (by rw [stC_length]; rfl)) ?_
      intro w hp
      have hpS36 := (hp.sub (.cons _ (.cons _ (.cons _ (.cons_cons _ (.cons_cons _ .slnil))))))
      refine GL_nil ⟨fun _ => hpS36, ?_⟩
      refine GO_nil ?_
      have hp := ((((((hp.front 4 rfl).front 4 rfl).front 2 rfl).front 3 rfl).front 4 rfl).take 5)
      exact ⟨g17, g16, g13, _, slots5 rfl rfl rfl rfl rfl, hp⟩
   ·skip
    refine GC_of_GL ?_
    refine GL_alloc (wn_none rfl) rfl rfl tz115 rfl hp ?_
    intro g18 w hp
    have hpS37 := (hp.sub (.cons _ (.cons_cons _ (.cons_cons _ .slnil))))
    refine GL_nil ⟨fun _ => hpS37, ?_⟩
    refine GO_alt rfl ?_ (GX_alt rfl ?_ (GX_one rfl ?_))
    ·skip
     refine GC_of_GL ?_
     refine GL_call (wn_none rfl) rfl rfl (dig_rounds _) rfl ?_
     rintro _ w ⟨rfl, hk⟩
     have hp := hp.comp hk
     have hpS38 := (hp.sub (.cons _ (.cons_cons _ (.cons_cons _ .slnil))))
     refine GL_nil ⟨fun _ => hpS38, ?_⟩
     refine GO_two rfl rfl ?_ ?_
     ·skip
      refine GC_of_GL ?_
      refine GL_alloc (wn_none rfl) rfl rfl tz115 rfl hp ?_
      intro g19 w hp
      have hpS39 := (hp.sub (.cons _ (.cons _ (.cons_cons _ (.cons_cons _ .slnil)))))
      refine GL_nil ⟨fun _ => hpS39, ?_⟩
      refine GO_of_GL rfl ?_
      refine GL_alloc (wn_none rfl) rfl rfl tz113 rfl hp ?_
      intro g20 w hp
      have hpS40 := (hp.sub (.cons _ (.cons _ (.cons _ (.cons_cons _ (.cons_cons _ .slnil))))))
      refine GL_nil ⟨fun _ => hpS40, ?_⟩
      refine GO_of_GL rfl ?_
      refine GL_store (i := 2) (wn_none rfl) rfl rfl rfl rfl ts115 rfl (by rw [w32s_length, schedB_length]) (w32s_one _) hp rfl (Nat.le_of_ble_eq_true rfl) (splice_all _ _ (by rw [w32s_length, schedB_length]; rfl)) ?_
      intro w hp
      have hpS41 := (hp.sub (.cons _ (.cons _ (.cons _ (.cons_cons _ (.cons_cons _ .slnil))))))
      refine GL_nil ⟨fun _ => hpS41, ?_⟩
      refine GO_of_GL rfl ?_
      refine GL_store (i := 1) (wn_none rfl) rfl rfl rfl rfl ts115 rfl rfl (w32s_one _) hp rfl (Nat.le_of_ble_eq_true rfl) (splice_all _ _ rfl) ?_
      intro w hp
      have hpS42 := (hp.sub (.cons _ (.cons _ (.cons _ (.cons_cons _ (.cons_cons _ .slnil))))))
      refine GL_nil ⟨fun _ => hpS42, ?_⟩
      refine GO_of_GL rfl ?_
      refine GL_store (i := 0) (wn_none rfl) rfl rfl rfl rfl ts113 rfl (stC_length _) (stC_one _) hp rfl (Nat.le_of_ble_eq_true rfl) (splice_all _ _ (by rw [stC_length]; rfl)) ?_
      intro w hp
      have hpS43 := (hp.sub (.cons _ (.cons _ (.cons _ (.cons_cons _ (.cons_cons _ .slnil))))))
      refine GL_nil ⟨fun _ => hpS43, ?_⟩
      refine GO_nil ?_
      have hp := ((((((hp.front 4 rfl).front 4 rfl).front 4 rfl).front 4 rfl).front 4 rfl).take 5)
      exact ⟨g18, g19, g20, _, slots5 rfl rfl rfl rfl rfl, hp⟩
     ·skip
      refine GC_of_GL ?_
      refine GL_alloc (wn_none rfl) rfl rfl tz113 rfl hp ?_
      intro g21 w hp
      have hpS44 := (hp.sub (.cons _ (.cons _ (.cons_cons _ (.cons_cons _ .slnil)))))
      refine GL_nil ⟨fun _ => hpS44, ?_⟩
      refine GO_of_GL rfl ?_
      refine GL_alloc (wn_none rfl) rfl rfl tz115 rfl hp ?_
      intro g22 w hp
      have hpS45 := (hp.sub (.cons _ (.cons _ (.cons _ (.cons_cons _ (.cons_cons _ .slnil))))))
      refine GL_nil ⟨fun _ => hpS45, ?_⟩
      refine GO_of_GL rfl ?_
      refine GL_store (i := 2) (wn_none rfl) rfl rfl rfl rfl ts115 rfl (by rw [w32s_length, schedB_length]) (w32s_one _) hp rfl (Nat.le_of_ble_eq_true rfl) (splice_all _ _ (by rw [w32s_length, schedB_length]; rfl)) ?_
      intro w hp
      have hpS46 := (hp.sub (.cons _ (.cons _ (.cons _ (.cons_cons _ (.cons_cons _ .slnil))))))
      refine GL_nil ⟨fun _ => hpS46, ?_⟩
      refine GO_of_GL rfl ?_
      refine GL_store (i := 0) (wn_none rfl) rfl rfl rfl rfl ts115 rfl rfl (w32s_one _) hp rfl (Nat.le_of_ble_eq_true rfl) (splice_all _ _ rfl) ?_
      intro w hp
      have hpS47 := (hp.sub (.cons _ (.cons _ (.cons _ (.cons_cons _ (.cons_cons _ .slnil))))))
      refine GL_nil ⟨fun _ => hpS47, ?_⟩
      refine GO_of_GL rfl ?_
      refine GL_store (i := 1) (wn_none rfl) rfl rfl rfl rfl ts113 rfl (stC_length _) (stC_one _) hp rfl (Nat.le_of_ble_eq_true rfl) (splice_all _ _ (by rw [stC_length]; rfl)) ?_
      intro w hp
      have hpS48 := (hp.sub (.cons _ (.cons _ (.cons _ (.cons_cons _ (.cons_cons _ .slnil))))))
      refine GL_nil ⟨fun _ => hpS48, ?_⟩
      refine GO_nil ?_
      have hp := ((((((hp.front 4 rfl).front 4 rfl).front 4 rfl).front 3 rfl).front 4 rfl).take 5)
      exact ⟨g18, g22, g21, _, slots5 rfl rfl rfl rfl rfl, hp⟩
    ·skip
     refine GC_of_GL ?_
     refine GL_alloc (wn_none rfl) rfl rfl tz115 rfl hp ?_
     intro g23 w hp
     have hpS49 := (hp.sub (.cons _ (.cons _ (.cons_cons _ (.cons_cons _ .slnil)))))
     refine GL_nil ⟨fun _ => hpS49, ?_⟩
     refine GO_two rfl rfl ?_ ?_
     ·skip
      refine GC_of_GL ?_
      refine GL_call (wn_none rfl) rfl rfl (dig_rounds _) rfl ?_
      rintro _ w ⟨rfl, hk⟩
      have hp := hp.comp hk
      have hpS50 := (hp.sub (.cons _ (.cons _ (.cons_cons _ (.cons_cons _ .slnil)))))
      refine GL_nil ⟨fun _ => hpS50, ?_⟩
      refine GO_of_GL rfl ?_
      refine GL_alloc (wn_none rfl) rfl rfl tz113 rfl hp ?_
      intro g24 w hp
      have hpS51 := (hp.sub (.cons _ (.cons _ (.cons _ (.cons_cons _ (.cons_cons _ .slnil))))))
      refine GL_nil ⟨fun _ => hpS51, ?_⟩
      refine GO_of_GL rfl ?_
      refine GL_store (i := 2) (wn_none rfl) rfl rfl rfl rfl ts115 rfl (by rw [w32s_length, schedB_length]) (w32s_one _) hp rfl (Nat.le_of_ble_eq_true rfl) (splice_all _ _ (by rw [w32s_length, schedB_length]; rfl)) ?_
      intro w hp
      have hpS52 := (hp.sub (.cons _ (.cons _ (.cons _ (.cons_cons _ (.cons_cons _ .slnil))))))
      refine GL_nil ⟨fun _ => hpS52, ?_⟩
      refine GO_of_GL rfl ?_
      refine GL_store (i := 1) (wn_none rfl) rfl rfl rfl rfl ts115 rfl rfl (w32s_one _) hp rfl (Nat.le_of_ble_eq_true rfl) (splice_all _ _ rfl) ?_
      intro w hp
      have hpS53 := (hp.sub (.cons _ (.cons _ (.cons _ (.cons_cons _ (.cons_cons _ .slnil))))))
      refine GL_nil ⟨fun _ => hpS53, ?_⟩
      refine GO_of_GL rfl ?_
      refine GL_store (i := 0) (wn_none rfl) rfl rfl rfl rfl ts113 rfl (stC_length _) (stC_one _) hp rfl (Nat.le_of_ble_eq_true rfl) (splice_all _ _ (by rw [stC_length]; rfl)) ?_
      intro w hp
      have hpS54 := (hp.sub (.cons _ (.cons _ (.cons _ (.cons_cons _ (.cons_cons _ .slnil))))))
      refine GL_nil ⟨fun _ => hpS54, ?_⟩
      refine GO_nil ?_
      have hp := ((((((hp.front 4 rfl).front 4 rfl).front 4 rfl).front 4 rfl).front 4 rfl).take 5)
      exact ⟨g18, g23, g24, _, slots5 rfl rfl rfl rfl rfl, hp⟩
     ·skip
      refine GC_of_GL ?_
      refine GL_alloc (wn_none rfl) rfl rfl tz113 rfl hp ?_
      intro g25 w hp
      have hpS55 := (hp.sub (.cons _ (.cons _ (.cons _ (.cons_cons _ (.cons_cons _ .slnil))))))
      refine GL_nil ⟨fun _ => hpS55, ?_⟩
      refine GO_of_GL rfl ?_
      refine GL_call (wn_none rfl) rfl rfl (dig_rounds _) rfl ?_
      rintro _ w ⟨rfl, hk⟩
      have hp := hp.comp hk
      have hpS56 := (hp.sub (.cons _ (.cons _ (.cons _ (.cons_cons _ (.cons_cons _ .slnil))))))
      refine GL_nil ⟨fun _ => hpS56, ?_⟩
      refine GO_of_GL rfl ?_
      refine GL_store (i := 2) (wn_none rfl) rfl rfl rfl rfl ts115 rfl (by rw [w32s_length, schedB_length]) (w32s_one _) hp rfl (Nat.le_of_ble_eq_true rfl) (splice_all _ _ (by rw [w32s_length, schedB_length]; rfl)) ?_
      intro w hp
      have hpS57 := (hp.sub (.cons _ (.cons _ (.cons _ (.cons_cons _ (.cons_cons _ .slnil))))))
      refine GL_nil ⟨fun _ => hpS57, ?_⟩
      refine GO_of_GL rfl ?_
      refine GL_store (i := 1) (wn_none rfl) rfl rfl rfl rfl ts115 rfl rfl (w32s_one _) hp rfl (Nat.le_of_ble_eq_true rfl) (splice_all _ _ rfl) ?_
      intro w hp
      have hpS58 := (hp.sub (.cons _ (.cons _ (.cons _ (.cons_cons _ (.cons_cons _ .slnil))))))
      refine GL_nil ⟨fun _ => hpS58, ?_⟩
      refine GO_of_GL rfl ?_
      refine GL_store (i := 0) (wn_none rfl) rfl rfl rfl rfl ts113 rfl (stC_length _) (stC_one _) hp rfl (Nat.le_of_ble_eq_true rfl) (splice_all _ _ (by rw [stC_length]; rfl)) ?_
      intro w hp
      have hpS59 := (hp.sub (.cons _ (.cons _ (.cons _ (.cons_cons _ (.cons_cons _ .slnil))))))
      refine GL_nil ⟨fun _ => hpS59, ?_⟩
      refine GO_nil ?_
      have hp := ((((((hp.front 4 rfl).front 4 rfl).front 4 rfl).front 4 rfl).front 4 rfl).take 5)
      exact ⟨g18, g23, g25, _, slots5 rfl rfl rfl rfl rfl, hp⟩
    ·skip
     refine GC_of_GL ?_
     refine GL_alloc (wn_none rfl) rfl rfl tz113 rfl hp ?_
     intro g26 w hp
     have hpS60 := (hp.sub (.cons _ (.cons _ (.cons_cons _ (.cons_cons _ .slnil)))))
     refine GL_nil ⟨fun _ => hpS60, ?_⟩
     refine GO_two rfl rfl ?_ ?_
     ·skip
      refine GC_of_GL ?_
      refine GL_call (wn_none rfl) rfl rfl (dig_rounds _) rfl ?_
      rintro _ w ⟨rfl, hk⟩
      have hp := hp.comp hk
      have hpS61 := (hp.sub (.cons _ (.cons _ (.cons_cons _ (.cons_cons _ .slnil)))))
      refine GL_nil ⟨fun _ => hpS61, ?_⟩
      refine GO_of_GL rfl ?_
      refine GL_alloc (wn_none rfl) rfl rfl tz115 rfl hp ?_
      intro g27 w hp
      have hpS62 := (hp.sub (.cons _ (.cons _ (.cons _ (.cons_cons _ (.cons_cons _ .slnil))))))
      refine GL_nil ⟨fun _ => hpS62, ?_⟩
      refine GO_of_GL rfl ?_
      refine GL_store (i := 2) (wn_none rfl) rfl rfl rfl rfl ts115 rfl (by rw [w32s_length, schedB_length]) (w32s_one _) hp rfl (Nat.le_of_ble_eq_true rfl) (splice_all _ _ (by rw [w32s_length, schedB_length]; rfl)) ?_
      intro w hp
      have hpS63 := (hp.sub (.cons _ (.cons _ (.cons _ (.cons_cons _ (.cons_cons _ .slnil))))))
      refine GL_nil ⟨fun _ => hpS63, ?_⟩
      refine GO_of_GL rfl ?_
      refine GL_store (i := 0) (wn_none rfl) rfl rfl rfl rfl ts115 rfl rfl (w32s_one _) hp rfl (Nat.le_of_ble_eq_true rfl) (splice_all _ _ rfl) ?_
      intro w hp
      have hpS64 := (hp.sub (.cons _ (.cons _ (.cons _ (.cons_cons _ (.cons_cons _ .slnil))))))
      refine GL_nil ⟨fun _ => hpS64, ?_⟩
      refine GO_of_GL rfl ?_
      refine GL_store (i := 1) (wn_none rfl) rfl rfl rfl rfl ts113 rfl (stC_length _) (stC_one _) hp rfl (Nat.le_of_ble_eq_true rfl) (splice_all _ _ (by rw [stC_length]; rfl)) ?_
      intro w hp
      have hpS65 := (hp.sub (.cons _ (.cons _ (.cons _ (.cons_cons _ (.cons_cons _ .slnil))))))
      refine GL_nil ⟨fun _ => hpS65, ?_⟩
      refine GO_nil ?_
      have hp := ((((((hp.front 4 rfl).front 4 rfl).front 4 rfl).front 3 rfl).front 4 rfl).take 5)
      exact ⟨g18, g27, g26, _, slots5 rfl rfl rfl rfl rfl, hp⟩
     ·skip
      refine GC_of_GL ?_
      refine GL_alloc (wn_none rfl) rfl rfl tz115 rfl hp ?_
      intro g28 w hp
      have hpS66 := (hp.sub (.cons _ (.cons _ (.cons _ (.cons_cons _ (.cons_cons _ .slnil))))))
      refine GL_nil ⟨fun _ => hpS66, ?_⟩
      refine GO_of_GL rfl ?_
      refine GL_call (wn_none rfl) rfl rfl (dig_rounds _) rfl ?_
      rintro _ w ⟨rfl, hk⟩
      have hp := hp.comp hk
      have hpS67 := (hp.sub (.cons _ (.cons _ (.cons _ (.cons_cons _ (.cons_cons _ .slnil))))))
      refine GL_nil ⟨fun _ => hpS67, ?_⟩
      refine GO_of_GL rfl ?_
      refine GL_store (i := 2) (wn_none rfl) rfl rfl rfl rfl ts115 rfl (by rw [w32s_length, schedB_length]) (w32s_one _) hp rfl (Nat.le_of_ble_eq_true rfl) (splice_all _ _ (by rw [w32s_length, schedB_length]; rfl)) ?_
      intro w hp
      have hpS68 := (hp.sub (.cons _ (.cons _ (.cons _ (.cons_cons _ (.cons_cons _ .slnil))))))
      refine GL_nil ⟨fun _ => hpS68, ?_⟩
      refine GO_of_GL rfl ?_
      refine GL_store (i := 0) (wn_none rfl) rfl rfl rfl rfl ts115 rfl rfl (w32s_one _) hp rfl (Nat.le_of_ble_eq_true rfl) (splice_all _ _ rfl) ?_
      intro w hp
      have hpS69 := (hp.sub (.cons _ (.cons _ (.cons _ (.cons_cons _ (.cons_cons _ .slnil))))))
      refine GL_nil ⟨fun _ => hpS69, ?_⟩
      refine GO_of_GL rfl ?_
      refine GL_store (i := 1) (wn_none rfl) rfl rfl rfl rfl ts113 rfl (stC_length _) (stC_one _) hp rfl (Nat.le_of_ble_eq_true rfl) (splice_all _ _ (by rw [stC_length]; rfl)) ?_
      intro w hp
      have hpS70 := (hp.sub (.cons _ (.cons _ (.cons _ (.cons_cons _ (.cons_cons _ .slnil))))))
      refine GL_nil ⟨fun _ => hpS70, ?_⟩
      refine GO_nil ?_
      have hp := ((((((hp.front 4 rfl).front 4 rfl).front 4 rfl).front 3 rfl).front 4 rfl).take 5)
      exact ⟨g18, g28, g26, _, slots5 rfl rfl rfl rfl rfl, hp⟩
   ·skip
    refine GC_of_GL ?_
    refine GL_alloc (wn_none rfl) rfl rfl tz115 rfl hp ?_
    intro g29 w hp
    have hpS71 := (hp.sub (.cons _ (.cons_cons _ (.cons_cons _ .slnil))))
    refine GL_nil ⟨fun _ => hpS71, ?_⟩
    refine GO_alt rfl ?_ (GX_alt rfl ?_ (GX_one rfl ?_))
    ·skip
     refine GC_of_GL ?_
     refine GL_call (wn_none rfl) rfl rfl (dig_rounds _) rfl ?_
     rintro _ w ⟨rfl, hk⟩
     have hp := hp.comp hk
     have hpS72 := (hp.sub (.cons _ (.cons_cons _ (.cons_cons _ .slnil))))
     refine GL_nil ⟨fun _ => hpS72, ?_⟩
     refine GO_two rfl rfl ?_ ?_
     ·skip
      refine GC_of_GL ?_
      refine GL_alloc (wn_none rfl) rfl rfl tz115 rfl hp ?_
      intro g30 w hp
      have hpS73 := (hp.sub (.cons _ (.cons _ (.cons_cons _ (.cons_cons _ .slnil)))))
      refine GL_nil ⟨fun _ => hpS73, ?_⟩
      refine GO_of_GL rfl ?_
      refine GL_alloc (wn_none rfl) rfl rfl tz113 rfl hp ?_
      intro g31 w hp
      have hpS74 := (hp.sub (.cons _ (.cons _ (.cons _ (.cons_cons _ (.cons_cons _ .slnil))))))
      refine GL_nil ⟨fun _ => hpS74, ?_⟩
      refine GO_of_GL rfl ?_
      refine GL_store (i := 1) (wn_none rfl) rfl rfl rfl rfl ts115 rfl (by rw [w32s_length, schedB_length]) (w32s_one _) hp rfl (Nat.le_of_ble_eq_true rfl) (splice_all _ _ (by rw [w32s_length, schedB_length]; rfl)) ?_
      intro w hp
      have hpS75 := (hp.sub (.cons _ (.cons _ (.cons _ (.cons_cons _ (.cons_cons _ .slnil))))))
      refine GL_nil ⟨fun _ => hpS75, ?_⟩
      refine GO_of_GL rfl ?_
      refine GL_store (i := 2) (wn_none rfl) rfl rfl rfl rfl ts115 rfl rfl (w32s_one _) hp rfl (Nat.le_of_ble_eq_true rfl) (splice_all _ _ rfl) ?_
      intro w hp
      have hpS76 := (hp.sub (.cons _ (.cons _ (.cons _ (.cons_cons _ (.cons_cons _ .slnil))))))
      refine GL_nil ⟨fun _ => hpS76, ?_⟩
      refine GO_of_GL rfl ?_
      refine GL_store (i := 0) (wn_none rfl) rfl rfl rfl rfl ts113 rfl (stC_length _) (stC_one _) hp rfl (Nat.le_of_ble_eq_true rfl) (splice_all _ _ (by rw [stC_length]; rfl)) ?_
      intro w hp
      have hpS77 := (hp.sub (.cons _ (.cons _ (.cons _ (.cons_cons _ (.cons_cons _ .slnil))))))
      refine GL_nil ⟨fun _ => hpS77, ?_⟩
      refine GO_nil ?_
      have hp := ((((((hp.front 4 rfl).front 4 rfl).front 3 rfl).front 4 rfl).front 4 rfl).take 5)
      exact ⟨g30, g29, g31, _, slots5 rfl rfl rfl rfl rfl, hp⟩
     ·skip
      refine GC_of_GL ?_
      refine GL_alloc (wn_none rfl) rfl rfl tz113 rfl hp ?_
      intro g32 w hp
      have hpS78 := (hp.sub (.cons _ (.cons _ (.cons_cons _ (.cons_cons _ .slnil)))))
      refine GL_nil ⟨fun _ => hpS78, ?_⟩
      refine GO_of_GL rfl ?_
      refine GL_alloc (wn_none rfl) rfl rfl tz115 rfl hp ?_
      intro g33 w hp
      have hpS79 := (hp.sub (.cons _ (.cons _ (.cons _ (.cons_cons _ (.cons_cons _ .slnil))))))
      refine GL_nil ⟨fun _ => hpS79, ?_⟩
      refine GO_of_GL rfl ?_
      refine GL_store (i := 0) (wn_none rfl) rfl rfl rfl rfl ts115 rfl (by rw [w32s_length, schedB_length]) (w32s_one _) hp rfl (Nat.le_of_ble_eq_true rfl) (splice_all _ _ (by rw [w32s_length, schedB_length]; rfl)) ?_
      intro w hp
      have hpS80 := (hp.sub (.cons _ (.cons _ (.cons _ (.cons_cons _ (.cons_cons _ .slnil))))))
      refine GL_nil ⟨fun _ => hpS80, ?_⟩
      refine GO_of_GL rfl ?_
      refine GL_store (i := 2) (wn_none rfl) rfl rfl rfl rfl ts115 rfl rfl (w32s_one _) hp rfl (Nat.le_of_ble_eq_true rfl) (splice_all _ _ rfl) ?_
      intro w hp
      have hpS81 := (hp.sub (.cons _ (.cons _ (.cons _ (.cons_cons _ (.cons_cons _ .slnil))))))
      refine GL_nil ⟨fun _ => hpS81, ?_⟩
      refine GO_of_GL rfl ?_
      refine GL_store (i := 1) (wn_none rfl) rfl rfl rfl rfl ts113 rfl (stC_length _) (stC_one _) hp rfl (Nat.le_of_ble_eq_true rfl) (splice_all _ _ (by rw [stC_length]; rfl)) ?_
      intro w hp
      have hpS82 := (hp.sub (.cons _ (.cons _ (.cons _ (.cons_cons _ (.cons_cons _ .slnil))))))
      refine GL_nil ⟨fun _ => hpS82, ?_⟩
      refine GO_nil ?_
      have hp := ((((((hp.front 4 rfl).front 4 rfl).front 2 rfl).front 4 rfl).front 4 rfl).take 5)
      exact ⟨g33, g29, g32, _, slots5 rfl rfl rfl rfl rfl, hp⟩
    ·skip
     refine GC_of_GL ?_
     refine GL_alloc (wn_none rfl) rfl rfl tz115 rfl hp ?_
     intro g34 w hp
     have hpS83 := (hp.sub (.cons _ (.cons _ (.cons_cons _ (.cons_cons _ .slnil)))))
     refine GL_nil ⟨fun _ => hpS83, ?_⟩
     refine GO_two rfl rfl ?_ ?_
     ·skip
      refine GC_of_GL ?_
      refine GL_call (wn_none rfl) rfl rfl (dig_rounds _) rfl ?_
      rintro _ w ⟨rfl, hk⟩
      have hp := hp.comp hk
      have hpS84 := (hp.sub (.cons _ (.cons _ (.cons_cons _ (.cons_cons _ .slnil)))))
      refine GL_nil ⟨fun _ => hpS84, ?_⟩
      refine GO_of_GL rfl ?_
      refine GL_alloc (wn_none rfl) rfl rfl tz113 rfl hp ?_
      intro g35 w hp
      have hpS85 := (hp.sub (.cons _ (.cons _ (.cons _ (.cons_cons _ (.cons_cons _ .slnil))))))
      refine GL_nil ⟨fun _ => hpS85, ?_⟩
      refine GO_of_GL rfl ?_
      refine GL_store (i := 1) (wn_none rfl) rfl rfl rfl rfl ts115 rfl (by rw [w32s_length, schedB_length]) (w32s_one _) hp rfl (Nat.le_of_ble_eq_true rfl) (splice_all _ _ (by rw [w32s_length, schedB_length]; rfl)) ?_
      intro w hp
      have hpS86 := (hp.sub (.cons _ (.cons _ (.cons _ (.cons_cons _ (.cons_cons _ .slnil))))))
      refine GL_nil ⟨fun _ => hpS86, ?_⟩
      refine GO_of_GL rfl ?_
      refine GL_store (i := 2) (wn_none rfl) rfl rfl rfl rfl ts115 rfl rfl (w32s_one _) hp rfl (Nat.le_of_ble_eq_true rfl) (splice_all _ _ rfl) ?_
      intro w hp
      have hpS87 := (hp.sub (.cons _ (.cons _ (.cons _ (.cons_cons _ (.cons_cons _ .slnil))))))
      refine GL_nil ⟨fun _ => hpS87, ?_⟩
      refine GO_of_GL rfl ?_
      refine GL_store (i := 0) (wn_none rfl) rfl rfl rfl rfl ts113 rfl (stC_length _) (stC_one _) hp rfl (Nat.le_of_ble_eq_true rfl) (splice_all _ _ (by rw [stC_length]; rfl)) ?_
      intro w hp
      have hpS88 := (hp.sub (.cons _ (.cons _ (.cons _ (.cons_cons _ (.cons_cons _ .slnil))))))
      refine GL_nil ⟨fun _ => hpS88, ?_⟩
      refine GO_nil ?_
      have hp := ((((((hp.front 4 rfl).front 4 rfl).front 3 rfl).front 4 rfl).front 4 rfl).take 5)
      exact ⟨g34, g29, g35, _, slots5 rfl rfl rfl rfl rfl, hp⟩
     ·skip
      refine GC_of_GL ?_
      refine GL_alloc (wn_none rfl) rfl rfl tz113 rfl hp ?_
      intro g36 w hp
      have hpS89 := (hp.sub (.cons _ (.cons _ (.cons _ (.cons_cons _ (.cons_cons _ .slnil))))))
      refine GL_nil ⟨fun _ => hpS89, ?_⟩
      refine GO_of_GL rfl ?_
      refine GL_call (wn_none rfl) rfl rfl (dig_rounds _) rfl ?_
      rintro _ w ⟨rfl, hk⟩
      have hp := hp.comp hk
      have hpS90 := (hp.sub (.cons _ (.cons _ (.cons _ (.cons_cons _ (.cons_cons _ .slnil))))))
      refine GL_nil ⟨fun _ => hpS90, ?_⟩
      refine GO_of_GL rfl ?_
      refine GL_store (i := 1) (wn_none rfl) rfl rfl rfl rfl ts115 rfl (by rw [w32s_length, schedB_length]) (w32s_one _) hp rfl (Nat.le_of_ble_eq_true rfl) (splice_all _ _ (by rw [w32s_length, schedB_length]; rfl)) ?_
      intro w hp
      have hpS91 := (hp.sub (.cons _ (.cons _ (.cons _ (.cons_cons _ (.cons_cons _ .slnil))))))
      refine GL_nil ⟨fun _ => hpS91, ?_⟩
      refine GO_of_GL rfl ?_
      refine GL_store (i := 2) (wn_none rfl) rfl rfl rfl rfl ts115 rfl rfl (w32s_one _) hp rfl (Nat.le_of_ble_eq_true rfl) (splice_all _ _ rfl) ?_
      intro w hp
      have hpS92 := (hp.sub (.cons _ (.cons _ (.cons _ (.cons_cons _ (.cons_cons _ .slnil))))))
      refine GL_nil ⟨fun _ => hpS92, ?_⟩
      refine GO_of_GL rfl ?_
      refine GL_store (i := 0) (wn_none rfl) rfl rfl rfl rfl ts113 rfl (stC_length _) (stC_one _) hp rfl (Nat.le_of_ble_eq_true rfl) (splice_all _ _ (by rw [stC_length]; rfl)) ?_
      intro w hp
      have hpS93 := (hp.sub (.cons _ (.cons _ (.cons _ (.cons_cons _ (.cons_cons _ .slnil))))))
      refine GL_nil ⟨fun _ => hpS93, ?_⟩
      refine GO_nil ?_
      have hp := ((((((hp.front 4 rfl).front 4 rfl).front 3 rfl).front 4 rfl).front 4 rfl).take 5)
      exact ⟨g34, g29, g36, _, slots5 rfl rfl rfl rfl rfl, hp⟩
    ·skip
     refine GC_of_GL ?_
     refine GL_alloc (wn_none rfl) rfl rfl tz113 rfl hp ?_
     intro g37 w hp
     have hpS94 := (hp.sub (.cons _ (.cons _ (.cons_cons _ (.cons_cons _ .slnil)))))
     refine GL_nil ⟨fun _ => hpS94, ?_⟩
     refine GO_two rfl rfl ?_ ?_
     ·skip
      refine GC_of_GL ?_
      refine GL_call (wn_none rfl) rfl rfl (dig_rounds _) rfl ?_
      rintro _ w ⟨rfl, hk⟩
      have hp := hp.comp hk
      have hpS95 := (hp.sub (.cons _ (.cons _ (.cons_cons _ (.cons_cons _ .slnil)))))
      refine GL_nil ⟨fun _ => hpS95, ?_⟩
      refine GO_of_GL rfl ?_
      refine GL_alloc (wn_none rfl) rfl rfl tz115 rfl hp ?_
      intro g38 w hp
      have hpS96 := (hp.sub (.cons _ (.cons _ (.cons _ (.cons_cons _ (.cons_cons _ .slnil))))))
      refine GL_nil ⟨fun _ => hpS96, ?_⟩
      refine GO_of_GL rfl ?_
      refine GL_store (i := 0) (wn_none rfl) rfl rfl rfl rfl ts115 rfl (by rw [w32s_length, schedB_length]) (w32s_one _) hp rfl (Nat.le_of_ble_eq_true rfl) (splice_all _ _ (by rw [w32s_length, schedB_length]; rfl)) ?_
      intro w hp
      have hpS97 := (hp.sub (.cons _ (.cons _ (.cons _ (.cons_cons _ (.cons_cons _ .slnil))))))
      refine GL_nil ⟨fun _ => hpS97, ?_⟩
      refine GO_of_GL rfl ?_
      refine GL_store (i := 2) (wn_none rfl) rfl rfl rfl rfl ts115 rfl rfl (w32s_one _) hp rfl (Nat.le_of_ble_eq_true rfl) (splice_all _ _ rfl) ?_
      intro w hp
      have hpS98 := (hp.sub (.cons _ (.cons _ (.cons _ (.cons_cons _ (.cons_cons _ .slnil))))))
      refine GL_nil ⟨fun _ => hpS98, ?_⟩
      refine GO_of_GL rfl ?_
      refine GL_store (i := 1) (wn_none rfl) rfl rfl rfl rfl ts113 rfl (stC_length _) (stC_one _) hp rfl (Nat.le_of_ble_eq_true rfl) (splice_all _ _ (by rw [stC_length]; rfl)) ?_
      intro w hp
      have hpS99 := (hp.sub (.cons _ (.cons _ (.cons _ (.cons_cons _ (.cons_cons _ .slnil))))))
      refine GL_nil ⟨fun _ => hpS99, ?_⟩
      refine GO_nil ?_
      have hp := ((((((hp.front 4 rfl).front 4 rfl).front 2 rfl).front 4 rfl).front 4 rfl).take 5)
      exact ⟨g38, g29, g37, _, slots5 rfl rfl rfl rfl rfl, hp⟩
     ·skip
      refine GC_of_GL ?_
      refine GL_alloc (wn_none rfl) rfl rfl tz115 rfl hp ?_
      intro g39 w hp
      have hpS100 := (hp.sub (.cons _ (.cons _ (.cons _ (.cons_cons _ (.cons_cons _ .slnil))))))
      refine GL_nil ⟨fun _ => hpS100, ?_⟩
      refine GO_of_GL rfl ?_
      refine GL_call (wn_none rfl) rfl rfl (dig_rounds _) rfl ?_
      rintro _ w ⟨rfl, hk⟩
      have hp := hp.comp hk
      have hpS101 := (hp.sub (.cons _ (.cons _ (.cons _ (.cons_cons _ (.cons_cons _ .slnil))))))
      refine GL_nil ⟨fun _ => hpS101, ?_⟩
      refine GO_of_GL rfl ?_
      refine GL_store (i := 0) (wn_none rfl) rfl rfl rfl rfl ts115 rfl (by rw [w32s_length, schedB_length]) (w32s_one _) hp rfl (Nat.le_of_ble_eq_true rfl) (splice_all _ _ (by rw [w32s_length, schedB_length]; rfl)) ?_
      intro w hp
      have hpS102 := (hp.sub (.cons _ (.cons _ (.cons _ (.cons_cons _ (.cons_cons _ .slnil))))))
      refine GL_nil ⟨fun _ => hpS102, ?_⟩
      refine GO_of_GL rfl ?_
      refine GL_store (i := 2) (wn_none rfl) rfl rfl rfl rfl ts115 rfl rfl (w32s_one _) hp rfl (Nat.le_of_ble_eq_true rfl) (splice_all _ _ rfl) ?_
      intro w hp
      have hpS103 := (hp.sub (.cons _ (.cons _ (.cons _ (.cons_cons _ (.cons_cons _ .slnil))))))
      refine GL_nil ⟨fun _ => hpS103, ?_⟩
      refine GO_of_GL rfl ?_
      refine GL_store (i := 1) (wn_none rfl) rfl rfl rfl rfl ts113 rfl (stC_length _) (stC_one _) hp rfl (Nat.le_of_ble_eq_true rfl) (splice_all _ _ (by rw [stC_length]; rfl)) ?_
      intro w hp
      have hpS104 := (hp.sub (.cons _ (.cons _ (.cons _ (.cons_cons _ (.cons_cons _ .slnil))))))
      refine GL_nil ⟨fun _ => hpS104, ?_⟩
      refine GO_nil ?_
      have hp := ((((((hp.front 4 rfl).front 4 rfl).front 2 rfl).front 4 rfl).front 4 rfl).take 5)
      exact ⟨g39, g29, g37, _, slots5 rfl rfl rfl rfl rfl, hp⟩
   ·skip
    refine GC_of_GL ?_
    refine GL_alloc (wn_none rfl) rfl rfl tz113 rfl hp ?_
    intro g40 w hp
    have hpS105 := (hp.sub (.cons _ (.cons_cons _ (.cons_cons _ .slnil))))
    refine GL_nil ⟨fun _ => hpS105, ?_⟩
    refine GO_alt rfl ?_ (GX_alt rfl ?_ (GX_one rfl ?_))
    ·skip
     refine GC_of_GL ?_
     refine GL_call (wn_none rfl) rfl rfl (dig_rounds _) rfl ?_
     rintro _ w ⟨rfl, hk⟩
     have hp := hp.comp hk
     have hpS106 := (hp.sub (.cons _ (.cons_cons _ (.cons_cons _ .slnil))))
     refine GL_nil ⟨fun _ => hpS106, ?_⟩
     refine GO_two rfl rfl ?_ ?_
     ·skip
      refine GC_of_GL ?_
      refine GL_alloc (wn_none rfl) rfl rfl tz115 rfl hp ?_
      intro g41 w hp
      have hpS107 := (hp.sub (.cons _ (.cons _ (.cons_cons _ (.cons_cons _ .slnil)))))
      refine GL_nil ⟨fun _ => hpS107, ?_⟩
      refine GO_of_GL rfl ?_
      refine GL_alloc (wn_none rfl) rfl rfl tz115 rfl hp ?_
      intro g42 w hp
      have hpS108 := (hp.sub (.cons _ (.cons _ (.cons _ (.cons_cons _ (.cons_cons _ .slnil))))))
      refine GL_nil ⟨fun _ => hpS108, ?_⟩
      refine GO_of_GL rfl ?_
      refine GL_store (i := 1) (wn_none rfl) rfl rfl rfl rfl ts115 rfl (by rw [w32s_length, schedB_length]) (w32s_one _) hp rfl (Nat.le_of_ble_eq_true rfl) (splice_all _ _ (by rw [w32s_length, schedB_length]; rfl)) ?_
      intro w hp
      have hpS109 := (hp.sub (.cons _ (.cons _ (.cons _ (.cons_cons _ (.cons_cons _ .slnil))))))
      refine GL_nil ⟨fun _ => hpS109, ?_⟩
      refine GO_of_GL rfl ?_
      refine GL_store (i := 0) (wn_none rfl) rfl rfl rfl rfl ts115 rfl rfl (w32s_one _) hp rfl (Nat.le_of_ble_eq_true rfl) (splice_all _ _ rfl) ?_
      intro w hp
      have hpS110 := (hp.sub (.cons _ (.cons _ (.cons _ (.cons_cons _ (.cons_cons _ .slnil))))))
      refine GL_nil ⟨fun _ => hpS110, ?_⟩
      refine GO_of_GL rfl ?_
      refine GL_store (i := 2) (wn_none rfl) rfl rfl rfl rfl ts113 rfl (stC_length _) (stC_one _) hp rfl (Nat.le_of_ble_eq_true rfl) (splice_all _ _ (by rw [stC_length]; rfl)) ?_
      intro w hp
      have hpS111 := (hp.sub (.cons _ (.cons _ (.cons _ (.cons_cons _ (.cons_cons _ .slnil))))))
      refine GL_nil ⟨fun _ => hpS111, ?_⟩
      refine GO_nil ?_
      have hp := ((((((hp.front 4 rfl).front 4 rfl).front 3 rfl).front 3 rfl).front 4 rfl).take 5)
      exact ⟨g41, g42, g40, _, slots5 rfl rfl rfl rfl rfl, hp⟩
     ·skip
      refine GC_of_GL ?_
      refine GL_alloc (wn_none rfl) rfl rfl tz115 rfl hp ?_
      intro g43 w hp
      have hpS112 := (hp.sub (.cons _ (.cons _ (.cons_cons _ (.cons_cons _ .slnil)))))
      refine GL_nil ⟨fun _ => hpS112, ?_⟩
      refine GO_of_GL rfl ?_
      refine GL_alloc (wn_none rfl) rfl rfl tz115 rfl hp ?_
      intro g44 w hp
      have hpS113 := (hp.sub (.cons _ (.cons _ (.cons _ (.cons_cons _ (.cons_cons _ .slnil))))))
      refine GL_nil ⟨fun _ => hpS113, ?_⟩
      refine GO_of_GL rfl ?_
      refine GL_store (i := 0) (wn_none rfl) rfl rfl rfl rfl ts115 rfl (by rw [w32s_length, schedB_length]) (w32s_one _) hp rfl (Nat.le_of_ble_eq_true rfl) (splice_all _ _ (by rw [w32s_length, schedB_length]; rfl)) ?_
      intro w hp
      have hpS114 := (hp.sub (.cons _ (.cons _ (.cons _ (.cons_cons _ (.cons_cons _ .slnil))))))
      refine GL_nil ⟨fun _ => hpS114, ?_⟩
      refine GO_of_GL rfl ?_
      refine GL_store (i := 1) (wn_none rfl) rfl rfl rfl rfl ts115 rfl rfl (w32s_one _) hp rfl (Nat.le_of_ble_eq_true rfl) (splice_all _ _ rfl) ?_
      intro w hp
      have hpS115 := (hp.sub (.cons _ (.cons _ (.cons _ (.cons_cons _ (.cons_cons _ .slnil))))))
      refine GL_nil ⟨fun _ => hpS115, ?_⟩
      refine GO_of_GL rfl ?_
      refine GL_store (i := 2) (wn_none rfl) rfl rfl rfl rfl ts113 rfl (stC_length _) (stC_one _) hp rfl (Nat.le_of_ble_eq_true rfl) (splice_all _ _ (by rw [stC_length]; rfl)) ?_
      intro w hp
      have hpS116 := (hp.sub (.cons _ (.cons _ (.cons _ (.cons_cons _ (.cons_cons _ .slnil))))))
      refine GL_nil ⟨fun _ => hpS116, ?_⟩
      refine GO_nil ?_
      have hp := ((((((hp.front 4 rfl).front 4 rfl).front 2 rfl).front 3 rfl).front 4 rfl).take 5)
      exact ⟨g44, g43, g40, _, slots5 rfl rfl rfl rfl rfl, hp⟩
    ·skip
     refine GC_of_GL ?_
     refine GL_alloc (wn_none rfl) rfl rfl tz115 rfl hp ?_
     intro g45 w hp
     have hpS117 := (hp.sub (.cons _ (.cons _ (.cons_cons _ (.cons_cons _ .slnil)))))
     refine GL_nil ⟨fun _ => hpS117, ?_⟩
     refine GO_two rfl rfl ?_ ?_
     ·skip
      refine GC_of_GL ?_
      refine GL_call (wn_none rfl) rfl rfl (dig_rounds _) rfl ?_
      rintro _ w ⟨rfl, hk⟩
      have hp := hp.comp hk
      have hpS118 := (hp.sub (.cons _ (.cons _ (.cons_cons _ (.cons_cons _ .slnil)))))
      refine GL_nil ⟨fun _ => hpS118, ?_⟩
      refine GO_of_GL rfl ?_
      refine GL_alloc (wn_none rfl) rfl rfl tz115 rfl hp ?_
      intro g46 w hp
      have hpS119 := (hp.sub (.cons _ (.cons _ (.cons _ (.cons_cons _ (.cons_cons _ .slnil))))))
      refine GL_nil ⟨fun _ => hpS119, ?_⟩
      refine GO_of_GL rfl ?_
      refine GL_store (i := 1) (wn_none rfl) rfl rfl rfl rfl ts115 rfl (by rw [w32s_length, schedB_length]) (w32s_one _) hp rfl (Nat.le_of_ble_eq_true rfl) (splice_all _ _ (by rw [w32s_length, schedB_length]; rfl)) ?_
      intro w hp
      have hpS120 := (hp.sub (.cons _ (.cons _ (.cons _ (.cons_cons _ (.cons_cons _ .slnil))))))
      refine GL_nil ⟨fun _ => hpS120, ?_⟩
      refine GO_of_GL rfl ?_
      refine GL_store (i := 0) (wn_none rfl) rfl rfl rfl rfl ts115 rfl rfl (w32s_one _) hp rfl (Nat.le_of_ble_eq_true rfl) (splice_all _ _ rfl) ?_
      intro w hp
      have hpS121 := (hp.sub (.cons _ (.cons _ (.cons _ (.cons_cons _ (.cons_cons _ .slnil))))))
      refine GL_nil ⟨fun _ => hpS121, ?_⟩
      refine GO_of_GL rfl ?_
      refine GL_store (i := 2) (wn_none rfl) rfl rfl rfl rfl ts113 rfl (stC_length _) (stC_one _) hp rfl (Nat.le_of_ble_eq_true rfl) (splice_all _ _ (by rw [stC_length]; rfl)) ?_
      intro w hp
      have hpS122 := (hp.sub (.cons _ (.cons _ (.cons _ (.cons_cons _ (.cons_cons _ .slnil))))))
      refine GL_nil ⟨fun _ => hpS122, ?_⟩
      refine GO_nil ?_
      have hp := ((((((hp.front 4 rfl).front 4 rfl).front 3 rfl).front 3 rfl).front 4 rfl).take 5)
      exact ⟨g45, g46, g40, _, slots5 rfl rfl rfl rfl rfl, hp⟩
     ·skip
      refine GC_of_GL ?_
      refine GL_alloc (wn_none rfl) rfl rfl tz115 rfl hp ?_
      intro g47 w hp
      have hpS123 := (hp.sub (.cons _ (.cons _ (.cons _ (.cons_cons _ (.cons_cons _ .slnil))))))
      refine GL_nil ⟨fun _ => hpS123, ?_⟩
      refine GO_of_GL rfl ?_
      refine GL_call (wn_none rfl) rfl rfl (dig_rounds _) rfl ?_
      rintro _ w ⟨rfl, hk⟩
      have hp := hp.comp hk
      have hpS124 := (hp.sub (.cons _ (.cons _ (.cons _ (.cons_cons _ (.cons_cons _ .slnil))))))
      refine GL_nil ⟨fun _ => hpS124, ?_⟩
      refine GO_of_GL rfl ?_
      refine GL_store (i := 1) (wn_none rfl) rfl rfl rfl rfl ts115 rfl (by rw [w32s_length, schedB_length]) (w32s_one _) hp rfl (Nat.le_of_ble_eq_true rfl) (splice_all _ _ (by rw [w32s_length, schedB_length]; rfl)) ?_
      intro w hp
      have hpS125 := (hp.sub (.cons _ (.cons _ (.cons _ (.cons_cons _ (.cons_cons _ .slnil))))))
      refine GL_nil ⟨fun _ => hpS125, ?_⟩
      refine GO_of_GL rfl ?_
      refine GL_store (i := 0) (wn_none rfl) rfl rfl rfl rfl ts115 rfl rfl (w32s_one _) hp rfl (Nat.le_of_ble_eq_true rfl) (splice_all _ _ rfl) ?_
      intro w hp
      have hpS126 := (hp.sub (.cons _ (.cons _ (.cons _ (.cons_cons _ (.cons_cons _ .slnil))))))
      refine GL_nil ⟨fun _ => hpS126, ?_⟩
      refine GO_of_GL rfl ?_
      refine GL_store (i := 2) (wn_none rfl) rfl rfl rfl rfl ts113 rfl (stC_length _) (stC_one _) hp rfl (Nat.le_of_ble_eq_true rfl) (splice_all _ _ (by rw [stC_length]; rfl)) ?_
      intro w hp
      have hpS127 := (hp.sub (.cons _ (.cons _ (.cons _ (.cons_cons _ (.cons_cons _ .slnil))))))
      refine GL_nil ⟨fun _ => hpS127, ?_⟩
      refine GO_nil ?_
      have hp := ((((((hp.front 4 rfl).front 4 rfl).front 3 rfl).front 3 rfl).front 4 rfl).take 5)
      exact ⟨g45, g47, g40, _, slots5 rfl rfl rfl rfl rfl, hp⟩
    ·skip
     refine GC_of_GL ?_
     refine GL_alloc (wn_none rfl) rfl rfl tz115 rfl hp ?_
     intro g48 w hp
     have hpS128 := (hp.sub (.cons _ (.cons _ (.cons_cons _ (.cons_cons _ .slnil)))))
     refine GL_nil ⟨fun _ => hpS128, ?_⟩
     refine GO_two rfl rfl ?_ ?_
     ·skip
      refine GC_of_GL ?_
      refine GL_call (wn_none rfl) rfl rfl (dig_rounds _) rfl ?_
      rintro _ w ⟨rfl, hk⟩
      have hp := hp.comp hk
      have hpS129 := (hp.sub (.cons _ (.cons _ (.cons_cons _ (.cons_cons _ .slnil)))))
      refine GL_nil ⟨fun _ => hpS129, ?_⟩
      refine GO_of_GL rfl ?_
      refine GL_alloc (wn_none rfl) rfl rfl tz115 rfl hp ?_
      intro g49 w hp
      have hpS130 := (hp.sub (.cons _ (.cons _ (.cons _ (.cons_cons _ (.cons_cons _ .slnil))))))
      refine GL_nil ⟨fun _ => hpS130, ?_⟩
      refine GO_of_GL rfl ?_
      refine GL_store (i := 0) (wn_none rfl) rfl rfl rfl rfl ts115 rfl (by rw [w32s_length, schedB_length]) (w32s_one _) hp rfl (Nat.le_of_ble_eq_true rfl) (splice_all _ _ (by rw [w32s_length, schedB_length]; rfl)) ?_
      intro w hp
      have hpS131 := (hp.sub (.cons _ (.cons _ (.cons _ (.cons_cons _ (.cons_cons _ .slnil))))))
      refine GL_nil ⟨fun _ => hpS131, ?_⟩
      refine GO_of_GL rfl ?_
      refine GL_store (i := 1) (wn_none rfl) rfl rfl rfl rfl ts115 rfl rfl (w32s_one _) hp rfl (Nat.le_of_ble_eq_true rfl) (splice_all _ _ rfl) ?_
      intro w hp
      have hpS132 := (hp.sub (.cons _ (.cons _ (.cons _ (.cons_cons _ (.cons_cons _ .slnil))))))
      refine GL_nil ⟨fun _ => hpS132, ?_⟩
      refine GO_of_GL rfl ?_
      refine GL_store (i := 2) (wn_none rfl) rfl rfl rfl rfl ts113 rfl (stC_length _) (stC_one _) hp rfl (Nat.le_of_ble_eq_true rfl) (splice_all _ _ (by rw [stC_length]; rfl)) ?_
      intro w hp
      have hpS133 := (hp.sub (.cons _ (.cons _ (.cons _ (.cons_cons _ (.cons_cons _ .slnil))))))
      refine GL_nil ⟨fun _ => hpS133, ?_⟩
      refine GO_nil ?_
      have hp := ((((((hp.front 4 rfl).front 4 rfl).front 2 rfl).front 3 rfl).front 4 rfl).take 5)
      exact ⟨g49, g48, g40, _, slots5 rfl rfl rfl rfl rfl, hp⟩
     ·skip
      refine GC_of_GL ?_
      refine GL_alloc (wn_none rfl) rfl rfl tz115 rfl hp ?_
      intro g50 w hp
      have hpS134 := (hp.sub (.cons _ (.cons _ (.cons _ (.cons_cons _ (.cons_cons _ .slnil))))))
      refine GL_nil ⟨fun _ => hpS134, ?_⟩
      refine GO_of_GL rfl ?_
      refine GL_call (wn_none rfl) rfl rfl (dig_rounds _) rfl ?_
      rintro _ w ⟨rfl, hk⟩
      have hp := hp.comp hk
      have hpS135 := (hp.sub (.cons _ (.cons _ (.cons _ (.cons_cons _ (.cons_cons _ .slnil))))))
      refine GL_nil ⟨fun _ => hpS135, ?_⟩
      refine GO_of_GL rfl ?_
      refine GL_store (i := 0) (wn_none rfl) rfl rfl rfl rfl ts115 rfl (by rw [w32s_length, schedB_length]) (w32s_one _) hp rfl (Nat.le_of_ble_eq_true rfl) (splice_all _ _ (by rw [w32s_length, schedB_length]; rfl)) ?_
      intro w hp
      have hpS136 := (hp.sub (.cons _ (.cons _ (.cons _ (.cons_cons _ (.cons_cons _ .slnil))))))
      refine GL_nil ⟨fun _ => hpS136, ?_⟩
      refine GO_of_GL rfl ?_
      refine GL_store (i := 1) (wn_none rfl) rfl rfl rfl rfl ts115 rfl rfl (w32s_one _) hp rfl (Nat.le_of_ble_eq_true rfl) (splice_all _ _ rfl) ?_
      intro w hp
      have hpS137 := (hp.sub (.cons _ (.cons _ (.cons _ (.cons_cons _ (.cons_cons _ .slnil))))))
      refine GL_nil ⟨fun _ => hpS137, ?_⟩
      refine GO_of_GL rfl ?_
      refine GL_store (i := 2) (wn_none rfl) rfl rfl rfl rfl ts113 rfl (stC_length _) (stC_one _) hp rfl (Nat.le_of_ble_eq_true rfl) (splice_all _ _ (by rw [stC_length]; rfl)) ?_
      intro w hp
      have hpS138 := (hp.sub (.cons _ (.cons _ (.cons _ (.cons_cons _ (.cons_cons _ .slnil))))))
      refine GL_nil ⟨fun _ => hpS138, ?_⟩
      refine GO_nil ?_
      have hp := ((((((hp.front 4 rfl).front 4 rfl).front 2 rfl).front 3 rfl).front 4 rfl).take 5)
      exact ⟨g50, g48, g40, _, slots5 rfl rfl rfl rfl rfl, hp⟩
  ·skip
   refine GC_of_GL ?_
   refine GL_alloc (wn_none rfl) rfl rfl tz115 rfl hp ?_
   intro g51 w hp
   have hpS139 := (hp.sub (.cons _ (.cons_cons _ (.cons_cons _ .slnil))))
   refine GL_nil ⟨fun _ => hpS139, ?_⟩
   refine GO_alt rfl ?_ (GX_alt rfl ?_ (GX_one rfl ?_))
   ·skip
    refine GC_of_GL ?_
    refine GL_call (wn_none rfl) rfl rfl (dig_spread _ m l _ (hs.keep hp.mod) hm) rfl ?_
    rintro _ w ⟨rfl, hk⟩
    have hp := hp.comp hk
    have hpS140 := (hp.sub (.cons _ (.cons_cons _ (.cons_cons _ .slnil))))
    refine GL_nil ⟨fun _ => hpS140, ?_⟩
    refine GO_alt rfl ?_ (GX_alt rfl ?_ (GX_one rfl ?_))
    ·skip
     refine GC_of_GL ?_
     refine GL_call (wn_none rfl) rfl rfl (dig_rounds _) rfl ?_
     rintro _ w ⟨rfl, hk⟩
     have hp := hp.comp hk
     have hpS141 := (hp.sub (.cons _ (.cons_cons _ (.cons_cons _ .slnil))))
     refine GL_nil ⟨fun _ => hpS141, ?_⟩
     refine GO_two rfl rfl ?_ ?_
     ·skip
      refine GC_of_GL ?_
      refine GL_alloc (wn_none rfl) rfl rfl tz115 rfl hp ?_
      intro g52 w hp
      have hpS142 := (hp.sub (.cons _ (.cons _ (.cons_cons _ (.cons_cons _ .slnil)))))
      refine GL_nil ⟨fun _ => hpS142, ?_⟩
      refine GO_of_GL rfl ?_
      refine GL_alloc (wn_none rfl) rfl rfl tz113 rfl hp ?_
      intro g53 w hp
      have hpS143 := (hp.sub (.cons _ (.cons _ (.cons _ (.cons_cons _ (.cons_cons _ .slnil))))))
      refine GL_nil ⟨fun _ => hpS143, ?_⟩
      refine GO_of_GL rfl ?_
      refine GL_store (i := 2) (wn_none rfl) rfl rfl rfl rfl ts115 rfl (by rw [w32s_length, schedB_length]) (w32s_one _) hp rfl (Nat.le_of_ble_eq_true rfl) (splice_all _ _ (by rw [w32s_length, schedB_length]; rfl)) ?_
      intro w hp
      have hpS144 := (hp.sub (.cons _ (.cons _ (.cons _ (.cons_cons _ (.cons_cons _ .slnil))))))
      refine GL_nil ⟨fun _ => hpS144, ?_⟩
      refine GO_of_GL rfl ?_
      refine GL_store (i := 1) (wn_none rfl) rfl rfl rfl rfl ts115 rfl rfl (w32s_one _) hp rfl (Nat.le_of_ble_eq_true rfl) (splice_all _ _ rfl) ?_
      intro w hp
      have hpS145 := (hp.sub (.cons _ (.cons _ (.cons _ (.cons_cons _ (.cons_cons _ .slnil))))))
      refine GL_nil ⟨fun _ => hpS145, ?_⟩
      refine GO_of_GL rfl ?_
      refine GL_store (i := 0) (wn_none rfl) rfl rfl rfl rfl ts113 rfl (stC_length _) (stC_one _) hp rfl (Nat.le_of_ble_eq_true rfl) (splice_all _ _ (by rw [stC_length]; rfl)) ?_
      intro w hp
      have hpS146 := (hp.sub (.cons _ (.cons _ (.cons _ (.cons_cons _ (.cons_cons _ .slnil))))))
      refine GL_nil ⟨fun _ => hpS146, ?_⟩
      refine GO_nil ?_
      have hp := ((((((hp.front 4 rfl).front 4 rfl).front 4 rfl).front 4 rfl).front 4 rfl).take 5)
      exact ⟨g51, g52, g53, _, slots5 rfl rfl rfl rfl rfl, hp⟩
     ·skip
      refine GC_of_GL ?_
      refine GL_alloc (wn_none rfl) rfl rfl tz113 rfl hp ?_
      intro g54 w hp
      have hpS147 := (hp.sub (.cons _ (.cons _ (.cons_cons _ (.cons_cons _ .slnil)))))
      refine GL_nil ⟨fun _ => hpS147, ?_⟩
      refine GO_of_GL rfl ?_
      refine GL_alloc (wn_none rfl) rfl rfl tz115 rfl hp ?_
      intro g55 w hp
      have hpS148 := (hp.sub (.cons _ (.cons _ (.cons _ (.cons_cons _ (.cons_cons _ .slnil))))))
      refine GL_nil ⟨fun _ => hpS148, ?_⟩
      refine GO_of_GL rfl ?_
      refine GL_store (i := 2) (wn_none rfl) rfl rfl rfl rfl ts115 rfl (by rw [w32s_length, schedB_length]) (w32s_one _) hp rfl (Nat.le_of_ble_eq_true rfl) (splice_all _ _ (by rw [w32s_length, schedB_length]; rfl)) ?_
      intro w hp
      have hpS149 := (hp.sub (.cons _ (.cons _ (.cons _ (.cons_cons _ (.cons_cons _ .slnil))))))
      refine GL_nil ⟨fun _ => hpS149, ?_⟩
      refine GO_of_GL rfl ?_
      refine GL_store (i := 0) (wn_none rfl) rfl rfl rfl rfl ts115 rfl rfl (w32s_one _) hp rfl (Nat.le_of_ble_eq_true rfl) (splice_all _ _ rfl) ?_
      intro w hp
      have hpS150 := (hp.sub (.cons _ (.cons _ (.cons _ (.cons_cons _ (.cons_cons _ .slnil))))))
      refine GL_nil ⟨fun _ => hpS150, ?_⟩
      refine GO_of_GL rfl ?_
      refine GL_store (i := 1) (wn_none rfl) rfl rfl rfl rfl ts113 rfl (stC_length _) (stC_one _) hp rfl (Nat.le_of_ble_eq_true rfl) (splice_all _ _ (by rw [stC_length]; rfl)) ?_
      intro w hp
      have hpS151 := (hp.sub (.cons _ (.cons _ (.cons _ (.cons_cons _ (.cons_cons _ .slnil))))))
      refine GL_nil ⟨fun _ => hpS151, ?_⟩
      refine GO_nil ?_
      have hp := ((((((hp.front 4 rfl).front 4 rfl).front 4 rfl).front 3 rfl).front 4 rfl).take 5)
      exact ⟨g51, g55, g54, _, slots5 rfl rfl rfl rfl rfl, hp⟩
    ·skip
     refine GC_of_GL ?_
     refine GL_alloc (wn_none rfl) rfl rfl tz115 rfl hp ?_
     intro g56 w hp
     have hpS152 := (hp.sub (.cons _ (.cons _ (.cons_cons _ (.cons_cons _ .slnil)))))
     refine GL_nil ⟨fun _ => hpS152, ?_⟩
     refine GO_two rfl rfl ?_ ?_
     ·skip
      refine GC_of_GL ?_
      refine GL_call (wn_none rfl) rfl rfl (dig_rounds _) rfl ?_
      rintro _ w ⟨rfl, hk⟩
      have hp := hp.comp hk
      have hpS153 := (hp.sub (.cons _ (.cons _ (.cons_cons _ (.cons_cons _ .slnil)))))
      refine GL_nil ⟨fun _ => hpS153, ?_⟩
      refine GO_of_GL rfl ?_
      refine GL_alloc (wn_none rfl) rfl rfl tz113 rfl hp ?_
      intro g57 w hp
      have hpS154 := (hp.sub (.cons _ (.cons _ (.cons _ (.cons_cons _ (.cons_cons _ .slnil))))))
      refine GL_nil ⟨fun _ => hpS154, ?_⟩
      refine GO_of_GL rfl ?_
      refine GL_store (i := 2) (wn_none rfl) rfl rfl rfl rfl ts115 rfl (by rw [w32s_length, schedB_length]) (w32s_one _) hp rfl (Nat.le_of_ble_eq_true rfl) (splice_all _ _ (by rw [w32s_length, schedB_length]; rfl)) ?_
      intro w hp
      have hpS155 := (hp.sub (.cons _ (.cons _ (.cons _ (.cons_cons _ (.cons_cons _ .slnil))))))
      refine GL_nil ⟨fun _ => hpS155, ?_⟩
      refine GO_of_GL rfl ?_
      refine GL_store (i := 1) (wn_none rfl) rfl rfl rfl rfl ts115 rfl rfl (w32s_one _) hp rfl (Nat.le_of_ble_eq_true rfl) (splice_all _ _ rfl) ?_
      intro w hp
      have hpS156 := (hp.sub (.cons _ (.cons _ (.cons _ (.cons_cons _ (.cons_cons _ .slnil))))))
      refine GL_nil ⟨fun _ => hpS156, ?_⟩
      refine GO_of_GL rfl ?_
      refine GL_store (i := 0) (wn_none rfl) rfl rfl rfl rfl ts113 rfl (stC_length _) (stC_one _) hp rfl (Nat.le_of_ble_eq_true rfl) (splice_all _ _ (by rw [stC_length]; rfl)) ?_
      intro w hp
      have hpS157 := (hp.sub (.cons _ (.cons _ (.cons _ (.cons_cons _ (.cons_cons _ .slnil))))))
      refine GL_nil ⟨fun _ => hpS157, ?_⟩
      refine GO_nil ?_
      have hp := ((((((hp.front 4 rfl).front 4 rfl).front 4 rfl).front 4 rfl).front 4 rfl).take 5)
      exact ⟨g51, g56, g57, _, slots5 rfl rfl rfl rfl rfl, hp⟩
     ·skip
      refine GC_of_GL ?_
      refine GL_alloc (wn_none rfl) rfl rfl tz113 rfl hp ?_
      intro g58 w hp
      have hpS158 := (hp.sub (.cons _ (.cons _ (.cons _ (.cons_cons _ (.cons_cons _ .slnil))))))
      refine GL_nil ⟨fun _ => hpS158, ?_⟩
      refine GO_of_GL rfl ?_
      refine GL_call (wn_none rfl) rfl rfl (dig_rounds _) rfl ?_
      rintro _ w ⟨rfl, hk⟩
      have hp := hp.comp hk
      have hpS159 := (hp.sub (.cons _ (.cons _ (.cons _ (.cons_cons _ (.cons_cons _ .slnil))))))
      refine GL_nil ⟨fun _ => hpS159, ?_⟩
      refine GO_of_GL rfl ?_
      refine GL_store (i := 2) (wn_none rfl) rfl rfl rfl rfl ts115 rfl (by rw [w32s_length, schedB_length]) (w32s_one _) hp rfl (Nat.le_of_ble_eq_true rfl) (splice_all _ _ (by rw [w32s_length, schedB_length]; rfl)) ?_
      intro w hp
      have hpS160 := (hp.sub (.cons _ (.cons _ (.cons _ (.cons_cons _ (.cons_cons _ .slnil))))))
      refine GL_nil ⟨fun _ => hpS160, ?_⟩
      refine GO_of_GL rfl ?_
      refine GL_store (i := 1) (wn_none rfl) rfl rfl rfl rfl ts115 rfl rfl (w32s_one _) hp rfl (Nat.le_of_ble_eq_true rfl) (splice_all _ _ rfl) ?_
      intro w hp
      have hpS161 := (hp.sub (.cons _ (.cons _ (.cons _ (.cons_cons _ (.cons_cons _ .slnil))))))
      refine GL_nil ⟨fun _ => hpS161, ?_⟩
      refine GO_of_GL rfl ?_
      refine GL_store (i := 0) (wn_none rfl) rfl rfl rfl rfl ts113 rfl (stC_length _) (stC_one _) hp rfl (Nat.le_of_ble_eq_true rfl) (splice_all _ _ (by rw [stC_length]; rfl)) ?_
      intro w hp
      have hpS162 := (hp.sub (.cons _ (.cons _ (.cons _ (.cons_cons _ (.cons_cons _ .slnil))))))
      refine GL_nil ⟨fun _ => hpS162, ?_⟩
      refine GO_nil ?_
      have hp := ((((((hp.front 4 rfl).front 4 rfl).front 4 rfl).front 4 rfl).front 4 rfl).take 5)
      exact ⟨g51, g56, g58, _, slots5 rfl rfl rfl rfl rfl, hp⟩
    ·skip
     refine GC_of_GL ?_
     refine GL_alloc (wn_none rfl) rfl rfl tz113 rfl hp ?_
     intro g59 w hp
     have hpS163 := (hp.sub (.cons _ (.cons _ (.cons_cons _ (.cons_cons _ .slnil)))))
     refine GL_nil ⟨fun _ => hpS163, ?_⟩
     refine GO_two rfl rfl ?_ ?_
     ·skip
      refine GC_of_GL ?_
      refine GL_call (wn_none rfl) rfl rfl (dig_rounds _) rfl ?_
      rintro _ w ⟨rfl, hk⟩
      have hp := hp.comp hk
      have hpS164 := (hp.sub (.cons _ (.cons _ (.cons_cons _ (.cons_cons _ .slnil)))))
      refine GL_nil ⟨fun _ => hpS164, ?_⟩
      refine GO_of_GL rfl ?_
      refine GL_alloc (wn_none rfl) rfl rfl tz115 rfl hp ?_
      intro g60 w hp
      have hpS165 := (hp.sub (.cons _ (.cons _ (.cons _ (.cons_cons _ (.cons_cons _ .slnil))))))
      refine GL_nil ⟨fun _ => hpS165, ?_⟩
      refine GO_of_GL rfl ?_
      refine GL_store (i := 2) (wn_none rfl) rfl rfl rfl rfl ts115 rfl (by rw [w32s_length, schedB_length]) (w32s_one _) hp rfl (Nat.le_of_ble_eq_true rfl) (splice_all _ _ (by rw [w32s_length, schedB_length]; rfl)) ?_
      intro w hp
      have hpS166 := (hp.sub (.cons _ (.cons _ (.cons _ (.cons_cons _ (.cons_cons _ .slnil))))))
      refine GL_nil ⟨fun _ => hpS166, ?_⟩
      refine GO_of_GL rfl ?_
      refine GL_store (i := 0) (wn_none rfl) rfl rfl rfl rfl ts115 rfl rfl (w32s_one _) hp rfl (Nat.le_of_ble_eq_true rfl) (splice_all _ _ rfl) ?_
      intro w hp
      have hpS167 := (hp.sub (.cons _ (.cons _ (.cons _ (.cons_cons _ (.cons_cons _ .slnil))))))
      refine GL_nil ⟨fun _ => hpS167, ?_⟩
      refine GO_of_GL rfl ?_
      refine GL_store (i := 1) (wn_none rfl) rfl rfl rfl rfl ts113 rfl (stC_length _) (stC_one _) hp rfl (Nat.le_of_ble_eq_true rfl) (splice_all _ _ (by rw [stC_length]; rfl)) ?_
      intro w hp
      have hpS168 := (hp.sub (.cons _ (.cons _ (.cons _ (.cons_cons _ (.cons_cons _ .slnil))))))
      refine GL_nil ⟨fun _ => hpS168, ?_⟩
      refine GO_nil ?_
      have hp := ((((((hp.front 4 rfl).front 4 rfl).front 4 rfl).front 3 rfl).front 4 rfl).take 5)
      exact ⟨g51, g60, g59, _, slots5 rfl rfl rfl rfl rfl, hp⟩
     ·skip
      refine GC_of_GL ?_
      refine GL_alloc (wn_none rfl) rfl rfl tz115 rfl hp ?_
      intro g61 w hp
      have hpS169 := (hp.sub (.cons _ (.cons _ (.cons _ (.cons_cons _ (.cons_cons _ .slnil))))))
      refine GL_nil ⟨fun _ => hpS169, ?_⟩
      refine GO_of_GL rfl ?_
      refine GL_call (wn_none rfl) rfl rfl (dig_rounds _) rfl ?_
      rintro _ w ⟨rfl, hk⟩
      have hp := hp.comp hk
      have hpS170 := (hp.sub (.cons _ (.cons _ (.cons _ (.cons_cons _ (.cons_cons _ .slnil))))))
      refine GL_nil ⟨fun _ => hpS170, ?_⟩
      refine GO_of_GL rfl ?_
      refine GL_store (i := 2) (wn_none rfl) rfl rfl rfl rfl ts115 rfl (by rw [w32s_length, schedB_length]) (w32s_one _) hp rfl (Nat.le_of_ble_eq_true rfl) (splice_all _ _ (by rw [w32s_length, schedB_length]; rfl)) ?_
      intro w hp
      have hpS171 := (hp.sub (.cons _ (.cons _ (.cons _ (.cons_cons _ (.cons_cons _ .slnil))))))
      refine GL_nil ⟨fun _ => hpS171, ?_⟩
      refine GO_of_GL rfl ?_
      refine GL_store (i := 0) (wn_none rfl) rfl rfl rfl rfl ts115 rfl rfl (w32s_one _) hp rfl (Nat.le_of_ble_eq_true rfl) (splice_all _ _ rfl) ?_
      intro w hp
      have hpS172 := (hp.sub (.cons _ (.cons _ (.cons _ (.cons_cons _ (.cons_cons _ .slnil))))))
      refine GL_nil ⟨fun _ => hpS172, ?_⟩
      refine GO_of_GL rfl ?_
      refine GL_store (i := 1) (wn_none rfl) rfl rfl rfl rfl ts113 rfl (stC_length _) (stC_one _) hp rfl (Nat.le_of_ble_eq_true rfl) (splice_all _ _ (by rw [stC_length]; rfl)) ?_
      intro w hp
      have hpS173 := (hp.sub (.cons _ (.cons _ (.cons _ (.cons_cons _ (.cons_cons _ .slnil))))))
      refine GL_nil ⟨fun _ => hpS173, ?_⟩
      refine GO_nil ?_
      have hp := ((((((hp.front 4 rfl).front 4 rfl).front 4 rfl).front 3 rfl).front 4 rfl).take 5)
      exact ⟨g51, g61, g59, _, slots5 rfl rfl rfl rfl rfl, hp⟩
   ·skip
    refine GC_of_GL ?_
    refine GL_alloc (wn_none rfl) rfl rfl tz115 rfl hp ?_
    intro g62 w hp
    have hpS174 := (hp.sub (.cons _ (.cons _ (.cons_cons _ (.cons_cons _ .slnil)))))
    refine GL_nil ⟨fun _ => hpS174, ?_⟩
    refine GO_two rfl rfl ?_ ?_
    ·skip
     refine GC_of_GL ?_
     refine GL_call (wn_none rfl) rfl rfl (dig_spread _ m l _ (hs.keep hp.mod) hm) rfl ?_
     rintro _ w ⟨rfl, hk⟩
     have hp := hp.comp hk
     have hpS175 := (hp.sub (.cons _ (.cons _ (.cons_cons _ (.cons_cons _ .slnil)))))
     refine GL_nil ⟨fun _ => hpS175, ?_⟩
     refine GO_two rfl rfl ?_ ?_
     ·skip
      refine GC_of_GL ?_
      refine GL_call (wn_none rfl) rfl rfl (dig_rounds _) rfl ?_
      rintro _ w ⟨rfl, hk⟩
      have hp := hp.comp hk
      have hpS176 := (hp.sub (.cons _ (.cons _ (.cons_cons _ (.cons_cons _ .slnil)))))
      refine GL_nil ⟨fun _ => hpS176, ?_⟩
      refine GO_of_GL rfl ?_
      refine GL_alloc (wn_none rfl) rfl rfl tz113 rfl hp ?_
      intro g63 w hp
      have hpS177 := (hp.sub (.cons _ (.cons _ (.cons _ (.cons_cons _ (.cons_cons _ .slnil))))))
      refine GL_nil ⟨fun _ => hpS177, ?_⟩
      refine GO_of_GL rfl ?_
      refine GL_store (i := 2) (wn_none rfl) rfl rfl rfl rfl ts115 rfl (by rw [w32s_length, schedB_length]) (w32s_one _) hp rfl (Nat.le_of_ble_eq_true rfl) (splice_all _ _ (by rw [w32s_length, schedB_length]; rfl)) ?_
      intro w hp
      have hpS178 := (hp.sub (.cons _ (.cons _ (.cons _ (.cons_cons _ (.cons_cons _ .slnil))))))
      refine GL_nil ⟨fun _ => hpS178, ?_⟩
      refine GO_of_GL rfl ?_
      refine GL_store (i := 1) (wn_none rfl) rfl rfl rfl rfl ts115 rfl rfl (w32s_one _) hp rfl (Nat.le_of_ble_eq_true rfl) (splice_all _ _ rfl) ?_
      intro w hp
      have hpS179 := (hp.sub (.cons _ (.cons _ (.cons _ (.cons_cons _ (.cons_cons _ .slnil))))))
      refine GL_nil ⟨fun _ => hpS179, ?_⟩
      refine GO_of_GL rfl ?_
      refine GL_store (i := 0) (wn_none rfl) rfl rfl rfl rfl ts113 rfl (stC_length _) (stC_one _) hp rfl (Nat.le_of_ble_eq_true rfl) (splice_all _ _ (by rw [stC_length]; rfl)) ?_
      intro w hp
      have hpS180 := (hp.sub (.cons _ (.cons _ (.cons _ (.cons_cons _ (.cons_cons _ .slnil))))))
      refine GL_nil ⟨fun _ => hpS180, ?_⟩
      refine GO_nil ?_
      have hp := ((((((hp.front 4 rfl).front 4 rfl).front 4 rfl).front 4 rfl).front 4 rfl).take 5)
      exact ⟨g51, g62, g63, _, slots5 rfl rfl rfl rfl rfl, hp⟩
     ·skip
      refine GC_of_GL ?_
      refine GL_alloc (wn_none rfl) rfl rfl tz113 rfl hp ?_
      intro g64 w hp
      have hpS181 := (hp.sub (.cons _ (.cons _ (.cons _ (.cons_cons _ (.cons_cons _ .slnil))))))
      refine GL_nil ⟨fun _ => hpS181, ?_⟩
      refine GO_of_GL rfl ?_
      refine GL_call (wn_none rfl) rfl rfl (dig_rounds _) rfl ?_
      rintro _ w ⟨rfl, hk⟩
      have hp := hp.comp hk
      have hpS182 := (hp.sub (.cons _ (.cons _ (.cons _ (.cons_cons _ (.cons_cons _ .slnil))))))
      refine GL_nil ⟨fun _ => hpS182, ?_⟩
      refine GO_of_GL rfl ?_
      refine GL_store (i := 2) (wn_none rfl) rfl rfl rfl rfl ts115 rfl (by rw [w32s_length, schedB_length]) (w32s_one _) hp rfl (Nat.le_of_ble_eq_true rfl) (splice_all _ _ (by rw [w32s_length, schedB_length]; rfl)) ?_
      intro w hp
      have hpS183 := (hp.sub (.cons _ (.cons _ (.cons _ (.cons_cons _ (.cons_cons _ .slnil))))))
      refine GL_nil ⟨fun _ => hpS183, ?_⟩
      refine GO_of_GL rfl ?_
      refine GL_store (i := 1) (wn_none rfl) rfl rfl rfl rfl ts115 rfl rfl (w32s_one _) hp rfl (Nat.le_of_ble_eq_true rfl) (splice_all _ _ rfl) ?_
      intro w hp
      have hpS184 := (hp.sub (.cons _ (.cons _ (.cons _ (.cons_cons _ (.cons_cons _ .slnil))))))
      refine GL_nil ⟨fun _ => hpS184, ?_⟩
      refine GO_of_GL rfl ?_
      refine GL_store (i := 0) (wn_none rfl) rfl rfl rfl rfl ts113 rfl (stC_length _) (stC_one _) hp rfl (Nat.le_of_ble_eq_true rfl) (splice_all _ _ (by rw [stC_length]; rfl)) ?_
      intro w hp
      have hpS185 := (hp.sub (.cons _ (.cons _ (.cons _ (.cons_cons _ (.cons_cons _ .slnil))))))
      refine GL_nil ⟨fun _ => hpS185, ?_⟩
      refine GO_nil ?_
      have hp := ((((((hp.front 4 rfl).front 4 rfl).front 4 rfl).front 4 rfl).front 4 rfl).take 5)
      exact ⟨g51, g62, g64, _, slots5 rfl rfl rfl rfl rfl, hp⟩
    ·skip
     refine GC_of_GL ?_
     refine GL_alloc (wn_none rfl) rfl rfl tz113 rfl hp ?_
     intro g65 w hp
     have hpS186 := (hp.sub (.cons _ (.cons _ (.cons _ (.cons_cons _ (.cons_cons _ .slnil))))))
     refine GL_nil ⟨fun _ => hpS186, ?_⟩
     refine GO_of_GL rfl ?_
     refine GL_call (wn_none rfl) rfl rfl (dig_spread _ m l _ (hs.keep hp.mod) hm) rfl ?_
     rintro _ w ⟨rfl, hk⟩
     have hp := hp.comp hk
     have hpS187 := (hp.sub (.cons _ (.cons _ (.cons _ (.cons_cons _ (.cons_cons _ .slnil))))))
     refine GL_nil ⟨fun _ => hpS187, ?_⟩
     refine GO_of_GL rfl ?_
     refine GL_call (wn_none rfl) rfl rfl (dig_rounds _) rfl ?_
     rintro _ w ⟨rfl, hk⟩
     have hp := hp.comp hk
     have hpS188 := (hp.sub (.cons _ (.cons _ (.cons _ (.cons_cons _ (.cons_cons _ .slnil))))))
     refine GL_nil ⟨fun _ => hpS188, ?_⟩
     refine GO_of_GL rfl ?_
     refine GL_store (i := 2) (wn_none rfl) rfl rfl rfl rfl ts115 rfl (by rw [w32s_length, schedB_length]) (w32s_one _) hp rfl (Nat.le_of_ble_eq_true rfl) (splice_all _ _ (by rw [w32s_length, schedB_length]; rfl)) ?_
     intro w hp
     have hpS189 := (hp.sub (.cons _ (.cons _ (.cons _ (.cons_cons _ (.cons_cons _ .slnil))))))
     refine GL_nil ⟨fun _ => hpS189, ?_⟩
     refine GO_of_GL rfl ?_
     refine GL_store (i := 1) (wn_none rfl) rfl rfl rfl rfl ts115 rfl rfl (w32s_one _) hp rfl (Nat.le_of_ble_eq_true rfl) (splice_all _ _ rfl) ?_
     intro w hp
     have hpS190 := (hp.sub (.cons _ (.cons _ (.cons _ (.cons_cons _ (.cons_cons _ .slnil))))))
     refine GL_nil ⟨fun _ => hpS190, ?_⟩
     refine GO_of_GL rfl ?_
     refine GL_store (i := 0) (wn_none rfl) rfl rfl rfl rfl ts113 rfl (stC_length _) (stC_one _) hp rfl (Nat.le_of_ble_eq_true rfl) (splice_all _ _ (by rw [stC_length]; rfl)) ?_
     intro w hp
     have hpS191 := (hp.sub (.cons _ (.cons _ (.cons _ (.cons_cons _ (.cons_cons _ .slnil))))))
     refine GL_nil ⟨fun _ => hpS191, ?_⟩
     refine GO_nil ?_
     have hp := ((((((hp.front 4 rfl).front 4 rfl).front 4 rfl).front 4 rfl).front 4 rfl).take 5)
     exact ⟨g51, g62, g65, _, slots5 rfl rfl rfl rfl rfl, hp⟩
   ·skip
    refine GC_of_GL ?_
    refine GL_alloc (wn_none rfl) rfl rfl tz113 rfl hp ?_
    intro g66 w hp
    have hpS192 := (hp.sub (.cons _ (.cons _ (.cons_cons _ (.cons_cons _ .slnil)))))
    refine GL_nil ⟨fun _ => hpS192, ?_⟩
    refine GO_two rfl rfl ?_ ?_
    ·skip
     refine GC_of_GL ?_
     refine GL_call (wn_none rfl) rfl rfl (dig_spread _ m l _ (hs.keep hp.mod) hm) rfl ?_
     rintro _ w ⟨rfl, hk⟩
     have hp := hp.comp hk
     have hpS193 := (hp.sub (.cons _ (.cons _ (.cons_cons _ (.cons_cons _ .slnil)))))
     refine GL_nil ⟨fun _ => hpS193, ?_⟩
     refine GO_two rfl rfl ?_ ?_
     ·skip
      refine GC_of_GL ?_
      refine GL_call (wn_none rfl) rfl rfl (dig_rounds _) rfl ?_
      rintro _ w ⟨rfl, hk⟩
      have hp := hp.comp hk
      have hpS194 := (hp.sub (.cons _ (.cons _ (.cons_cons _ (.cons_cons _ .slnil)))))
      refine GL_nil ⟨fun _ => hpS194, ?_⟩
      refine GO_of_GL rfl ?_
      refine GL_alloc (wn_none rfl) rfl rfl tz115 rfl hp ?_
      intro g67 w hp
      have hpS195 := (hp.sub (.cons _ (.cons _ (.cons _ (.cons_cons _ (.cons_cons _ .slnil))))))
      refine GL_nil ⟨fun _ => hpS195, ?_⟩
      refine GO_of_GL rfl ?_
      refine GL_store (i := 2) (wn_none rfl) rfl rfl rfl rfl ts115 rfl (by rw [w32s_length, schedB_length]) (w32s_one _) hp rfl (Nat.le_of_ble_eq_true rfl) (splice_all _ _ (by rw [w32s_length, schedB_length]; rfl)) ?_
      intro w hp
      have hpS196 := (hp.sub (.cons _ (.cons _ (.cons _ (.cons_cons _ (.cons_cons _ .slnil))))))
      refine GL_nil ⟨fun _ => hpS196, ?_⟩
      refine GO_of_GL rfl ?_
      refine GL_store (i := 0) (wn_none rfl) rfl rfl rfl rfl ts115 rfl rfl (w32s_one _) hp rfl (Nat.le_of_ble_eq_true rfl) (splice_all _ _ rfl) ?_
      intro w hp
      have hpS197 := (hp.sub (.cons _ (.cons _ (.cons _ (.cons_cons _ (.cons_cons _ .slnil))))))
      refine GL_nil ⟨fun _ => hpS197, ?_⟩
      refine GO_of_GL rfl ?_
      refine GL_store (i := 1) (wn_none rfl) rfl rfl rfl rfl ts113 rfl (stC_length _) (stC_one _) hp rfl (Nat.le_of_ble_eq_true rfl) (splice_all _ _ (by rw [stC_length]; rfl)) ?_
      intro w hp
      have hpS198 := (hp.sub (.cons _ (.cons _ (.cons _ (.cons_cons _ (.cons_cons _ .slnil))))))
      refine GL_nil ⟨fun _ => hpS198, ?_⟩
      refine GO_nil ?_
      have hp := ((((((hp.front 4 rfl).front 4 rfl).front 4 rfl).front 3 rfl).front 4 rfl).take 5)
      exact ⟨g51, g67, g66, _, slots5 rfl rfl rfl rfl rfl, hp⟩
     ·skip
      refine GC_of_GL ?_
      refine GL_alloc (wn_none rfl) rfl rfl tz115 rfl hp ?_
      intro g68 w hp
      have hpS199 := (hp.sub (.cons _ (.cons _ (.cons _ (.cons_cons _ (.cons_cons _ .slnil))))))
      refine GL_nil ⟨fun _ => hpS199, ?_⟩
      refine GO_of_GL rfl ?_
      refine GL_call (wn_none rfl) rfl rfl (dig_rounds _) rfl ?_
      rintro _ w ⟨rfl, hk⟩
      have hp := hp.comp hk
      have hpS200 := (hp.sub (.cons _ (.cons _ (.cons _ (.cons_cons _ (.cons_cons _ .slnil))))))
      refine GL_nil ⟨fun _ => hpS200, ?_⟩
      refine GO_of_GL rfl ?_
      refine GL_store (i := 2) (wn_none rfl) rfl rfl rfl rfl ts115 rfl (by rw [w32s_length, schedB_length]) (w32s_one _) hp rfl (Nat.le_of_ble_eq_true rfl) (splice_all _ _ (by rw [w32s_length, schedB_length]; rfl)) ?_
      intro w hp
      have hpS201 := (hp.sub (.cons _ (.cons _ (.cons _ (.cons_cons _ (.cons_cons _ .slnil))))))
      refine GL_nil ⟨fun _ => hpS201, ?_⟩
      refine GO_of_GL rfl ?_
      refine GL_store (i := 0) (wn_none rfl) rfl rfl rfl rfl ts115 rfl rfl (w32s_one _) hp rfl (Nat.le_of_ble_eq_true rfl) (splice_all _ _ rfl) ?_
      intro w hp
      have hpS202 := (hp.sub (.cons _ (.cons _ (.cons _ (.cons_cons _ (.cons_cons _ .slnil))))))
      refine GL_nil ⟨fun _ => hpS202, ?_⟩
      refine GO_of_GL rfl ?_
      refine GL_store (i := 1) (wn_none rfl) rfl rfl rfl rfl ts113 rfl (stC_length _) (stC_one _) hp rfl (Nat.le_of_ble_eq_true rfl) (splice_all _ _ (by rw [stC_length]; rfl)) ?_
      intro w hp
      have hpS203 := (hp.sub (.cons _ (.cons _ (.cons _ (.cons_cons _ (.cons_cons _ .slnil))))))
      refine GL_nil ⟨fun _ => hpS203, ?_⟩
      refine GO_nil ?_
      have hp := ((((((hp.front 4 rfl).front 4 rfl).front 4 rfl).front 3 rfl).front 4 rfl).take 5)
      exact ⟨g51, g68, g66, _, slots5 rfl rfl rfl rfl rfl, hp⟩
    ·skip
     refine GC_of_GL ?_
     refine GL_alloc (wn_none rfl) rfl rfl tz115 rfl hp ?_
     intro g69 w hp
     have hpS204 := (hp.sub (.cons _ (.cons _ (.cons _ (.cons_cons _ (.cons_cons _ .slnil))))))
     refine GL_nil ⟨fun _ => hpS204, ?_⟩
     refine GO_of_GL rfl ?_
     refine GL_call (wn_none rfl) rfl rfl (dig_spread _ m l _ (hs.keep hp.mod) hm) rfl ?_
     rintro _ w ⟨rfl, hk⟩
     have hp := hp.comp hk
     have hpS205 := (hp.sub (.cons _ (.cons _ (.cons _ (.cons_cons _ (.cons_cons _ .slnil))))))
     refine GL_nil ⟨fun _ => hpS205, ?_⟩
     refine GO_of_GL rfl ?_
     refine GL_call (wn_none rfl) rfl rfl (dig_rounds _) rfl ?_
     rintro _ w ⟨rfl, hk⟩
     have hp := hp.comp hk
     have hpS206 := (hp.sub (.cons _ (.cons _ (.cons _ (.cons_cons _ (.cons_cons _ .slnil))))))
     refine GL_nil ⟨fun _ => hpS206, ?_⟩
     refine GO_of_GL rfl ?_
     refine GL_store (i := 2) (wn_none rfl) rfl rfl rfl rfl ts115 rfl (by rw [w32s_length, schedB_length]) (w32s_one _) hp rfl (Nat.le_of_ble_eq_true rfl) (splice_all _ _ (by rw [w32s_length, schedB_length]; rfl)) ?_
     intro w hp
     have hpS207 := (hp.sub (.cons _ (.cons _ (.cons _ (.cons_cons _ (.cons_cons _ .slnil))))))
     refine GL_nil ⟨fun _ => hpS207, ?_⟩
     refine GO_of_GL rfl ?_
     refine GL_store (i := 0) (wn_none rfl) rfl rfl rfl rfl ts115 rfl rfl (w32s_one _) hp rfl (Nat.le_of_ble_eq_true rfl) (splice_all _ _ rfl) ?_
     intro w hp
     have hpS208 := (hp.sub (.cons _ (.cons _ (.cons _ (.cons_cons _ (.cons_cons _ .slnil))))))
     refine GL_nil ⟨fun _ => hpS208, ?_⟩
     refine GO_of_GL rfl ?_
     refine GL_store (i := 1) (wn_none rfl) rfl rfl rfl rfl ts113 rfl (stC_length _) (stC_one _) hp rfl (Nat.le_of_ble_eq_true rfl) (splice_all _ _ (by rw [stC_length]; rfl)) ?_
     intro w hp
     have hpS209 := (hp.sub (.cons _ (.cons _ (.cons _ (.cons_cons _ (.cons_cons _ .slnil))))))
     refine GL_nil ⟨fun _ => hpS209, ?_⟩
     refine GO_nil ?_
     have hp := ((((((hp.front 4 rfl).front 4 rfl).front 4 rfl).front 3 rfl).front 4 rfl).take 5)
     exact ⟨g51, g69, g66, _, slots5 rfl rfl rfl rfl rfl, hp⟩
  ·skip
   refine GC_of_GL ?_
   refine GL_alloc (wn_none rfl) rfl rfl tz115 rfl hp ?_
   intro g70 w hp
   have hpS210 := (hp.sub (.cons _ (.cons_cons _ (.cons_cons _ .slnil))))
   refine GL_nil ⟨fun _ => hpS210, ?_⟩
   refine GO_alt rfl ?_ (GX_alt rfl ?_ (GX_one rfl ?_))
   ·skip
    refine GC_of_GL ?_
    refine GL_call (wn_none rfl) rfl rfl (dig_spread _ m l _ (hs.keep hp.mod) hm) rfl ?_
    rintro _ w ⟨rfl, hk⟩
    have hp := hp.comp hk
    have hpS211 := (hp.sub (.cons _ (.cons_cons _ (.cons_cons _ .slnil))))
    refine GL_nil ⟨fun _ => hpS211, ?_⟩
    refine GO_alt rfl ?_ (GX_alt rfl ?_ (GX_one rfl ?_))
    ·skip
     refine GC_of_GL ?_
     refine GL_call (wn_none rfl) rfl rfl (dig_rounds _) rfl ?_
     rintro _ w ⟨rfl, hk⟩
     have hp := hp.comp hk
     have hpS212 := (hp.sub (.cons _ (.cons_cons _ (.cons_cons _ .slnil))))
     refine GL_nil ⟨fun _ => hpS212, ?_⟩
     refine GO_two rfl rfl ?_ ?_
     ·skip
      refine GC_of_GL ?_
      refine GL_alloc (wn_none rfl) rfl rfl tz115 rfl hp ?_
      intro g71 w hp
      have hpS213 := (hp.sub (.cons _ (.cons _ (.cons_cons _ (.cons_cons _ .slnil)))))
      refine GL_nil ⟨fun _ => hpS213, ?_⟩
      refine GO_of_GL rfl ?_
      refine GL_alloc (wn_none rfl) rfl rfl tz113 rfl hp ?_
      intro g72 w hp
      have hpS214 := (hp.sub (.cons _ (.cons _ (.cons _ (.cons_cons _ (.cons_cons _ .slnil))))))
      refine GL_nil ⟨fun _ => hpS214, ?_⟩
      refine GO_of_GL rfl ?_
      refine GL_store (i := 1) (wn_none rfl) rfl rfl rfl rfl ts115 rfl (by rw [w32s_length, schedB_length]) (w32s_one _) hp rfl (Nat.le_of_ble_eq_true rfl) (splice_all _ _ (by rw [w32s_length, schedB_length]; rfl)) ?_
      intro w hp
      have hpS215 := (hp.sub (.cons _ (.cons _ (.cons _ (.cons_cons _ (.cons_cons _ .slnil))))))
      refine GL_nil ⟨fun _ => hpS215, ?_⟩
      refine GO_of_GL rfl ?_
      refine GL_store (i := 2) (wn_none rfl) rfl rfl rfl rfl ts115 rfl rfl (w32s_one _) hp rfl (Nat.le_of_ble_eq_true rfl) (splice_all _ _ rfl) ?_
      intro w hp
      have hpS216 := (hp.sub (.cons _ (.cons _ (.cons _ (.cons_cons _ (.cons_cons _ .slnil))))))
      refine GL_nil ⟨fun _ => hpS216, ?_⟩
      refine GO_of_GL rfl ?_
      refine GL_store (i := 0) (wn_none rfl) rfl rfl rfl rfl ts113 rfl (stC_length _) (stC_one _) hp rfl (Nat.le_of_ble_eq_true rfl) (splice_all _ _ (by rw [stC_length]; rfl)) ?_
      intro w hp
      have hpS217 := (hp.sub (.cons _ (.cons _ (.cons _ (.cons_cons _ (.cons_cons _ .slnil))))))
      refine GL_nil ⟨fun _ => hpS217, ?_⟩
      refine GO_nil ?_
      have hp := ((((((hp.front 4 rfl).front 4 rfl).front 3 rfl).front 4 rfl).front 4 rfl).take 5)
      exact ⟨g71, g70, g72, _, slots5 rfl rfl rfl rfl rfl, hp⟩
     ·skip
      refine GC_of_GL ?_
      refine GL_alloc (wn_none rfl) rfl rfl tz113 rfl hp ?_
      intro g73 w hp
      have hpS218 := (hp.sub (.cons _ (.cons _ (.cons_cons _ (.cons_cons _ .slnil)))))
      refine GL_nil ⟨fun _ => hpS218, ?_⟩
      refine GO_of_GL rfl ?_
      refine GL_alloc (wn_none rfl) rfl rfl tz115 rfl hp ?_
      intro g74 w hp
      have hpS219 := (hp.sub (.cons _ (.cons _ (.cons _ (.cons_cons _ (.cons_cons _ .slnil))))))
      refine GL_nil ⟨fun _ => hpS219, ?_⟩
      refine GO_of_GL rfl ?_
      refine GL_store (i := 0) (wn_none rfl) rfl rfl rfl rfl ts115 rfl (by rw [w32s_length, schedB_length]) (w32s_one _) hp rfl (Nat.le_of_ble_eq_true rfl) (splice_all _ _ (by rw [w32s_length, schedB_length]; rfl)) ?_
      intro w hp
      have hpS220 := (hp.sub (.cons _ (.cons _ (.cons _ (.cons_cons _ (.cons_cons _ .slnil))))))
      refine GL_nil ⟨fun _ => hpS220, ?_⟩
      refine GO_of_GL rfl ?_
      refine GL_store (i := 2) (wn_none rfl) rfl rfl rfl rfl ts115 rfl rfl (w32s_one _) hp rfl (Nat.le_of_ble_eq_true rfl) (splice_all _ _ rfl) ?_
      intro w hp
      have hpS221 := (hp.sub (.cons _ (.cons _ (.cons _ (.cons_cons _ (.cons_cons _ .slnil))))))
      refine GL_nil ⟨fun _ => hpS221, ?_⟩
      refine GO_of_GL rfl ?_
      refine GL_store (i := 1) (wn_none rfl) rfl rfl rfl rfl ts113 rfl (stC_length _) (stC_one _) hp rfl (Nat.le_of_ble_eq_true rfl) (splice_all _ _ (by rw [stC_length]; rfl)) ?_
      intro w hp
      have hpS222 := (hp.sub (.cons _ (.cons _ (.cons _ (.cons_cons _ (.cons_cons _ .slnil))))))
      refine GL_nil ⟨fun _ => hpS222, ?_⟩
      refine GO_nil ?_
      have hp := ((((((hp.front 4 rfl).front 4 rfl).front 2 rfl).front 4 rfl).front 4 rfl).take 5)
      exact ⟨g74, g70, g73, _, slots5 rfl rfl rfl rfl rfl, hp⟩
    ·skip
     refine GC_of_GL ?_
     refine GL_alloc (wn_none rfl) rfl rfl tz115 rfl hp ?_
     intro g75 w hp
     have hpS223 := (hp.sub (.cons _ (.cons _ (.cons_cons _ (.cons_cons _ .slnil)))))
     refine GL_nil ⟨fun _ => hpS223, ?_⟩
     refine GO_two rfl rfl ?_ ?_
     ·skip
      refine GC_of_GL ?_
      refine GL_call (wn_none rfl) rfl rfl (dig_rounds _) rfl ?_
      rintro _ w ⟨rfl, hk⟩
      have hp := hp.comp hk
      have hpS224 := (hp.sub (.cons _ (.cons _ (.cons_cons _ (.cons_cons _ .slnil)))))
      refine GL_nil ⟨fun _ => hpS224, ?_⟩
      refine GO_of_GL rfl ?_
      refine GL_alloc (wn_none rfl) rfl rfl tz113 rfl hp ?_
      intro g76 w hp
      have hpS225 := (hp.sub (.cons _ (.cons _ (.cons _ (.cons_cons _ (.cons_cons _ .slnil))))))
      refine GL_nil ⟨fun _ => hpS225, ?_⟩
      refine GO_of_GL rfl ?_
      refine GL_store (i := 1) (wn_none rfl) rfl rfl rfl rfl ts115 rfl (by rw [w32s_length, schedB_length]) (w32s_one _) hp rfl (Nat.le_of_ble_eq_true rfl) (splice_all _ _ (by rw [w32s_length, schedB_length]; rfl)) ?_
      intro w hp
      have hpS226 := (hp.sub (.cons _ (.cons _ (.cons _ (.cons_cons _ (.cons_cons _ .slnil))))))
      refine GL_nil ⟨fun _ => hpS226, ?_⟩
      refine GO_of_GL rfl ?_
      refine GL_store (i := 2) (wn_none rfl) rfl rfl rfl rfl ts115 rfl rfl (w32s_one _) hp rfl (Nat.le_of_ble_eq_true rfl) (splice_all _ _ rfl) ?_
      intro w hp
      have hpS227 := (hp.sub (.cons _ (.cons _ (.cons _ (.cons_cons _ (.cons_cons _ .slnil))))))
      refine GL_nil ⟨fun _ => hpS227, ?_⟩
      refine GO_of_GL rfl ?_
      refine GL_store (i := 0) (wn_none rfl) rfl rfl rfl rfl ts113 rfl (stC_length _) (stC_one _) hp rfl (Nat.le_of_ble_eq_true rfl) (splice_all _ _ (by rw [stC_length]; rfl)) ?_
      intro w hp
      have hpS228 := (hp.sub (.cons _ (.cons _ (.cons _ (.cons_cons _ (.cons_cons _ .slnil))))))
      refine GL_nil ⟨fun _ => hpS228, ?_⟩
      refine GO_nil ?_
      have hp := ((((((hp.front 4 rfl).front 4 rfl).front 3 rfl).front 4 rfl).front 4 rfl).take 5)
      exact ⟨g75, g70, g76, _, slots5 rfl rfl rfl rfl rfl, hp⟩
     ·skip
      refine GC_of_GL ?_
      refine GL_alloc (wn_none rfl) rfl rfl tz113 rfl hp ?_
      intro g77 w hp
      have hpS229 := (hp.sub (.cons _ (.cons _ (.cons _ (.cons_cons _ (.cons_cons _ .slnil))))))
      refine GL_nil ⟨fun _ => hpS229, ?_⟩
      refine GO_of_GL rfl ?_
      refine GL_call (wn_none rfl) rfl rfl (dig_rounds _) rfl ?_
      rintro _ w ⟨rfl, hk⟩
      have hp := hp.comp hk
      have hpS230 := (hp.sub (.cons _ (.cons _ (.cons _ (.cons_cons _ (.cons_cons _ .slnil))))))
      refine GL_nil ⟨fun _ => hpS230, ?_⟩
      refine GO_of_GL rfl ?_
      refine GL_store (i := 1) (wn_none rfl) rfl rfl rfl rfl ts115 rfl (by rw [w32s_length, schedB_length]) (w32s_one _) hp rfl (Nat.le_of_ble_eq_true rfl) (splice_all _ _ (by rw [w32s_length, schedB_length]; rfl)) ?_
      intro w hp
      have hpS231 := (hp.sub (.cons _ (.cons _ (.cons _ (.cons_cons _ (.cons_cons _ .slnil))))))
      refine GL_nil ⟨fun _ => hpS231, ?_⟩
      refine GO_of_GL rfl ?_
      refine GL_store (i := 2) (wn_none rfl) rfl rfl rfl rfl ts115 rfl rfl (w32s_one _) hp rfl (Nat.le_of_ble_eq_true rfl) (splice_all _ _ rfl) ?_
      intro w hp
      have hpS232 := (hp.sub (.cons _ (.cons _ (.cons _ (.cons_cons _ (.cons_cons _ .slnil))))))
      refine GL_nil ⟨fun _ => hpS232, ?_⟩
      refine GO_of_GL rfl ?_
      refine GL_store (i := 0) (wn_none rfl) rfl rfl rfl rfl ts113 rfl (stC_length _) (stC_one _) hp rfl (Nat.le_of_ble_eq_true rfl) (splice_all _ _ (by rw [stC_length]; rfl)) ?_
      intro w hp
      have hpS233 := (hp.sub (.cons _ (.cons _ (.cons _ (.cons_cons _ (.cons_cons _ .slnil))))))
      refine GL_nil ⟨fun _ => hpS233, ?_⟩
      refine GO_nil ?_
      have hp := ((((((hp.front 4 rfl).front 4 rfl).front 3 rfl).front 4 rfl).front 4 rfl).take 5)
      exact ⟨g75, g70, g77, _, slots5 rfl rfl rfl rfl rfl, hp⟩
    ·skip
     refine GC_of_GL ?_
     refine GL_alloc (wn_none rfl) rfl rfl tz113 rfl hp ?_
     intro g78 w hp
     have hpS234 := (hp.sub (.cons _ (.cons _ (.cons_cons _ (.cons_cons _ .slnil)))))
     refine GL_nil ⟨fun _ => hpS234, ?_⟩
     refine GO_two rfl rfl ?_ ?_
     ·skip
      refine GC_of_GL ?_
      refine GL_call (wn_none rfl) rfl rfl (dig_rounds _) rfl ?_
      rintro _ w ⟨rfl, hk⟩
      have hp := hp.comp hk
      have hpS235 := (hp.sub (.cons _ (.cons _ (.cons_cons _ (.cons_cons _ .slnil)))))
      refine GL_nil ⟨fun _ => hpS235, ?_⟩
      refine GO_of_GL rfl ?_
      refine GL_alloc (wn_none rfl) rfl rfl tz115 rfl hp ?_
      intro g79 w hp
      have hpS236 := (hp.sub (.cons _ (.cons _ (.cons _ (.cons_cons _ (.cons_cons _ .slnil))))))
      refine GL_nil ⟨fun _ => hpS236, ?_⟩
      refine GO_of_GL rfl ?_
      refine GL_store (i := 0) (wn_none rfl) rfl rfl rfl rfl ts115 rfl (by rw [w32s_length, schedB_length]) (w32s_one _) hp rfl (Nat.le_of_ble_eq_true rfl) (splice_all _ _ (by rw [w32s_length, schedB_length]; rfl)) ?_
      intro w hp
      have hpS237 := (hp.sub (.cons _ (.cons _ (.cons _ (.cons_cons _ (.cons_cons _ .slnil))))))
      refine GL_nil ⟨fun _ => hpS237, ?_⟩
      refine GO_of_GL rfl ?_
      refine GL_store (i := 2) (wn_none rfl) rfl rfl rfl rfl ts115 rfl rfl (w32s_one _) hp rfl (Nat.le_of_ble_eq_true rfl) (splice_all _ _ rfl) ?_
      intro w hp
      have hpS238 := (hp.sub (.cons _ (.cons _ (.cons _ (.cons_cons _ (.cons_cons _ .slnil))))))
      refine GL_nil ⟨fun _ => hpS238, ?_⟩
      refine GO_of_GL rfl ?_
      refine GL_store (i := 1) (wn_none rfl) rfl rfl rfl rfl ts113 rfl (stC_length _) (stC_one _) hp rfl (Nat.le_of_ble_eq_true rfl) (splice_all _ _ (by rw [stC_length]; rfl)) ?_
      intro w hp
      have hpS239 := (hp.sub (.cons _ (.cons _ (.cons _ (.cons_cons _ (.cons_cons _ .slnil))))))
      refine GL_nil ⟨fun _ => hpS239, ?_⟩
      refine GO_nil ?_
      have hp := ((((((hp.front 4 rfl).front 4 rfl).front 2 rfl).front 4 rfl).front 4 rfl).take 5)
      exact ⟨g79, g70, g78, _, slots5 rfl rfl rfl rfl rfl, hp⟩
     ·skip
      refine GC_of_GL ?_
      refine GL_alloc (wn_none rfl) rfl rfl tz115 rfl hp ?_
      intro g80 w hp
      have hpS240 := (hp.sub (.cons _ (.cons _ (.cons _ (.cons_cons _ (.cons_cons _ .slnil))))))
      refine GL_nil ⟨fun _ => hpS240, ?_⟩
      refine GO_of_GL rfl ?_
      refine GL_call (wn_none rfl) rfl rfl (dig_rounds _) rfl ?_
      rintro _ w ⟨rfl, hk⟩
      have hp := hp.comp hk
      have hpS241 := (hp.sub (.cons _ (.cons _ (.cons _ (.cons_cons _ (.cons_cons _ .slnil))))))
      refine GL_nil ⟨fun _ => hpS241, ?_⟩
      refine GO_of_GL rfl ?_
      refine GL_store (i := 0) (wn_none rfl) rfl rfl rfl rfl ts115 rfl (by rw [w32s_length, schedB_length]) (w32s_one _) hp rfl (Nat.le_of_ble_eq_true rfl) (splice_all _ _ (by rw [w32s_length, schedB_length]; rfl)) ?_
      intro w hp
      have hpS242 := (hp.sub (.cons _ (.cons _ (.cons _ (.cons_cons _ (.cons_cons _ .slnil))))))
      refine GL_nil ⟨fun _ => hpS242, ?_⟩
      refine GO_of_GL rfl ?_
      refine GL_store (i := 2) (wn_none rfl) rfl rfl rfl rfl ts115 rfl rfl (w32s_one _) hp rfl (Nat.le_of_ble_eq_true rfl) (splice_all _ _ rfl) ?_
      intro w hp
      have hpS243 := (hp.sub (.cons _ (.cons _ (.cons _ (.cons_cons _ (.cons_cons _ .slnil))))))
      refine GL_nil ⟨fun _ => hpS243, ?_⟩
      refine GO_of_GL rfl ?_
      refine GL_store (i := 1) (wn_none rfl) rfl rfl rfl rfl ts113 rfl (stC_length _) (stC_one _) hp rfl (Nat.le_of_ble_eq_true rfl) (splice_all _ _ (by rw [stC_length]; rfl)) ?_
      intro w hp
      have hpS244 := (hp.sub (.cons _ (.cons _ (.cons _ (.cons_cons _ (.cons_cons _ .slnil))))))
      refine GL_nil ⟨fun _ => hpS244, ?_⟩
      refine GO_nil ?_
      have hp := ((((((hp.front 4 rfl).front 4 rfl).front 2 rfl).front 4 rfl).front 4 rfl).take 5)
      exact ⟨g80, g70, g78, _, slots5 rfl rfl rfl rfl rfl, hp⟩
   ·skip
    refine GC_of_GL ?_
    refine GL_alloc (wn_none rfl) rfl rfl tz115 rfl hp ?_
    intro g81 w hp
    have hpS245 := (hp.sub (.cons _ (.cons _ (.cons_cons _ (.cons_cons _ .slnil)))))
    refine GL_nil ⟨fun _ => hpS245, ?_⟩
    refine GO_two rfl rfl ?_ ?_
    ·skip
     refine GC_of_GL ?_
     refine GL_call (wn_none rfl) rfl rfl (dig_spread _ m l _ (hs.keep hp.mod) hm) rfl ?_
     rintro _ w ⟨rfl, hk⟩
     have hp := hp.comp hk
     have hpS246 := (hp.sub (.cons _ (.cons _ (.cons_cons _ (.cons_cons _ .slnil)))))
     refine GL_nil ⟨fun _ => hpS246, ?_⟩
     refine GO_two rfl rfl ?_ ?_
     ·skip
      refine GC_of_GL ?_
      refine GL_call (wn_none rfl) rfl rfl (dig_rounds _) rfl ?_
      rintro _ w ⟨rfl, hk⟩
      have hp := hp.comp hk
      have hpS247 := (hp.sub (.cons _ (.cons _ (.cons_cons _ (.cons_cons _ .slnil)))))
      refine GL_nil ⟨fun _ => hpS247, ?_⟩
      refine GO_of_GL rfl ?_
      refine GL_alloc (wn_none rfl) rfl rfl tz113 rfl hp ?_
      intro g82 w hp
      have hpS248 := (hp.sub (.cons _ (.cons _ (.cons _ (.cons_cons _ (.cons_cons _ .slnil))))))
      refine GL_nil ⟨fun _ => hpS248, ?_⟩
      refine GO_of_GL rfl ?_
      refine GL_store (i := 1) (wn_none rfl) rfl rfl rfl rfl ts115 rfl (by rw [w32s_length, schedB_length]) (w32s_one _) hp rfl (Nat.le_of_ble_eq_true rfl) (splice_all _ _ (by rw [w32s_length, schedB_length]; rfl)) ?_
      intro w hp
      have hpS249 := (hp.sub (.cons _ (.cons _ (.cons _ (.cons_cons _ (.cons_cons _ .slnil))))))
      refine GL_nil ⟨fun _ => hpS249, ?_⟩
      refine GO_of_GL rfl ?_
      refine GL_store (i := 2) (wn_none rfl) rfl rfl rfl rfl ts115 rfl rfl (w32s_one _) hp rfl (Nat.le_of_ble_eq_true rfl) (splice_all _ _ rfl) ?_
      intro w hp
      have hpS250 := (hp.sub (.cons _ (.cons _ (.cons _ (.cons_cons _ (.cons_cons _ .slnil))))))
      refine GL_nil ⟨fun _ => hpS250, ?_⟩
      refine GO_of_GL rfl ?_
      refine GL_store (i := 0) (wn_none rfl) rfl rfl rfl rfl ts113 rfl (stC_length _) (stC_one _) hp rfl (Nat.le_of_ble_eq_true rfl) (splice_all _ _ (by rw [stC_length]; rfl)) ?_
      intro w hp
      have hpS251 := (hp.sub (.cons _ (.cons _ (.cons _ (.cons_cons _ (.cons_cons _ .slnil))))))
      refine GL_nil ⟨fun _ => hpS251, ?_⟩
      refine GO_nil ?_
      have hp := ((((((hp.front 4 rfl).front 4 rfl).front 3 rfl).front 4 rfl).front 4 rfl).take 5)
      exact ⟨g81, g70, g82, _, slots5 rfl rfl rfl rfl rfl, hp⟩
     ·skip
      refine GC_of_GL ?_
      refine GL_alloc (wn_none rfl) rfl rfl tz113 rfl hp ?_
      intro g83 w hp
      have hpS252 := (hp.sub (.cons _ (.cons _ (.cons _ (.cons_cons _ (.cons_cons _ .slnil))))))
      refine GL_nil ⟨fun _ => hpS252, ?_⟩
      refine GO_of_GL rfl ?_
      refine GL_call (wn_none rfl) rfl rfl (dig_rounds _) rfl ?_
      rintro _ w ⟨rfl, hk⟩
      have hp := hp.comp hk
      have hpS253 := (hp.sub (.cons _ (.cons _ (.cons _ (.cons_cons _ (.cons_cons _ .slnil))))))
      refine GL_nil ⟨fun _ => hpS253, ?_⟩
      refine GO_of_GL rfl ?_
      refine GL_store (i := 1) (wn_none rfl) rfl rfl rfl rfl ts115 rfl (by rw [w32s_length, schedB_length]) (w32s_one _) hp rfl (Nat.le_of_ble_eq_true rfl) (splice_all _ _ (by rw [w32s_length, schedB_length]; rfl)) ?_
      intro w hp
      have hpS254 := (hp.sub (.cons _ (.cons _ (.cons _ (.cons_cons _ (.cons_cons _ .slnil))))))
      refine GL_nil ⟨fun _ => hpS254, ?_⟩
      refine GO_of_GL rfl ?_
      refine GL_store (i := 2) (wn_none rfl) rfl rfl rfl rfl ts115 rfl rfl (w32s_one _) hp rfl (Nat.le_of_ble_eq_true rfl) (splice_all _ _ rfl) ?_
      intro w hp
      have hpS255 := (hp.sub (.cons _ (.cons _ (.cons _ (.cons_cons _ (.cons_cons _ .slnil))))))
      refine GL_nil ⟨fun _ => hpS255, ?_⟩
      refine GO_of_GL rfl ?_
      refine GL_store (i := 0) (wn_none rfl) rfl rfl rfl rfl ts113 rfl (stC_length _) (stC_one _) hp rfl (Nat.le_of_ble_eq_true rfl) (splice_all _ _ (by rw [stC_length]; rfl)) ?_
      intro w hp
      have hpS256 := (hp.sub (.cons _ (.cons _ (.cons _ (.cons_cons _ (.cons_cons _ .slnil))))))
      refine GL_nil ⟨fun _ => hpS256, ?_⟩
      refine GO_nil ?_
      have hp := ((((((hp.front 4 rfl).front 4 rfl).front 3 rfl).front 4 rfl).front 4 rfl).take 5)
      exact ⟨g81, g70, g83, _, slots5 rfl rfl rfl rfl rfl, hp⟩
    ·skip
     refine GC_of_GL ?_
     refine GL_alloc (wn_none rfl) rfl rfl tz113 rfl hp ?_
     intro g84 w hp
     have hpS257 := (hp.sub (.cons _ (.cons _ (.cons _ (.cons_cons _ (.cons_cons _ .slnil))))))
     refine GL_nil ⟨fun _ => hpS257, ?_⟩
     refine GO_of_GL rfl ?_
     refine GL_call (wn_none rfl) rfl rfl (dig_spread _ m l _ (hs.keep hp.mod) hm) rfl ?_
     rintro _ w ⟨rfl, hk⟩
     have hp := hp.comp hk
     have hpS258 := (hp.sub (.cons _ (.cons _ (.cons _ (.cons_cons _ (.cons_cons _ .slnil))))))
     refine GL_nil ⟨fun _ => hpS258, ?_⟩
     refine GO_of_GL rfl ?_
     refine GL_call (wn_none rfl) rfl rfl (dig_rounds _) rfl ?_
     rintro _ w ⟨rfl, hk⟩
     have hp := hp.comp hk
     have hpS259 := (hp.sub (.cons _ (.cons _ (.cons _ (.cons_cons _ (.cons_cons _ .slnil))))))
     refine GL_nil ⟨fun _ => hpS259, ?_⟩
     refine GO_of_GL rfl ?_
     refine GL_store (i := 1) (wn_none rfl) rfl rfl rfl rfl ts115 rfl (by rw [w32s_length, schedB_length]) (w32s_one _) hp rfl (Nat.le_of_ble_eq_true rfl) (splice_all _ _ (by rw [w32s_length, schedB_length]; rfl)) ?_
     intro w hp
     have hpS260 := (hp.sub (.cons _ (.cons _ (.cons _ (.cons_cons _ (.cons_cons _ .slnil))))))
     refine GL_nil ⟨fun _ => hpS260, ?_⟩
     refine GO_of_GL rfl ?_
     refine GL_store (i := 2) (wn_none rfl) rfl rfl rfl rfl ts115 rfl rfl (w32s_one _) hp rfl (Nat.le_of_ble_eq_true rfl) (splice_all _ _ rfl) ?_
     intro w hp
     have hpS261 := (hp.sub (.cons _ (.cons _ (.cons _ (.cons_cons _ (.cons_cons _ .slnil))))))
     refine GL_nil ⟨fun _ => hpS261, ?_⟩
     refine GO_of_GL rfl ?_
     refine GL_store (i := 0) (wn_none rfl) rfl rfl rfl rfl ts113 rfl (stC_length _) (stC_one _) hp rfl (Nat.le_of_ble_eq_true rfl) (splice_all _ _ (by rw [stC_length]; rfl)) ?_
     intro w hp
     have hpS262 := (hp.sub (.cons _ (.cons _ (.cons _ (.cons_cons _ (.cons_cons _ .slnil))))))
     refine GL_nil ⟨fun _ => hpS262, ?_⟩
     refine GO_nil ?_
     have hp := ((((((hp.front 4 rfl).front 4 rfl).front 3 rfl).front 4 rfl).front 4 rfl).take 5)
     exact ⟨g81, g70, g84, _, slots5 rfl rfl rfl rfl rfl, hp⟩
   ·skip
    refine GC_of_GL ?_
    refine GL_alloc (wn_none rfl) rfl rfl tz113 rfl hp ?_
    intro g85 w hp
    have hpS263 := (hp.sub (.cons _ (.cons _ (.cons_cons _ (.cons_cons _ .slnil)))))
    refine GL_nil ⟨fun _ => hpS263, ?_⟩
    refine GO_two rfl rfl ?_ ?_
    ·skip
     refine GC_of_GL ?_
     refine GL_call (wn_none rfl) rfl rfl (dig_spread _ m l _ (hs.keep hp.mod) hm) rfl ?_
     rintro _ w ⟨rfl, hk⟩
     have hp := hp.comp hk
     have hpS264 := (hp.sub (.cons _ (.cons _ (.cons_cons _ (.cons_cons _ .slnil)))))
     refine GL_nil ⟨fun _ => hpS264, ?_⟩
     refine GO_two rfl rfl ?_ ?_
     ·skip
      refine GC_of_GL ?_
      refine GL_call (wn_none rfl) rfl rfl (dig_rounds _) rfl ?_
      rintro _ w ⟨rfl, hk⟩
      have hp := hp.comp hk
      have hpS265 := (hp.sub (.cons _ (.cons _ (.cons_cons _ (.cons_cons _ .slnil)))))
      refine GL_nil ⟨fun _ => hpS265, ?_⟩
      refine GO_of_GL rfl ?_
      refine GL_alloc (wn_none rfl) rfl rfl tz115 rfl hp ?_
      intro g86 w hp
      have hpS266 := (hp.sub (.cons _ (.cons _ (.cons _ (.cons_cons _ (.cons_cons _ .slnil))))))
      refine GL_nil ⟨fun _ => hpS266, ?_⟩
      refine GO_of_GL rfl ?_
      refine GL_store (i := 0) (wn_none rfl) rfl rfl rfl rfl ts115 rfl (by rw [w32s_length, schedB_length]) (w32s_one _) hp rfl (Nat.le_of_ble_eq_true rfl) (splice_all _ _ (by rw [w32s_length, schedB_length]; rfl)) ?_
      intro w hp
      have hpS267 := (hp.sub (.cons _ (.cons _ (.cons _ (.cons_cons _ (.cons_cons _ .slnil))))))
      refine GL_nil ⟨fun _ => hpS267, ?_⟩
      refine GO_of_GL rfl ?_
      refine GL_store (i := 2) (wn_none rfl) rfl rfl rfl rfl ts115 rfl rfl (w32s_one _) hp rfl (Nat.le_of_ble_eq_true rfl) (splice_all _ _ rfl) ?_
      intro w hp
      have hpS268 := (hp.sub (.cons _ (.cons _ (.cons _ (.cons_cons _ (.cons_cons _ .slnil))))))
      refine GL_nil ⟨fun _ => hpS268, ?_⟩
      refine GO_of_GL rfl ?_
      refine GL_store (i := 1) (wn_none rfl) rfl rfl rfl rfl ts113 rfl (stC_length _) (stC_one _) hp rfl (Nat.le_of_ble_eq_true rfl) (splice_all _ _ (by rw [stC_length]; rfl)) ?_
      intro w hp
      have hpS269 := (hp.sub (.cons _ (.cons _ (.cons _ (.cons_cons _ (.cons_cons _ .slnil))))))
      refine GL_nil ⟨fun _ => hpS269, ?_⟩
      refine GO_nil ?_
      have hp := ((((((hp.front 4 rfl).front 4 rfl).front 2 rfl).front 4 rfl).front 4 rfl).take 5)
      exact ⟨g86, g70, g85, _, slots5 rfl rfl rfl rfl rfl, hp⟩
     ·skip
      refine GC_of_GL ?_
      refine GL_alloc (wn_none rfl) rfl rfl tz115 rfl hp ?_
      intro g87 w hp
      have hpS270 := (hp.sub (.cons _ (.cons _ (.cons _ (.cons_cons _ (.cons_cons _ .slnil))))))
      refine GL_nil ⟨fun _ => hpS270, ?_⟩
      refine GO_of_GL rfl ?_
      refine GL_call (wn_none rfl) rfl rfl (dig_rounds _) rfl ?_
      rintro _ w ⟨rfl, hk⟩
      have hp := hp.comp hk
      have hpS271 := (hp.sub (.cons _ (.cons _ (.cons _ (.cons_cons _ (.cons_cons _ .slnil))))))
      refine GL_nil ⟨fun _ => hpS271, ?_⟩
      refine GO_of_GL rfl ?_
      refine GL_store (i := 0) (wn_none rfl) rfl rfl rfl rfl ts115 rfl (by rw [w32s_length, schedB_length]) (w32s_one _) hp rfl (Nat.le_of_ble_eq_true rfl) (splice_all _ _ (by rw [w32s_length, schedB_length]; rfl)) ?_
      intro w hp
      have hpS272 := (hp.sub (.cons _ (.cons _ (.cons _ (.cons_cons _ (.cons_cons _ .slnil))))))
      refine GL_nil ⟨fun _ => hpS272, ?_⟩
      refine GO_of_GL rfl ?_
      refine GL_store (i := 2) (wn_none rfl) rfl rfl rfl rfl ts115 rfl rfl (w32s_one _) hp rfl (Nat.le_of_ble_eq_true rfl) (splice_all _ _ rfl) ?_
      intro w hp
      have hpS273 := (hp.sub (.cons _ (.cons _ (.cons _ (.cons_cons _ (.cons_cons _ .slnil))))))
      refine GL_nil ⟨fun _ => hpS273, ?_⟩
      refine GO_of_GL rfl ?_
      refine GL_store (i := 1) (wn_none rfl) rfl rfl rfl rfl ts113 rfl (stC_length _) (stC_one _) hp rfl (Nat.le_of_ble_eq_true rfl) (splice_all _ _ (by rw [stC_length]; rfl)) ?_
      intro w hp
      have hpS274 := (hp.sub (.cons _ (.cons _ (.cons _ (.cons_cons _ (.cons_cons _ .slnil))))))
      refine GL_nil ⟨fun _ => hpS274, ?_⟩
      refine GO_nil ?_
      have hp := ((((((hp.front 4 rfl).front 4 rfl).front 2 rfl).front 4 rfl).front 4 rfl).take 5)
      exact ⟨g87, g70, g85, _, slots5 rfl rfl rfl rfl rfl, hp⟩
    ·skip
     refine GC_of_GL ?_
     refine GL_alloc (wn_none rfl) rfl rfl tz115 rfl hp ?_
     intro g88 w hp
     have hpS275 := (hp.sub (.cons _ (.cons _ (.cons _ (.cons_cons _ (.cons_cons _ .slnil))))))
     refine GL_nil ⟨fun _ => hpS275, ?_⟩
     refine GO_of_GL rfl ?_
     refine GL_call (wn_none rfl) rfl rfl (dig_spread _ m l _ (hs.keep hp.mod) hm) rfl ?_
     rintro _ w ⟨rfl, hk⟩
     have hp := hp.comp hk
     have hpS276 := (hp.sub (.cons _ (.cons _ (.cons _ (.cons_cons _ (.cons_cons _ .slnil))))))
     refine GL_nil ⟨fun _ => hpS276, ?_⟩
     refine GO_of_GL rfl ?_
     refine GL_call (wn_none rfl) rfl rfl (dig_rounds _) rfl ?_
     rintro _ w ⟨rfl, hk⟩
     have hp := hp.comp hk
     have hpS277 := (hp.sub (.cons _ (.cons _ (.cons _ (.cons_cons _ (.cons_cons _ .slnil))))))
     refine GL_nil ⟨fun _ => hpS277, ?_⟩
     refine GO_of_GL rfl ?_
     refine GL_store (i := 0) (wn_none rfl) rfl rfl rfl rfl ts115 rfl (by rw [w32s_length, schedB_length]) (w32s_one _) hp rfl (Nat.le_of_ble_eq_true rfl) (splice_all _ _ (by rw [w32s_length, schedB_length]; rfl)) ?_
     intro w hp
     have hpS278 := (hp.sub (.cons _ (.cons _ (.cons _ (.cons_cons _ (.cons_cons _ .slnil))))))
     refine GL_nil ⟨fun _ => hpS278, ?_⟩
     refine GO_of_GL rfl ?_
     refine GL_store (i := 2) (wn_none rfl) rfl rfl rfl rfl ts115 rfl rfl (w32s_one _) hp rfl (Nat.le_of_ble_eq_true rfl) (splice_all _ _ rfl) ?_
     intro w hp
     have hpS279 := (hp.sub (.cons _ (.cons _ (.cons _ (.cons_cons _ (.cons_cons _ .slnil))))))
     refine GL_nil ⟨fun _ => hpS279, ?_⟩
     refine GO_of_GL rfl ?_
     refine GL_store (i := 1) (wn_none rfl) rfl rfl rfl rfl ts113 rfl (stC_length _) (stC_one _) hp rfl (Nat.le_of_ble_eq_true rfl) (splice_all _ _ (by rw [stC_length]; rfl)) ?_
     intro w hp
     have hpS280 := (hp.sub (.cons _ (.cons _ (.cons _ (.cons_cons _ (.cons_cons _ .slnil))))))
     refine GL_nil ⟨fun _ => hpS280, ?_⟩
     refine GO_nil ?_
     have hp := ((((((hp.front 4 rfl).front 4 rfl).front 2 rfl).front 4 rfl).front 4 rfl).take 5)
     exact ⟨g88, g70, g85, _, slots5 rfl rfl rfl rfl rfl, hp⟩
  ·skip
   refine GC_of_GL ?_
   refine GL_alloc (wn_none rfl) rfl rfl tz113 rfl hp ?_
   intro g89 w hp
   have hpS281 := (hp.sub (.cons _ (.cons_cons _ (.cons_cons _ .slnil))))
   refine GL_nil ⟨fun _ => hpS281, ?_⟩
   refine GO_alt rfl ?_ (GX_alt rfl ?_ (GX_one rfl ?_))
   ·skip
    refine GC_of_GL ?_
    refine GL_call (wn_none rfl) rfl rfl (dig_spread _ m l _ (hs.keep hp.mod) hm) rfl ?_
    rintro _ w ⟨rfl, hk⟩
    have hp := hp.comp hk
    have hpS282 := (hp.sub (.cons _ (.cons_cons _ (.cons_cons _ .slnil))))
    refine GL_nil ⟨fun _ => hpS282, ?_⟩
    refine GO_alt rfl ?_ (GX_alt rfl ?_ (GX_one rfl ?_))
    ·skip
     refine GC_of_GL ?_
     refine GL_call (wn_none rfl) rfl rfl (dig_rounds _) rfl ?_
     rintro _ w ⟨rfl, hk⟩
     have hp := hp.comp hk
     have hpS283 := (hp.sub (.cons _ (.cons_cons _ (.cons_cons _ .slnil))))
     refine GL_nil ⟨fun _ => hpS283, ?_⟩
     refine GO_two rfl rfl ?_ ?_
     ·skip
      refine GC_of_GL ?_
      refine GL_alloc (wn_none rfl) rfl rfl tz115 rfl hp ?_
      intro g90 w hp
      have hpS284 := (hp.sub (.cons _ (.cons _ (.cons_cons _ (.cons_cons _ .slnil)))))
      refine GL_nil ⟨fun _ => hpS284, ?_⟩
      refine GO_of_GL rfl ?_
      refine GL_alloc (wn_none rfl) rfl rfl tz115 rfl hp ?_
      intro g91 w hp
      have hpS285 := (hp.sub (.cons _ (.cons _ (.cons _ (.cons_cons _ (.cons_cons _ .slnil))))))
      refine GL_nil ⟨fun _ => hpS285, ?_⟩
      refine GO_of_GL rfl ?_
      refine GL_store (i := 1) (wn_none rfl) rfl rfl rfl rfl ts115 rfl (by rw [w32s_length, schedB_length]) (w32s_one _) hp rfl (Nat.le_of_ble_eq_true rfl) (splice_all _ _ (by rw [w32s_length, schedB_length]; rfl)) ?_
      intro w hp
      have hpS286 := (hp.sub (.cons _ (.cons _ (.cons _ (.cons_cons _ (.cons_cons _ .slnil))))))
      refine GL_nil ⟨fun _ => hpS286, ?_⟩
      refine GO_of_GL rfl ?_
      refine GL_store (i := 0) (wn_none rfl) rfl rfl rfl rfl ts115 rfl rfl (w32s_one _) hp rfl (Nat.le_of_ble_eq_true rfl) (splice_all _ _ rfl) ?_
      intro w hp
      have hpS287 := (hp.sub (.cons _ (.cons _ (.cons _ (.cons_cons _ (.cons_cons _ .slnil))))))
      refine GL_nil ⟨fun _ => hpS287, ?_⟩
      refine GO_of_GL rfl ?_
      refine GL_store (i := 2) (wn_none rfl) rfl rfl rfl rfl ts113 rfl (stC_length _) (stC_one _) hp rfl (Nat.le_of_ble_eq_true rfl) (splice_all _ _ (by rw [stC_length]; rfl)) ?_
      intro w hp
      have hpS288 := (hp.sub (.cons _ (.cons _ (.cons _ (.cons_cons _ (.cons_cons _ .slnil))))))
      refine GL_nil ⟨fun _ => hpS288, ?_⟩
      refine GO_nil ?_
      have hp := ((((((hp.front 4 rfl).front 4 rfl).front 3 rfl).front 3 rfl).front 4 rfl).take 5)
      exact ⟨g90, g91, g89, _, slots5 rfl rfl rfl rfl rfl, hp⟩
     ·skip
      refine GC_of_GL ?_
      refine GL_alloc (wn_none rfl) rfl rfl tz115 rfl hp ?_
      intro g92 w hp
      have hpS289 := (hp.sub (.cons _ (.cons _ (.cons_cons _ (.cons_cons _ .slnil)))))
      refine GL_nil ⟨fun _ => hpS289, ?_⟩
      refine GO_of_GL rfl ?_
      refine GL_alloc (wn_none rfl) rfl rfl tz115 rfl hp ?_
      intro g93 w hp
      have hpS290 := (hp.sub (.cons _ (.cons _ (.cons _ (.cons_cons _ (.cons_cons _ .slnil))))))
      refine GL_nil ⟨fun _ => hpS290, ?_⟩
      refine GO_of_GL rfl ?_
      refine GL_store (i := 0) (wn_none rfl) rfl rfl rfl rfl ts115 rfl (by rw [w32s_length, schedB_length]) (w32s_one _) hp rfl (Nat.le_of_ble_eq_true rfl) (splice_all _ _ (by rw [w32s_length, schedB_length]; rfl)) ?_
      intro w hp
      have hpS291 := (hp.sub (.cons _ (.cons _ (.cons _ (.cons_cons _ (.cons_cons _ .slnil))))))
      refine GL_nil ⟨fun _ => hpS291, ?_⟩
      refine GO_of_GL rfl ?_
      refine GL_store (i := 1) (wn_none rfl) rfl rfl rfl rfl ts115 rfl rfl (w32s_one _) hp rfl (Nat.le_of_ble_eq_true rfl) (splice_all _ _ rfl) ?_
      intro w hp
      have hpS292 := (hp.sub (.cons _ (.cons _ (.cons _ (.cons_cons _ (.cons_cons _ .slnil))))))
      refine GL_nil ⟨fun _ => hpS292, ?_⟩
      refine GO_of_GL rfl ?_
      refine GL_store (i := 2) (wn_none rfl) rfl rfl rfl rfl ts113 rfl (stC_length _) (stC_one _) hp rfl (Nat.le_of_ble_eq_true rfl) (splice_all _ _ (by rw [stC_length]; rfl)) ?_
      intro w hp
      have hpS293 := (hp.sub (.cons _ (.cons _ (.cons _ (.cons_cons _ (.cons_cons _ .slnil))))))
      refine GL_nil ⟨fun _ => hpS293, ?_⟩
      refine GO_nil ?_
      have hp := ((((((hp.front 4 rfl).front 4 rfl).front 2 rfl).front 3 rfl).front 4 rfl).take 5)
      exact ⟨g93, g92, g89, _, slots5 rfl rfl rfl rfl rfl, hp⟩
    ·skip
     refine GC_of_GL ?_
     refine GL_alloc (wn_none rfl) rfl rfl tz115 rfl hp ?_
     intro g94 w hp
     have hpS294 := (hp.sub (.cons _ (.cons _ (.cons_cons _ (.cons_cons _ .slnil)))))
     refine GL_nil ⟨fun _ => hpS294, ?_⟩
     refine GO_two rfl rfl ?_ ?_
     ·skip
      refine GC_of_GL ?_
      refine GL_call (wn_none rfl) rfl rfl (dig_rounds _) rfl ?_
      rintro _ w ⟨rfl, hk⟩
      have hp := hp.comp hk
      have hpS295 := (hp.sub (.cons _ (.cons _ (.cons_cons _ (.cons_cons _ .slnil)))))
      refine GL_nil ⟨fun _ => hpS295, ?_⟩
      refine GO_of_GL rfl ?_
      refine GL_alloc (wn_none rfl) rfl rfl tz115 rfl hp ?_
      intro g95 w hp
      have hpS296 := (hp.sub (.cons _ (.cons _ (.cons _ (.cons_cons _ (.cons_cons _ .slnil))))))
      refine GL_nil ⟨fun _ => hpS296, ?_⟩
      refine GO_of_GL rfl ?_
      refine GL_store (i := 1) (wn_none rfl) rfl rfl rfl rfl ts115 rfl (by rw [w32s_length, schedB_length]) (w32s_one _) hp rfl (Nat.le_of_ble_eq_true rfl) (splice_all _ _ (by rw [w32s_length, schedB_length]; rfl)) ?_
      intro w hp
      have hpS297 := (hp.sub (.cons _ (.cons _ (.cons _ (.cons_cons _ (.cons_cons _ .slnil))))))
      refine GL_nil ⟨fun _ => hpS297, ?_⟩
      refine GO_of_GL rfl ?_
      refine GL_store (i := 0) (wn_none rfl) rfl rfl rfl rfl ts115 rfl rfl (w32s_one _) hp rfl (Nat.le_of_ble_eq_true rfl) (splice_all _ _ rfl) ?_
      intro w hp
      have hpS298 := (hp.sub (.cons _ (.cons _ (.cons _ (.cons_cons _ (.cons_cons _ .slnil))))))
      refine GL_nil ⟨fun _ => hpS298, ?_⟩
      refine GO_of_GL rfl ?_
      refine GL_store (i := 2) (wn_none rfl) rfl rfl rfl rfl ts113 rfl (stC_length _) (stC_one _) hp rfl (Nat.le_of_ble_eq_true rfl) (splice_all _ _ (by rw [stC_length]; rfl)) ?_
      intro w hp
      have hpS299 := (hp.sub (.cons _ (.cons _ (.cons _ (.cons_cons _ (.cons_cons _ .slnil))))))
      refine GL_nil ⟨fun _ => hpS299, ?_⟩
      refine GO_nil ?_
      have hp := ((((((hp.front 4 rfl).front 4 rfl).front 3 rfl).front 3 rfl).front 4 rfl).take 5)
      exact ⟨g94, g95, g89, _, slots5 rfl rfl rfl rfl rfl, hp⟩
     ·skip
      refine GC_of_GL ?_
      refine GL_alloc (wn_none rfl) rfl rfl tz115 rfl hp ?_
      intro g96 w hp
      have hpS300 := (hp.sub (.cons _ (.cons _ (.cons _ (.cons_cons _ (.cons_cons _ .slnil))))))
      refine GL_nil ⟨fun _ => hpS300, ?_⟩
      refine GO_of_GL rfl ?_
      refine GL_call (wn_none rfl) rfl rfl (dig_rounds _) rfl ?_
      rintro _ w ⟨rfl, hk⟩
      have hp := hp.comp hk
      have hpS301 := (hp.sub (.cons _ (.cons _ (.cons _ (.cons_cons _ (.cons_cons _ .slnil))))))
      refine GL_nil ⟨fun _ => hpS301, ?_⟩
      refine GO_of_GL rfl ?_
      refine GL_store (i := 1) (wn_none rfl) rfl rfl rfl rfl ts115 rfl (by rw [w32s_length, schedB_length]) (w32s_one _) hp rfl (Nat.le_of_ble_eq_true rfl) (splice_all _ _ (by rw [w32s_length, schedB_length]; rfl)) ?_
      intro w hp
      have hpS302 := (hp.sub (.cons _ (.cons _ (.cons _ (.cons_cons _ (.cons_cons _ .slnil))))))
      refine GL_nil ⟨fun _ => hpS302, ?_⟩
      refine GO_of_GL rfl ?_
      refine GL_store (i := 0) (wn_none rfl) rfl rfl rfl rfl ts115 rfl rfl (w32s_one _) hp rfl (Nat.le_of_ble_eq_true rfl) (splice_all _ _ rfl) ?_
      intro w hp
      have hpS303 := (hp.sub (.cons _ (.cons _ (.cons _ (.cons_cons _ (.cons_cons _ .slnil))))))
      refine GL_nil ⟨fun _ => hpS303, ?_⟩
      refine GO_of_GL rfl ?_
      refine GL_store (i := 2) (wn_none rfl) rfl rfl rfl rfl ts113 rfl (stC_length _) (stC_one _) hp rfl (Nat.le_of_ble_eq_true rfl) (splice_all _ _ (by rw [stC_length]; rfl)) ?_
      intro w hp
      have hpS304 := (hp.sub (.cons _ (.cons _ (.cons _ (.cons_cons _ (.cons_cons _ .slnil))))))
      refine GL_nil ⟨fun _ => hpS304, ?_⟩
      refine GO_nil ?_
      have hp := ((((((hp.front 4 rfl).front 4 rfl).front 3 rfl).front 3 rfl).front 4 rfl).take 5)
      exact ⟨g94, g96, g89, _, slots5 rfl rfl rfl rfl rfl, hp⟩
    ·skip
     refine GC_of_GL ?_
     refine GL_alloc (wn_none rfl) rfl rfl tz115 rfl hp ?_
     intro g97 w hp
     have hpS305 := (hp.sub (.cons _ (.cons _ (.cons_cons _ (.cons_cons _ .slnil)))))
     refine GL_nil ⟨fun _ => hpS305, ?_⟩
     refine GO_two rfl rfl ?_ ?_
     ·skip
      refine GC_of_GL ?_
      refine GL_call (wn_none rfl) rfl rfl (dig_rounds _) rfl ?_
      rintro _ w ⟨rfl, hk⟩
      have hp := hp.comp hk
      have hpS306 := (hp.sub (.cons _ (.cons _ (.cons_cons _ (.cons_cons _ .slnil)))))
      refine GL_nil ⟨fun _ => hpS306, ?_⟩
      refine GO_of_GL rfl ?_
      refine GL_alloc (wn_none rfl) rfl rfl tz115 rfl hp ?_
      intro g98 w hp
      have hpS307 := (hp.sub (.cons _ (.cons _ (.cons _ (.cons_cons _ (.cons_cons _ .slnil))))))
      refine GL_nil ⟨fun _ => hpS307, ?_⟩
      refine GO_of_GL rfl ?_
      refine GL_store (i := 0) (wn_none rfl) rfl rfl rfl rfl ts115 rfl (by rw [w32s_length, schedB_length]) (w32s_one _) hp rfl (Nat.le_of_ble_eq_true rfl) (splice_all _ _ (by rw [w32s_length, schedB_length]; rfl)) ?_
      intro w hp
      have hpS308 := (hp.sub (.cons _ (.cons _ (.cons _ (.cons_cons _ (.cons_cons _ .slnil))))))
      refine GL_nil ⟨fun _ => hpS308, ?_⟩
      refine GO_of_GL rfl ?_
      refine GL_store (i := 1) (wn_none rfl) rfl rfl rfl rfl ts115 rfl rfl (w32s_one _) hp rfl (Nat.le_of_ble_eq_true rfl) (splice_all _ _ rfl) ?_
      intro w hp
      have hpS309 := (hp.sub (.cons _ (.cons _ (.cons _ (.cons_cons _ (.cons_cons _ .slnil))))))
      refine GL_nil ⟨fun _ => hpS309, ?_⟩
      refine GO_of_GL rfl ?_
      refine GL_store (i := 2) (wn_none rfl) rfl rfl rfl rfl ts113 rfl (stC_length _) (stC_one _) hp rfl (Nat.le_of_ble_eq_true rfl) (splice_all _ _ (by rw [stC_length]; rfl)) ?_
      intro w hp
      have hpS310 := (hp.sub (.cons _ (.cons _ (.cons _ (.cons_cons _ (.cons_cons _ .slnil))))))
      refine GL_nil ⟨fun _ => hpS310, ?_⟩
      refine GO_nil ?_
      have hp := ((((((hp.front 4 rfl).front 4 rfl).front 2 rfl).front 3 rfl).front 4 rfl).take 5)
      exact ⟨g98, g97, g89, _, slots5 rfl rfl rfl rfl rfl, hp⟩
     ·skip
      refine GC_of_GL ?_
      refine GL_alloc (wn_none rfl) rfl rfl tz115 rfl hp ?_
      intro g99 w hp
      have hpS311 := (hp.sub (.cons _ (.cons _ (.cons _ (.cons_cons _ (.cons_cons _ .slnil))))))
      refine GL_nil ⟨fun _ => hpS311, ?_⟩
      refine GO_of_GL rfl ?_
      refine GL_call (wn_none rfl) rfl rfl (dig_rounds _) rfl ?_
      rintro _ w ⟨rfl, hk⟩
      have hp := hp.comp hk
      have hpS312 := (hp.sub (.cons _ (.cons _ (.cons _ (.cons_cons _ (.cons_cons _ .slnil))))))
      refine GL_nil ⟨fun _ => hpS312, ?_⟩
      refine GO_of_GL rfl ?_
      refine GL_store (i := 0) (wn_none rfl) rfl rfl rfl rfl ts115 rfl (by rw [w32s_length, schedB_length]) (w32s_one _) hp rfl (Nat.le_of_ble_eq_true rfl) (splice_all _ _ (by rw [w32s_length, schedB_length]; rfl)) ?_
      intro w hp
      have hpS313 := (hp.sub (.cons _ (.cons _ (.cons _ (.cons_cons _ (.cons_cons _ .slnil))))))
      refine GL_nil ⟨fun _ => hpS313, ?_⟩
      refine GO_of_GL rfl ?_
      refine GL_store (i := 1) (wn_none rfl) rfl rfl rfl rfl ts115 rfl rfl (w32s_one _) hp rfl (Nat.le_of_ble_eq_true rfl) (splice_all _ _ rfl) ?_
      intro w hp
      have hpS314 := (hp.sub (.cons _ (.cons _ (.cons _ (.cons_cons _ (.cons_cons _ .slnil))))))
      refine GL_nil ⟨fun _ => hpS314, ?_⟩
      refine GO_of_GL rfl ?_
      refine GL_store (i := 2) (wn_none rfl) rfl rfl rfl rfl ts113 rfl (stC_length _) (stC_one _) hp rfl (Nat.le_of_ble_eq_true rfl) (splice_all _ _ (by rw [stC_length]; rfl)) ?_
      intro w hp
      have hpS315 := (hp.sub (.cons _ (.cons _ (.cons _ (.cons_cons _ (.cons_cons _ .slnil))))))
      refine GL_nil ⟨fun _ => hpS315, ?_⟩
      refine GO_nil ?_
      have hp := ((((((hp.front 4 rfl).front 4 rfl).front 2 rfl).front 3 rfl).front 4 rfl).take 5)
      exact ⟨g99, g97, g89, _, slots5 rfl rfl rfl rfl rfl, hp⟩
   ·skip
    refine GC_of_GL ?_
    refine GL_alloc (wn_none rfl) rfl rfl tz115 rfl hp ?_
    intro g100 w hp
    have hpS316 := (hp.sub (.cons _ (.cons _ (.cons_cons _ (.cons_cons _ .slnil)))))
    refine GL_nil ⟨fun _ => hpS316, ?_⟩
    refine GO_two rfl rfl ?_ ?_
    ·skip
     refine GC_of_GL ?_
     refine GL_call (wn_none rfl) rfl rfl (dig_spread _ m l _ (hs.keep hp.mod) hm) rfl ?_
     rintro _ w ⟨rfl, hk⟩
     have hp := hp.comp hk
     have hpS317 := (hp.sub (.cons _ (.cons _ (.cons_cons _ (.cons_cons _ .slnil)))))
     refine GL_nil ⟨fun _ => hpS317, ?_⟩
     refine GO_two rfl rfl ?_ ?_
     ·skip
      refine GC_of_GL ?_
      refine GL_call (wn_none rfl) rfl rfl (dig_rounds _) rfl ?_
      rintro _ w ⟨rfl, hk⟩
      have hp := hp.comp hk
      have hpS318 := (hp.sub (.cons _ (.cons _ (.cons_cons _ (.cons_cons _ .slnil)))))
      refine GL_nil ⟨fun _ => hpS318, ?_⟩
      refine GO_of_GL rfl ?_
      refine GL_alloc (wn_none rfl) rfl rfl tz115 rfl hp ?_
      intro g101 w hp
      have hpS319 := (hp.sub (.cons _ (.cons _ (.cons _ (.cons_cons _ (.cons_cons _ .slnil))))))
      refine GL_nil ⟨fun _ => hpS319, ?_⟩
      refine GO_of_GL rfl ?_
      refine GL_store (i := 1) (wn_none rfl) rfl rfl rfl rfl ts115 rfl (by rw [w32s_length, schedB_length]) (w32s_one _) hp rfl (Nat.le_of_ble_eq_true rfl) (splice_all _ _ (by rw [w32s_length, schedB_length]; rfl)) ?_
      intro w hp
      have hpS320 := (hp.sub (.cons _ (.cons _ (.cons _ (.cons_cons _ (.cons_cons _ .slnil))))))
      refine GL_nil ⟨fun _ => hpS320, ?_⟩
      refine GO_of_GL rfl ?_
      refine GL_store (i := 0) (wn_none rfl) rfl rfl rfl rfl ts115 rfl rfl (w32s_one _) hp rfl (Nat.le_of_ble_eq_true rfl) (splice_all _ _ rfl) ?_
      intro w hp
      have hpS321 := (hp.sub (.cons _ (.cons _ (.cons _ (.cons_cons _ (.cons_cons _ .slnil))))))
      refine GL_nil ⟨fun _ => hpS321, ?_⟩
      refine GO_of_GL rfl ?_
      refine GL_store (i := 2) (wn_none rfl) rfl rfl rfl rfl ts113 rfl (stC_length _) (stC_one _) hp rfl (Nat.le_of_ble_eq_true rfl) (splice_all _ _ (by rw [stC_length]; rfl)) ?_
      intro w hp
      have hpS322 := (hp.sub (.cons _ (.cons _ (.cons _ (.cons_cons _ (.cons_cons _ .slnil))))))
      refine GL_nil ⟨fun _ => hpS322, ?_⟩
      refine GO_nil ?_
      have hp := ((((((hp.front 4 rfl).front 4 rfl).front 3 rfl).front 3 rfl).front 4 rfl).take 5)
      exact ⟨g100, g101, g89, _, slots5 rfl rfl rfl rfl rfl, hp⟩
     ·skip
      refine GC_of_GL ?_
      refine GL_alloc (wn_none rfl) rfl rfl tz115 rfl hp ?_
      intro g102 w hp
      have hpS323 := (hp.sub (.cons _ (.cons _ (.cons _ (.cons_cons _ (.cons_cons _ .slnil))))))
      refine GL_nil ⟨fun _ => hpS323, ?_⟩
      refine GO_of_GL rfl ?_
      refine GL_call (wn_none rfl) rfl rfl (dig_rounds _) rfl ?_
      rintro _ w ⟨rfl, hk⟩
      have hp := hp.comp hk
      have hpS324 := (hp.sub (.cons _ (.cons _ (.cons _ (.cons_cons _ (.cons_cons _ .slnil))))))
      refine GL_nil ⟨fun _ => hpS324, ?_⟩
      refine GO_of_GL rfl ?_
      refine GL_store (i := 1) (wn_none rfl) rfl rfl rfl rfl ts115 rfl (by rw [w32s_length, schedB_length]) (w32s_one _) hp rfl (Nat.le_of_ble_eq_true rfl) (splice_all _ _ (by rw [w32s_length, schedB_length]; rfl)) ?_
      intro w hp
      have hpS325 := (hp.sub (.cons _ (.cons _ (.cons _ (.cons_cons _ (.cons_cons _ .slnil))))))
      refine GL_nil ⟨fun _ => hpS325, ?_⟩
      refine GO_of_GL rfl ?_
      refine GL_store (i := 0) (wn_none rfl) rfl rfl rfl rfl ts115 rfl rfl (w32s_one _) hp rfl (Nat.le_of_ble_eq_true rfl) (splice_all _ _ rfl) ?_
      intro w hp
      have hpS326 := (hp.sub (.cons _ (.cons _ (.cons _ (.cons_cons _ (.cons_cons _ .slnil))))))
      refine GL_nil ⟨fun _ => hpS326, ?_⟩
      refine GO_of_GL rfl ?_
      refine GL_store (i := 2) (wn_none rfl) rfl rfl rfl rfl ts113 rfl (stC_length _) (stC_one _) hp rfl (Nat.le_of_ble_eq_true rfl) (splice_all _ _ (by rw [stC_length]; rfl)) ?_
      intro w hp
      have hpS327 := (hp.sub (.cons _ (.cons _ (.cons _ (.cons_cons _ (.cons_cons _ .slnil))))))
      refine GL_nil ⟨fun _ => hpS327, ?_⟩
      refine GO_nil ?_
      have hp := ((((((hp.front 4 rfl).front 4 rfl).front 3 rfl).front 3 rfl).front 4 rfl).take 5)
      exact ⟨g100, g102, g89, _, slots5 rfl rfl rfl rfl rfl, hp⟩
    ·skip
     refine GC_of_GL ?_
     refine GL_alloc (wn_none rfl) rfl rfl tz115 rfl hp ?_
     intro g103 w hp
     have hpS328 := (hp.sub (.cons _ (.cons _ (.cons _ (.cons_cons _ (.cons_cons _ .slnil))))))
     refine GL_nil ⟨fun _ => hpS328, ?_⟩
     refine GO_of_GL rfl ?_
     refine GL_call (wn_none rfl) rfl rfl (dig_spread _ m l _ (hs.keep hp.mod) hm) rfl ?_
     rintro _ w ⟨rfl, hk⟩
     have hp := hp.comp hk
     have hpS329 := (hp.sub (.cons _ (.cons _ (.cons _ (.cons_cons _ (.cons_cons _ .slnil))))))
     refine GL_nil ⟨fun _ => hpS329, ?_⟩
     refine GO_of_GL rfl ?_
     refine GL_call (wn_none rfl) rfl rfl (dig_rounds _) rfl ?_
     rintro _ w ⟨rfl, hk⟩
     have hp := hp.comp hk
     have hpS330 := (hp.sub (.cons _ (.cons _ (.cons _ (.cons_cons _ (.cons_cons _ .slnil))))))
     refine GL_nil ⟨fun _ => hpS330, ?_⟩
     refine GO_of_GL rfl ?_
     refine GL_store (i := 1) (wn_none rfl) rfl rfl rfl rfl ts115 rfl (by rw [w32s_length, schedB_length]) (w32s_one _) hp rfl (Nat.le_of_ble_eq_true rfl) (splice_all _ _ (by rw [w32s_length, schedB_length]; rfl)) ?_
     intro w hp
     have hpS331 := (hp.sub (.cons _ (.cons _ (.cons _ (.cons_cons _ (.cons_cons _ .slnil))))))
     refine GL_nil ⟨fun _ => hpS331, ?_⟩
     refine GO_of_GL rfl ?_
     refine GL_store (i := 0) (wn_none rfl) rfl rfl rfl rfl ts115 rfl rfl (w32s_one _) hp rfl (Nat.le_of_ble_eq_true rfl) (splice_all _ _ rfl) ?_
     intro w hp
     have hpS332 := (hp.sub (.cons _ (.cons _ (.cons _ (.cons_cons _ (.cons_cons _ .slnil))))))
     refine GL_nil ⟨fun _ => hpS332, ?_⟩
     refine GO_of_GL rfl ?_
     refine GL_store (i := 2) (wn_none rfl) rfl rfl rfl rfl ts113 rfl (stC_length _) (stC_one _) hp rfl (Nat.le_of_ble_eq_true rfl) (splice_all _ _ (by rw [stC_length]; rfl)) ?_
     intro w hp
     have hpS333 := (hp.sub (.cons _ (.cons _ (.cons _ (.cons_cons _ (.cons_cons _ .slnil))))))
     refine GL_nil ⟨fun _ => hpS333, ?_⟩
     refine GO_nil ?_
     have hp := ((((((hp.front 4 rfl).front 4 rfl).front 3 rfl).front 3 rfl).front 4 rfl).take 5)
     exact ⟨g100, g103, g89, _, slots5 rfl rfl rfl rfl rfl, hp⟩
   ·skip
    refine GC_of_GL ?_
    refine GL_alloc (wn_none rfl) rfl rfl tz115 rfl hp ?_
    intro g104 w hp
    have hpS334 := (hp.sub (.cons _ (.cons _ (.cons_cons _ (.cons_cons _ .slnil)))))
    refine GL_nil ⟨fun _ => hpS334, ?_⟩
    refine GO_two rfl rfl ?_ ?_
    ·skip
     refine GC_of_GL ?_
     refine GL_call (wn_none rfl) rfl rfl (dig_spread _ m l _ (hs.keep hp.mod) hm) rfl ?_
     rintro _ w ⟨rfl, hk⟩
     have hp := hp.comp hk
     have hpS335 := (hp.sub (.cons _ (.cons _ (.cons_cons _ (.cons_cons _ .slnil)))))
     refine GL_nil ⟨fun _ => hpS335, ?_⟩
     refine GO_two rfl rfl ?_ ?_
     ·skip
      refine GC_of_GL ?_
      refine GL_call (wn_none rfl) rfl rfl (dig_rounds _) rfl ?_
      rintro _ w ⟨rfl, hk⟩
      have hp := hp.comp hk
      have hpS336 := (hp.sub (.cons _ (.cons _ (.cons_cons _ (.cons_cons _ .slnil)))))
      refine GL_nil ⟨fun _ => hpS336, ?_⟩
      refine GO_of_GL rfl ?_
      refine GL_alloc (wn_none rfl) rfl rfl tz115 rfl hp ?_
      intro g105 w hp
      have hpS337 := (hp.sub (.cons _ (.cons _ (.cons _ (.cons_cons _ (.cons_cons _ .slnil))))))
      refine GL_nil ⟨fun _ => hpS337, ?_⟩
      refine GO_of_GL rfl ?_
      refine GL_store (i := 0) (wn_none rfl) rfl rfl rfl rfl ts115 rfl (by rw [w32s_length, schedB_length]) (w32s_one _) hp rfl (Nat.le_of_ble_eq_true rfl) (splice_all _ _ (by rw [w32s_length, schedB_length]; rfl)) ?_
      intro w hp
      have hpS338 := (hp.sub (.cons _ (.cons _ (.cons _ (.cons_cons _ (.cons_cons _ .slnil))))))
      refine GL_nil ⟨fun _ => hpS338, ?_⟩
      refine GO_of_GL rfl ?_
      refine GL_store (i := 1) (wn_none rfl) rfl rfl rfl rfl ts115 rfl rfl (w32s_one _) hp rfl (Nat.le_of_ble_eq_true rfl) (splice_all _ _ rfl) ?_
      intro w hp
      have hpS339 := (hp.sub (.cons _ (.cons _ (.cons _ (.cons_cons _ (.cons_cons _ .slnil))))))
      refine GL_nil ⟨fun _ => hpS339, ?_⟩
      refine GO_of_GL rfl ?_
      refine GL_store (i := 2) (wn_none rfl) rfl rfl rfl rfl ts113 rfl (stC_length _) (stC_one _) hp rfl (Nat.le_of_ble_eq_true rfl) (splice_all _ _ (by rw [stC_length]; rfl)) ?_
      intro w hp
      have hpS340 := (hp.sub (.cons _ (.cons _ (.cons _ (.cons_cons _ (.cons_cons _ .slnil))))))
      refine GL_nil ⟨fun _ => hpS340, ?_⟩
      refine GO_nil ?_
      have hp := ((((((hp.front 4 rfl).front 4 rfl).front 2 rfl).front 3 rfl).front 4 rfl).take 5)
      exact ⟨g105, g104, g89, _, slots5 rfl rfl rfl rfl rfl, hp⟩
     ·skip
      refine GC_of_GL ?_
      refine GL_alloc (wn_none rfl) rfl rfl tz115 rfl hp ?_
      intro g106 w hp
      have hpS341 := (hp.sub (.cons _ (.cons _ (.cons _ (.cons_cons _ (.cons_cons _ .slnil))))))
      refine GL_nil ⟨fun _ => hpS341, ?_⟩
      refine GO_of_GL rfl ?_
      refine GL_call (wn_none rfl) rfl rfl (dig_rounds _) rfl ?_
      rintro _ w ⟨rfl, hk⟩
      have hp := hp.comp hk
      have hpS342 := (hp.sub (.cons _ (.cons _ (.cons _ (.cons_cons _ (.cons_cons _ .slnil))))))
      refine GL_nil ⟨fun _ => hpS342, ?_⟩
      refine GO_of_GL rfl ?_
      refine GL_store (i := 0) (wn_none rfl) rfl rfl rfl rfl ts115 rfl (by rw [w32s_length, schedB_length]) (w32s_one _) hp rfl (Nat.le_of_ble_eq_true rfl) (splice_all _ _ (by rw [w32s_length, schedB_length]; rfl)) ?_
      intro w hp
      have hpS343 := (hp.sub (.cons _ (.cons _ (.cons _ (.cons_cons _ (.cons_cons _ .slnil))))))
      refine GL_nil ⟨fun _ => hpS343, ?_⟩
      refine GO_of_GL rfl ?_
      refine GL_store (i := 1) (wn_none rfl) rfl rfl rfl rfl ts115 rfl rfl (w32s_one _) hp rfl (Nat.le_of_ble_eq_true rfl) (splice_all _ _ rfl) ?_
      intro w hp
      have hpS344 := (hp.sub (.cons _ (.cons _ (.cons _ (.cons_cons _ (.cons_cons _ .slnil))))))
      refine GL_nil ⟨fun _ => hpS344, ?_⟩
      refine GO_of_GL rfl ?_
      refine GL_store (i := 2) (wn_none rfl) rfl rfl rfl rfl ts113 rfl (stC_length _) (stC_one _) hp rfl (Nat.le_of_ble_eq_true rfl) (splice_all _ _ (by rw [stC_length]; rfl)) ?_
      intro w hp
      have hpS345 := (hp.sub (.cons _ (.cons _ (.cons _ (.cons_cons _ (.cons_cons _ .slnil))))))
      refine GL_nil ⟨fun _ => hpS345, ?_⟩
      refine GO_nil ?_
      have hp := ((((((hp.front 4 rfl).front 4 rfl).front 2 rfl).front 3 rfl).front 4 rfl).take 5)
      exact ⟨g106, g104, g89, _, slots5 rfl rfl rfl rfl rfl, hp⟩
    ·skip
     refine GC_of_GL ?_
     refine GL_alloc (wn_none rfl) rfl rfl tz115 rfl hp ?_
     intro g107 w hp
     have hpS346 := (hp.sub (.cons _ (.cons _ (.cons _ (.cons_cons _ (.cons_cons _ .slnil))))))
     refine GL_nil ⟨fun _ => hpS346, ?_⟩
     refine GO_of_GL rfl ?_
     refine GL_call (wn_none rfl) rfl rfl (dig_spread _ m l _ (hs.keep hp.mod) hm) rfl ?_
     rintro _ w ⟨rfl, hk⟩
     have hp := hp.comp hk
     have hpS347 := (hp.sub (.cons _ (.cons _ (.cons _ (.cons_cons _ (.cons_cons _ .slnil))))))
     refine GL_nil ⟨fun _ => hpS347, ?_⟩
     refine GO_of_GL rfl ?_
     refine GL_call (wn_none rfl) rfl rfl (dig_rounds _) rfl ?_
     rintro _ w ⟨rfl, hk⟩
     have hp := hp.comp hk
     have hpS348 := (hp.sub (.cons _ (.cons _ (.cons _ (.cons_cons _ (.cons_cons _ .slnil))))))
     refine GL_nil ⟨fun _ => hpS348, ?_⟩
     refine GO_of_GL rfl ?_
     refine GL_store (i := 0) (wn_none rfl) rfl rfl rfl rfl ts115 rfl (by rw [w32s_length, schedB_length]) (w32s_one _) hp rfl (Nat.le_of_ble_eq_true rfl) (splice_all _ _ (by rw [w32s_length, schedB_length]; rfl)) ?_
     intro w hp
     have hpS349 := (hp.sub (.cons _ (.cons _ (.cons _ (.cons_cons _ (.cons_cons _ .slnil))))))
     refine GL_nil ⟨fun _ => hpS349, ?_⟩
     refine GO_of_GL rfl ?_
     refine GL_store (i := 1) (wn_none rfl) rfl rfl rfl rfl ts115 rfl rfl (w32s_one _) hp rfl (Nat.le_of_ble_eq_true rfl) (splice_all _ _ rfl) ?_
     intro w hp
     have hpS350 := (hp.sub (.cons _ (.cons _ (.cons _ (.cons_cons _ (.cons_cons _ .slnil))))))
     refine GL_nil ⟨fun _ => hpS350, ?_⟩
     refine GO_of_GL rfl ?_
     refine GL_store (i := 2) (wn_none rfl) rfl rfl rfl rfl ts113 rfl (stC_length _) (stC_one _) hp rfl (Nat.le_of_ble_eq_true rfl) (splice_all _ _ (by rw [stC_length]; rfl)) ?_
     intro w hp
     have hpS351 := (hp.sub (.cons _ (.cons _ (.cons _ (.cons_cons _ (.cons_cons _ .slnil))))))
     refine GL_nil ⟨fun _ => hpS351, ?_⟩
     refine GO_nil ?_
     have hp := ((((((hp.front 4 rfl).front 4 rfl).front 2 rfl).front 3 rfl).front 4 rfl).take 5)
     exact ⟨g107, g104, g89, _, slots5 rfl rfl rfl rfl rfl, hp⟩
 ·rintro f w ⟨g3, g4, g5, fz, rfl, hp⟩
  refine GW_seq ?_
  refine GW_seq ?_
  refine GW_region ?_
  refine GL_rd (v := .int _ _) (wn_none rfl) rfl (rd_move rfl rfl) ?_
  refine GL_nil ?_
  refine GW_block ?_
  refine GW_loop ?_
  refine Lp_ind (α := Nat) (fun a_0 f_0 w' => match a_0 with | i => ∃ fz, f_0 = (upd (upd (upd (upd (upd (upd fz 2 (.pointer (some ⟨g, 0, none⟩))) 4 (.pointer (some ⟨g2, 0, none⟩))) 5 (.pointer (some ⟨g3, 0, none⟩))) 6 (.pointer (some ⟨g4, 0, none⟩))) 7 (.pointer (some ⟨g5, 0, none⟩))) 18 (.int .i64 (i : Int))) ∧ Hp w0 [] w' [cells g5 113 (stC (roundsB s (schedB l 64) i)), cells g4 115 (w32s kTab), cells g3 115 (w32s (schedB l 64)), cells g2 113 (List.replicate 8 (.int .u32 0)), cells g 113 (stC s)] ∧ (i ≤ 64)) (fun a_0 => match a_0 with | i => 64 - i) ?_ 0 _ _ ?_
  ·rintro i f wz ⟨fz, rfl, hp, hi0⟩ ihL0
   refine Lp_round ?_
   refine GW_seq ?_
   refine GW_region ?_
   refine GL_rd (wn_none rfl) rfl (rd_bin rfl rfl rfl bo_lss) ?_
   refine GL_nil ?_
   refine GW_seq ?_
   refine GW_cond rfl (fun hb => ?_) (fun hb => ?_)
   ·(try simp only [decide_eq_true_eq, decide_eq_false_iff_not, Bool.not_eq_true', Bool.not_eq_false', Bool.not_eq_eq_eq_not, Bool.not_true, Bool.not_false, Int.not_lt, Int.not_le] at hb)
    refine GW_skip ?_
    refine GW_seq ?_
    refine GW_block ?_
    refine GW_seq ?_
    refine GW_region ?_
    refine GL_rd (v := .int _ _) (wn_none rfl) rfl (rd_move rfl rfl) ?_
    refine GL_rd (v := .int _ _) (wn_none rfl) rfl (rd_assign rfl rfl) ?_
    refine GL_nil ?_
    refine GW_seq ?_
    refine GW_drawnK 6 (.one 0 true (.one 1 true (.one 2 true (.one 3 true (.one 4 true (.one 5 true .nil)))))) mixed (by kernel_rfl) hp (fun _ h => h) fun w hp => ?_
    have hpS352 := hp
    refine GO_rdT rfl (wn_none rfl) rfl (fun w => (rd_indexA (j := 4) rfl rfl rfl Tryz.underlying113 ts64 rfl (by omega) _ rfl)) ?_
    refine GO_rd rfl rfl (wn_none rfl) rfl hpS352 (fun w hp => (rd_load rfl rfl Tryz.underlying64 rfl ((cell_of_cells (hp.get 0 rfl) _).trans rfl))) ?_
    refine GO_rdT rfl (wn_none rfl) rfl (fun w => (rd_indexA (j := 0) rfl rfl rfl Tryz.underlying113 ts64 rfl (by omega) _ rfl)) ?_
    refine GO_rd rfl rfl (wn_none rfl) rfl hpS352 (fun w hp => (rd_load rfl rfl Tryz.underlying64 rfl ((cell_of_cells (hp.get 0 rfl) _).trans rfl))) ?_
    refine GO_rdT (v := .int _ _) rfl (wn_none rfl) rfl (fun w => (rd_assign rfl rfl)) ?_
    refine GO_rdT (v := .int _ _) rfl (wn_none rfl) rfl (fun w => (rd_assign rfl rfl)) ?_
    refine GO_nil ?_
    refine GW_seq ?_
    refine GW_drawnK 31 (.one 0 true (.one 1 true (.one 2 true (.one 4 true (.one 7 true (.one 11 true (.one 12 true (.one 13 true (.one 14 true (.one 15 true (.one 16 true (.one 17 true (.one 18 true (.one 19 true (.one 20 true (.one 22 true (.one 23 true (.one 24 true (.one 26 true (.one 27 true (.one 28 true (.one 3 false (.one 5 false (.one 6 true (.one 8 false (.one 9 true (.one 10 true (.one 21 true (.one 25 true (.one 29 true (.one 30 true .nil))))))))))))))))))))))))))))))) mixed (by kernel_rfl) hp (fun _ h => h) fun w hp => ?_
    have hpS353 := hp
    refine GO_rdT rfl (wn_none rfl) rfl (fun w => (rd_indexA (j := 7) rfl rfl rfl Tryz.underlying113 ts64 rfl (by omega) _ rfl)) ?_
    refine GO_rd rfl rfl (wn_none rfl) rfl hpS353 (fun w hp => (rd_load rfl rfl Tryz.underlying64 rfl ((cell_of_cells (hp.get 0 rfl) _).trans rfl))) ?_
    refine GO_rdT (v := .int _ _) rfl (wn_none rfl) rfl (fun w => (rd_move rfl rfl)) ?_
    refine GO_rdT (v := .int _ _) rfl (wn_none rfl) rfl (fun w => (rd_move rfl rfl)) ?_
    refine GO_rdT (v := .int _ _) rfl (wn_none rfl) rfl (fun w => (rd_move rfl rfl)) ?_
    refine GO_rdT (v := .int _ _) rfl (wn_none rfl) rfl (fun w => (rd_move rfl rfl)) ?_
    refine GO_rdT rfl (wn_none rfl) rfl (fun w => (rd_indexA (j := 5) rfl rfl rfl Tryz.underlying113 ts64 rfl (by omega) _ rfl)) ?_
    refine GO_rd rfl rfl (wn_none rfl) rfl hpS353 (fun w hp => (rd_load rfl rfl Tryz.underlying64 rfl ((cell_of_cells (hp.get 0 rfl) _).trans rfl))) ?_
    refine GO_rd rfl rfl (wn_none rfl) rfl hpS353 (fun w hp => (rd_bin rfl rfl rfl (bo_andV _ _))) ?_
    refine GO_rdT (v := .int _ _) rfl (wn_none rfl) rfl (fun w => (rd_move rfl rfl)) ?_
    refine GO_rd rfl rfl (wn_none rfl) rfl hpS353 (fun w hp => (rd_compl32 _ rfl rfl)) ?_
    refine GO_rdT rfl (wn_none rfl) rfl (fun w => (rd_indexA (j := 6) rfl rfl rfl Tryz.underlying113 ts64 rfl (by omega) _ rfl)) ?_
    refine GO_rd rfl rfl (wn_none rfl) rfl hpS353 (fun w hp => (rd_load rfl rfl Tryz.underlying64 rfl ((cell_of_cells (hp.get 0 rfl) _).trans rfl))) ?_
    refine GO_rd rfl rfl (wn_none rfl) rfl hpS353 (fun w hp => (rd_bin rfl rfl rfl (bo_andV _ _))) ?_
    refine GO_rd rfl rfl (wn_none rfl) rfl hpS353 (fun w hp => (rd_bin rfl rfl rfl (bo_xorV _ _))) ?_
    refine GO_rdT (v := .int _ _) rfl (wn_none rfl) rfl (fun w => (rd_move rfl rfl)) ?_
    refine GO_rdT rfl (wn_none rfl) rfl (fun w => (rd_indexA (j := i) rfl rfl rfl Tryz.underlying115 ts64 rfl (by omega) _ rfl)) ?_
    refine GO_rd rfl rfl (wn_none rfl) rfl hpS353 (fun w hp => (rd_load rfl rfl Tryz.underlying64 rfl ((cell_of_cells (hp.get 1 rfl) _).trans (w32s_get1 (l := kTab) (i := i) (by rw [kTab_length]; omega))))) ?_
    refine GO_rdT (v := .int _ _) rfl (wn_none rfl) rfl (fun w => (rd_move rfl rfl)) ?_
    refine GO_rdT rfl (wn_none rfl) rfl (fun w => (rd_indexA (j := i) rfl rfl rfl Tryz.underlying115 ts64 rfl (by omega) _ rfl)) ?_
    refine GO_rd rfl rfl (wn_none rfl) rfl hpS353 (fun w hp => (rd_load rfl rfl Tryz.underlying64 rfl ((cell_of_cells (hp.get 2 rfl) _).trans (w32s_get1 (l := schedB l 64) (i := i) (by rw [schedB_length]; omega))))) ?_
    refine GO_of_GL rfl ?_
    refine GL_call (wn_none rfl) rfl rfl (dig_spin (roundsB s (schedB l 64) i).e 6 _ (by decide)) rfl ?_
    rintro _ w ⟨rfl, hk⟩
    have hp := hp.comp hk
    have hpS354 := hp
    refine GL_nil ⟨fun _ => hpS354, ?_⟩
    refine GO_of_GL rfl ?_
    refine GL_call (wn_none rfl) rfl rfl (dig_spin (roundsB s (schedB l 64) i).e 11 _ (by decide)) rfl ?_
    rintro _ w ⟨rfl, hk⟩
    have hp := hp.comp hk
    have hpS355 := hp
    refine GL_nil ⟨fun _ => hpS355, ?_⟩
    refine GO_rd rfl rfl (wn_none rfl) rfl hpS355 (fun w hp => (rd_bin rfl rfl rfl (bo_xorV _ _))) ?_
    refine GO_of_GL rfl ?_
    refine GL_call (wn_none rfl) rfl rfl (dig_spin (roundsB s (schedB l 64) i).e 25 _ (by decide)) rfl ?_
    rintro _ w ⟨rfl, hk⟩
    have hp := hp.comp hk
    have hpS356 := hp
    refine GL_nil ⟨fun _ => hpS356, ?_⟩
    refine GO_rd rfl rfl (wn_none rfl) rfl hpS356 (fun w hp => (rd_bin rfl rfl rfl (bo_xorV _ _))) ?_
    refine GO_rd rfl rfl (wn_none rfl) rfl hpS356 (fun w hp => (rd_bin rfl rfl rfl (bo_addV _ _))) ?_
    refine GO_rd rfl rfl (wn_none rfl) rfl hpS356 (fun w hp => (rd_bin rfl rfl rfl (bo_addV _ _))) ?_
    refine GO_rd rfl rfl (wn_none rfl) rfl hpS356 (fun w hp => (rd_bin rfl rfl rfl (bo_addV _ _))) ?_
    refine GO_rd rfl rfl (wn_none rfl) rfl hpS356 (fun w hp => (rd_bin rfl rfl rfl (bo_addV _ _))) ?_
    refine GO_rdT (v := .int .u32 ((tB (roundsB s (schedB l 64) i) (kTab.getD i 0) ((schedB l 64).getD i 0)).toNat : Int)) rfl (wn_none rfl) rfl (fun w => (rd_assign rfl rfl)) ?_
    refine GO_nil ?_
    refine GW_seq ?_
    refine GW_drawnK 25 (.one 0 true (.one 2 true (.one 5 true (.one 8 true (.one 9 true (.one 10 true (.one 11 true (.one 12 true (.one 13 true (.one 14 true (.one 15 true (.one 16 true (.one 17 true (.one 18 true (.one 19 true (.one 20 true (.one 21 true (.one 22 true (.one 1 false (.one 3 false (.one 4 true (.one 6 false (.one 7 true (.one 23 true (.one 24 true .nil))))))))))))))))))))))))) mixed (by kernel_rfl) hp (fun _ h => h) fun w hp => ?_
    have hpS357 := hp
    refine GO_rdT (v := .int _ _) rfl (wn_none rfl) rfl (fun w => (rd_move rfl rfl)) ?_
    refine GO_rdT (v := .int _ _) rfl (wn_none rfl) rfl (fun w => (rd_move rfl rfl)) ?_
    refine GO_rdT (v := .int _ _) rfl (wn_none rfl) rfl (fun w => (rd_move rfl rfl)) ?_
    refine GO_rdT (v := .int _ _) rfl (wn_none rfl) rfl (fun w => (rd_move rfl rfl)) ?_
    refine GO_rdT rfl (wn_none rfl) rfl (fun w => (rd_indexA (j := 1) rfl rfl rfl Tryz.underlying113 ts64 rfl (by omega) _ rfl)) ?_
    refine GO_rd rfl rfl (wn_none rfl) rfl hpS357 (fun w hp => (rd_load rfl rfl Tryz.underlying64 rfl ((cell_of_cells (hp.get 0 rfl) _).trans rfl))) ?_
    refine GO_rd rfl rfl (wn_none rfl) rfl hpS357 (fun w hp => (rd_bin rfl rfl rfl (bo_andV _ _))) ?_
    refine GO_rdT (v := .int _ _) rfl (wn_none rfl) rfl (fun w => (rd_move rfl rfl)) ?_
    refine GO_rdT rfl (wn_none rfl) rfl (fun w => (rd_indexA (j := 2) rfl rfl rfl Tryz.underlying113 ts64 rfl (by omega) _ rfl)) ?_
    refine GO_rd rfl rfl (wn_none rfl) rfl hpS357 (fun w hp => (rd_load rfl rfl Tryz.underlying64 rfl ((cell_of_cells (hp.get 0 rfl) _).trans rfl))) ?_
    refine GO_rd rfl rfl (wn_none rfl) rfl hpS357 (fun w hp => (rd_bin rfl rfl rfl (bo_andV _ _))) ?_
    refine GO_rd rfl rfl (wn_none rfl) rfl hpS357 (fun w hp => (rd_bin rfl rfl rfl (bo_xorV _ _))) ?_
    refine GO_rdT rfl (wn_none rfl) rfl (fun w => (rd_indexA (j := 1) rfl rfl rfl Tryz.underlying113 ts64 rfl (by omega) _ rfl)) ?_
    refine GO_rd rfl rfl (wn_none rfl) rfl hpS357 (fun w hp => (rd_load rfl rfl Tryz.underlying64 rfl ((cell_of_cells (hp.get 0 rfl) _).trans rfl))) ?_
    refine GO_rdT rfl (wn_none rfl) rfl (fun w => (rd_indexA (j := 2) rfl rfl rfl Tryz.underlying113 ts64 rfl (by omega) _ rfl)) ?_
    refine GO_rd rfl rfl (wn_none rfl) rfl hpS357 (fun w hp => (rd_load rfl rfl Tryz.underlying64 rfl ((cell_of_cells (hp.get 0 rfl) _).trans rfl))) ?_
    refine GO_rd rfl rfl (wn_none rfl) rfl hpS357 (fun w hp => (rd_bin rfl rfl rfl (bo_andV _ _))) ?_
    refine GO_rd rfl rfl (wn_none rfl) rfl hpS357 (fun w hp => (rd_bin rfl rfl rfl (bo_xorV _ _))) ?_
    refine GO_of_GL rfl ?_
    refine GL_call (wn_none rfl) rfl rfl (dig_spin (roundsB s (schedB l 64) i).a 2 _ (by decide)) rfl ?_
    rintro _ w ⟨rfl, hk⟩
    have hp := hp.comp hk
    have hpS358 := hp
    refine GL_nil ⟨fun _ => hpS358, ?_⟩
    refine GO_of_GL rfl ?_
    refine GL_call (wn_none rfl) rfl rfl (dig_spin (roundsB s (schedB l 64) i).a 13 _ (by decide)) rfl ?_
    rintro _ w ⟨rfl, hk⟩
    have hp := hp.comp hk
    have hpS359 := hp
    refine GL_nil ⟨fun _ => hpS359, ?_⟩
    refine GO_rd rfl rfl (wn_none rfl) rfl hpS359 (fun w hp => (rd_bin rfl rfl rfl (bo_xorV _ _))) ?_
    refine GO_of_GL rfl ?_
    refine GL_call (wn_none rfl) rfl rfl (dig_spin (roundsB s (schedB l 64) i).a 22 _ (by decide)) rfl ?_
    rintro _ w ⟨rfl, hk⟩
    have hp := hp.comp hk
    have hpS360 := hp
    refine GL_nil ⟨fun _ => hpS360, ?_⟩
    refine GO_rd rfl rfl (wn_none rfl) rfl hpS360 (fun w hp => (rd_bin rfl rfl rfl (bo_xorV _ _))) ?_
    refine GO_rd rfl rfl (wn_none rfl) rfl hpS360 (fun w hp => (rd_bin rfl rfl rfl (bo_addV _ _))) ?_
    refine GO_rdT (v := .int .u32 ((uB (roundsB s (schedB l 64) i)).toNat : Int)) rfl (wn_none rfl) rfl (fun w => (rd_assign rfl rfl)) ?_
    refine GO_nil ?_
    refine GW_region ?_
    refine GL_rd (v := .int _ _) (wn_none rfl) rfl (rd_move rfl rfl) ?_
    refine GL_rd (v := .int _ _) (wn_none rfl) rfl (rd_move rfl rfl) ?_
    refine GL_rd (wn_none rfl) rfl (rd_bin rfl rfl rfl (bo_addV _ _)) ?_
    refine GL_rd (wn_none rfl) rfl (rd_indexA (j := 0) rfl rfl rfl Tryz.underlying113 ts64 rfl (by omega) _ rfl) ?_
    refine GL_rd (wn_none rfl) rfl (rd_load rfl rfl Tryz.underlying64 rfl ((cell_of_cells (hp.get 0 rfl) _).trans rfl)) ?_
    refine GL_rd (wn_none rfl) rfl (rd_indexA (j := 1) rfl rfl rfl Tryz.underlying113 ts64 rfl (by omega) _ rfl) ?_
    refine GL_rd (wn_none rfl) rfl (rd_load rfl rfl Tryz.underlying64 rfl ((cell_of_cells (hp.get 0 rfl) _).trans rfl)) ?_
    refine GL_rd (wn_none rfl) rfl (rd_indexA (j := 2) rfl rfl rfl Tryz.underlying113 ts64 rfl (by omega) _ rfl) ?_
    refine GL_rd (wn_none rfl) rfl (rd_load rfl rfl Tryz.underlying64 rfl ((cell_of_cells (hp.get 0 rfl) _).trans rfl)) ?_
    refine GL_rd (wn_none rfl) rfl (rd_indexA (j := 3) rfl rfl rfl Tryz.underlying113 ts64 rfl (by omega) _ rfl) ?_
    refine GL_rd (wn_none rfl) rfl (rd_load rfl rfl Tryz.underlying64 rfl ((cell_of_cells (hp.get 0 rfl) _).trans rfl)) ?_
    refine GL_rd (v := .int _ _) (wn_none rfl) rfl (rd_move rfl rfl) ?_
    refine GL_rd (wn_none rfl) rfl (rd_bin rfl rfl rfl (bo_addV _ _)) ?_
    refine GL_rd (wn_none rfl) rfl (rd_indexA (j := 4) rfl rfl rfl Tryz.underlying113 ts64 rfl (by omega) _ rfl) ?_
    refine GL_rd (wn_none rfl) rfl (rd_load rfl rfl Tryz.underlying64 rfl ((cell_of_cells (hp.get 0 rfl) _).trans rfl)) ?_
    refine GL_rd (wn_none rfl) rfl (rd_indexA (j := 5) rfl rfl rfl Tryz.underlying113 ts64 rfl (by omega) _ rfl) ?_
    refine GL_rd (wn_none rfl) rfl (rd_load rfl rfl Tryz.underlying64 rfl ((cell_of_cells (hp.get 0 rfl) _).trans rfl)) ?_
    refine GL_rd (wn_none rfl) rfl (rd_indexA (j := 6) rfl rfl rfl Tryz.underlying113 ts64 rfl (by omega) _ rfl) ?_
    refine GL_rd (wn_none rfl) rfl (rd_load rfl rfl Tryz.underlying64 rfl ((cell_of_cells (hp.get 0 rfl) _).trans rfl)) ?_
    refine GL_rd (v := .agg ⟨stC (roundB (roundsB s (schedB l 64) i) (kTab.getD i 0) ((schedB l 64).getD i 0))⟩) (wn_none rfl) rfl (rd_buildG (l := [(0, u32C (tB (roundsB s (schedB l 64) i) (kTab.getD i 0) ((schedB l 64).getD i 0) + uB (roundsB s (schedB l 64) i))), (1, u32C (roundsB s (schedB l 64) i).a), (2, u32C (roundsB s (schedB l 64) i).b), (3, u32C (roundsB s (schedB l 64) i).c), (4, u32C ((roundsB s (schedB l 64) i).d + tB (roundsB s (schedB l 64) i) (kTab.getD i 0) ((schedB l 64).getD i 0))), (5, u32C (roundsB s (schedB l 64) i).e), (6, u32C (roundsB s (schedB l 64) i).f), (7, u32C (roundsB s (schedB l 64) i).g)]) rfl tz113 Tryz.underlying113 ts64 rfl (fill8 _ _ _ _ _ _ _ _)) ?_
    refine GL_store (i := 0) (wn_none rfl) rfl rfl rfl rfl ts113 rfl rfl (stC_one _) hp rfl (Nat.le_of_ble_eq_true rfl) (splice_all _ _ (by rw [stC_length, stC_length])) ?_
    intro w hp
    refine GL_nil ?_
    refine GW_region ?_
    refine GL_rd (wn_none rfl) rfl (rd_bin rfl rfl rfl (bo_add64 (by omega))) ?_
    refine GL_rd (v := .int _ _) (wn_none rfl) rfl (rd_move rfl rfl) ?_
    refine GL_nil ?_
    exact ihL0 (i + 1) _ _ (by simp only []; omega) ⟨_, slots6 rfl rfl rfl rfl rfl rfl, hp, by omega⟩
   ·(try simp only [decide_eq_true_eq, decide_eq_false_iff_not, Bool.not_eq_true', Bool.not_eq_false', Bool.not_eq_eq_eq_not, Bool.not_true, Bool.not_false, Int.not_lt, Int.not_le] at hb)
    obtain rfl : i = 64 := by omega
    refine GW_exit ?_
    refine GW_seq ?_
    refine GW_seq ?_
    refine GW_region ?_
    refine GL_rd (v := .int _ _) (wn_none rfl) rfl (rd_move rfl rfl) ?_
    refine GL_nil ?_
    refine GW_block ?_
    refine GW_loop ?_
    refine Lp_ind (α := Nat) (fun a_0 f_0 w' => match a_0 with | i => ∃ fz, f_0 = (upd (upd (upd (upd fz 2 (.pointer (some ⟨g, 0, none⟩))) 4 (.pointer (some ⟨g2, 0, none⟩))) 7 (.pointer (some ⟨g5, 0, none⟩))) 100 (.int .i64 (i : Int))) ∧ Hp w0 [] w' [cells g5 113 (stC (roundsB s (schedB l 64) 64)), cells g2 113 (List.replicate 8 (.int .u32 0)), cells g 113 (w32s (addP s (roundsB s (schedB l 64) 64) i))] ∧ (i ≤ 8)) (fun a_0 => match a_0 with | i => 8 - i) ?_ 0 _ _ ?_
    ·rintro i f wz ⟨fz, rfl, hp, hi0⟩ ihL1
     refine Lp_round ?_
     refine GW_seq ?_
     refine GW_region ?_
     refine GL_rd (wn_none rfl) rfl (rd_bin rfl rfl rfl bo_lss) ?_
     refine GL_nil ?_
     refine GW_seq ?_
     refine GW_cond rfl (fun hb2 => ?_) (fun hb2 => ?_)
     ·(try simp only [decide_eq_true_eq, decide_eq_false_iff_not, Bool.not_eq_true', Bool.not_eq_false', Bool.not_eq_eq_eq_not, Bool.not_true, Bool.not_false, Int.not_lt, Int.not_le] at hb2)
      refine GW_skip ?_
      refine GW_seq ?_
      refine GW_block ?_
      refine GW_seq ?_
      refine GW_region ?_
      refine GL_rd (v := .int _ _) (wn_none rfl) rfl (rd_move rfl rfl) ?_
      refine GL_rd (v := .int _ _) (wn_none rfl) rfl (rd_assign rfl rfl) ?_
      refine GL_nil ?_
      refine GW_drawnK 8 (.one 0 true (.one 1 true (.one 2 true (.one 3 true (.one 4 true (.one 5 true (.one 6 true (.one 7 true (.one 8 false .nil))))))))) mixed (by kernel_rfl) hp (fun _ h => h) fun w hp => ?_
      have hpS361 := hp
      refine GO_rdT (v := .int _ _) rfl (wn_none rfl) rfl (fun w => (rd_move rfl rfl)) ?_
      refine GO_rdT rfl (wn_none rfl) rfl (fun w => (rd_indexA (j := i) rfl rfl rfl Tryz.underlying113 ts64 rfl (by omega) _ rfl)) ?_
      refine GO_rd rfl rfl (wn_none rfl) rfl hpS361 (fun w hp => (rd_load rfl rfl Tryz.underlying64 rfl ((cell_of_cells (hp.get 2 rfl) _).trans (w32s_get1 (l := addP s (roundsB s (schedB l 64) 64) i) (i := i) (by rw [addP_length]; omega))))) ?_
      refine GO_rdT (v := .int _ _) rfl (wn_none rfl) rfl (fun w => (rd_move rfl rfl)) ?_
      refine GO_rdT rfl (wn_none rfl) rfl (fun w => (rd_indexA (j := i) rfl rfl rfl Tryz.underlying113 ts64 rfl (by omega) _ rfl)) ?_
      refine GO_rd rfl rfl (wn_none rfl) rfl hpS361 (fun w hp => (rd_load rfl rfl Tryz.underlying64 rfl ((cell_of_cells (hp.get 0 rfl) _).trans (w32s_get1 (l := W8.l (roundsB s (schedB l 64) 64)) (i := i) (by rw [W8.len]; omega))))) ?_
      refine GO_rd rfl rfl (wn_none rfl) rfl hpS361 (fun w hp => (rd_bin rfl rfl rfl (bo_addV _ _))) ?_
      refine GO_rdT rfl (wn_none rfl) rfl (fun w => (rd_indexA (j := i) rfl rfl rfl Tryz.underlying113 ts64 rfl (by omega) _ rfl)) ?_
      refine GO_of_GL rfl ?_
      refine GL_store (i := 2) (wn_none rfl) rfl rfl rfl rfl ts64 rfl rfl (one1 rfl) hp rfl (by rw [w32s_length, addP_length]; omega) (addP_put (by omega)) ?_
      intro w hp
      refine GL_nil ⟨fun h => absurd h (by decide), ?_⟩
      refine GO_nil ?_
      refine GW_region ?_
      refine GL_rd (wn_none rfl) rfl (rd_bin rfl rfl rfl (bo_add64 (by omega))) ?_
      refine GL_rd (v := .int _ _) (wn_none rfl) rfl (rd_move rfl rfl) ?_
      refine GL_nil ?_
      exact ihL1 (i + 1) _ _ (by simp only []; omega) ⟨_, slots4 rfl rfl rfl rfl, hp, by omega⟩
     ·(try simp only [decide_eq_true_eq, decide_eq_false_iff_not, Bool.not_eq_true', Bool.not_eq_false', Bool.not_eq_eq_eq_not, Bool.not_true, Bool.not_false, Int.not_lt, Int.not_le] at hb2)
      obtain rfl : i = 8 := by omega
      rw [addP_all] at hp
      refine GW_exit ?_
      refine GW_seq ?_
      refine GW_region ?_
      refine GL_rd (wn_none rfl) rfl (rd_loadC rfl rfl Tryz.underlying113 rfl ts113 (hp.get 2 rfl) (stC_length _)) ?_
      refine GL_store (i := 1) (wn_none rfl) rfl rfl rfl rfl ts113 rfl (stC_length _) (stC_one _) hp rfl (Nat.le_of_ble_eq_true rfl) (splice_all _ _ (by rw [stC_length]; rfl)) ?_
      intro w hp
      refine GL_nil ?_
      refine GW_ret ?_
      exact ⟨_, res1 Tryz.results92 (rv_cell rfl rfl Tryz.underlying113 rfl ts113 (stC_length _) (hp.get 1 rfl)), rfl, hp.mods⟩
    ·have hp := ((((hp.front 4 rfl).front 4 rfl).front 2 rfl).take 3)
     refine ⟨_, slots4 rfl rfl rfl rfl, hp, by decide⟩
  ·refine ⟨_, slots6 rfl rfl rfl rfl rfl rfl, hp, by decide⟩
set_option maxHeartbeats 1000000 in
theorem dig_Add (p : Nat) (b : List UInt8) (rv sv : Value) (m : Nat) (l : List UInt8) (w0 : World) (h0 : Hp w0 (feet [cells p 125 (hsC b rv), .row 5 1 rv (hrB b).length (bys (hrB b))]) w0 [cells p 125 (hsC b rv), .row 5 1 rv (hrB b).length (bys (hrB b))]) (hs : ∀ w', Mod (feet [cells p 125 (hsC b rv), .row 5 1 rv (hrB b).length (bys (hrB b))]) w0 w' → Sl w' sv 1 m (bys l)) (hb : b.length + m ≤ 4294967296) : Does Tryz.prog 63 #[.pointer (some ⟨p, 0, none⟩), sv] w0 fun v w' => ∃ rv', Hp w0 (feet [cells p 125 (hsC b rv), .row 5 1 rv (hrB b).length (bys (hrB b))]) w' [cells p 125 (hsC (b ++ l) rv'), .row 5 1 rv' (hrB (b ++ l)).length (bys (hrB (b ++ l)))] := by
 obtain ⟨A, c, rfl⟩ := sl_shape (hs w0 (Mod.refl _ _))
 have hml := (hs w0 (Mod.refl _ _)).blen
 have hrl := hrB_length b
 have hbl : (b ++ l).length = b.length + m := by rw [List.length_append, hml]
 refine does_of (l := [.pointer (some ⟨p, 0, none⟩), .slice A m c]) Tryz.func63 (by kernel_rfl) rfl Tryz.ntmps63 rfl rfl (by kernel_rfl) ?_
 have hp := h0
 refine GW_seq ?_
 refine GW_region ?_
 refine GL_rd (v := .pointer (some ⟨_, _, none⟩)) (wn_none rfl) rfl (rd_move rfl rfl) ?_
 refine GL_rd (wn_none rfl) rfl (rd_nilCheck rfl rfl) ?_
 refine GL_rd (wn_none rfl) rfl (rd_field rfl rfl fa125_2 _ rfl) ?_
 refine GL_rd (wn_none rfl) rfl (rd_load rfl rfl Tryz.underlying62 rfl ((cell_of_cells (hp.get 0 rfl) _).trans (hsM_get9 _ _ _))) ?_
 refine GL_rd (v := .slice _ _ _) (wn_none rfl) rfl (rd_move rfl rfl) ?_
 refine GL_rd (wn_none rfl) rfl (rd_len rfl rfl Tryz.underlying35) ?_
 refine GL_rd (wn_none rfl) rfl (rd_convE (q := (m : Int)) rfl rfl Tryz.underlying62 Tryz.underlying3 (by simp) (IntWalk.u64_in _ (by omega))) ?_
 refine GL_rd (wn_none rfl) rfl (rd_bin rfl rfl rfl (bo_int (q := ((b ++ l).length : Int)) bo_add (by rw [IntWalk.u64_in _ (by omega), hbl]; omega))) ?_
 refine GL_rd (wn_none rfl) rfl (rd_nilCheck rfl rfl) ?_
 refine GL_rd (wn_none rfl) rfl (rd_field rfl rfl fa125_2 _ rfl) ?_
 refine GL_store (i := 0) (wn_none rfl) rfl rfl rfl rfl ts62 rfl rfl (one1 rfl) hp rfl (Nat.le_of_ble_eq_true rfl) (hsM_n _ _ _ _) ?_
 intro w hp
 refine GL_nil ?_
 refine GW_seq ?_
 refine GW_region ?_
 refine GL_rd (v := .pointer (some ⟨_, _, none⟩)) (wn_none rfl) rfl (rd_move rfl rfl) ?_
 refine GL_rd (wn_none rfl) rfl (rd_nilCheck rfl rfl) ?_
 refine GL_rd (wn_none rfl) rfl (rd_field rfl rfl fa125_1 _ rfl) ?_
 refine GL_rd (wn_none rfl) rfl (rd_load rfl rfl Tryz.underlying35 rfl ((cell_of_cells (hp.get 0 rfl) _).trans (hsM_get8 _ _ _))) ?_
 refine GL_rd (v := .slice _ _ _) (wn_none rfl) rfl (rd_move rfl rfl) ?_
 refine GL_append (i := 1) (wn_none rfl) rfl rfl rfl rfl Tryz.underlying35 ti5 rfl (by decide) hp rfl (hs _ hp.mod) (bys_one _) (by omega) (by omega) ?_
 intro v w hp
 obtain ⟨Av, cv, rfl⟩ := row_shape (hp.get 1 rfl)
 rw [← bys_append] at hp
 refine GL_rd (v := .slice _ _ _) (wn_none rfl) rfl (rd_assign rfl rfl) ?_
 refine GL_nil ?_
 refine GW_seq ?_
 refine GW_block ?_
 refine GW_loop ?_
 refine Lp_ind (α := Nat × Option Addr × Nat × Nat) (fun a_0 f_0 w' => match a_0 with | (k, A2, n2, c2) => ∃ fz, f_0 = (upd (upd fz 0 (.pointer (some ⟨p, 0, none⟩))) 4 (.slice A2 n2 c2)) ∧ Hp w0 (feet [cells p 125 (hsC b rv), .row 5 1 rv (hrB b).length (bys (hrB b))]) w' [cells p 125 (hsM (foldB (hwB b) (hrB b ++ l) k) rv (b ++ l).length), .row 5 1 (.slice Av ((hrB b).length + m) cv) ((hrB b).length + m) (bys (hrB b ++ l))] ∧ (n2 + 64 * k = ((hrB b).length + m)) ∧ (∀ w1, Sl w1 (.slice Av ((hrB b).length + m) cv) 1 ((hrB b).length + m) (bys (hrB b ++ l)) → Sl w1 (.slice A2 n2 c2) 1 n2 (bys (List.drop (64 * k) (hrB b ++ l))))) (fun a_0 => match a_0 with | (k, A2, n2, c2) => ((hrB b).length + m) - 64 * k) ?_ (0, Av, ((hrB b).length + m), cv) _ _ ?_
 ·rintro ⟨k, A2, n2, c2⟩ f wz ⟨fz, rfl, hp, hn2, hsf⟩ ihL0
  refine Lp_round ?_
  refine GW_seq ?_
  refine GW_seq ?_
  refine GW_region ?_
  refine GL_rd (v := .slice _ _ _) (wn_none rfl) rfl (rd_move rfl rfl) ?_
  refine GL_rd (wn_none rfl) rfl (rd_len rfl rfl Tryz.underlying35) ?_
  refine GL_rd (wn_none rfl) rfl (rd_bin rfl rfl rfl bo_geq) ?_
  refine GL_nil ?_
  refine GW_cond rfl (fun hb => ?_) (fun hb => ?_)
  ·(try simp only [decide_eq_true_eq, decide_eq_false_iff_not, Bool.not_eq_true', Bool.not_eq_false', Bool.not_eq_eq_eq_not, Bool.not_true, Bool.not_false, Int.not_lt, Int.not_le] at hb)
   refine GW_skip ?_
   refine GW_block ?_
   refine GW_seq ?_
   refine GW_drawnK 10 (.one 0 true (.one 1 true (.one 2 true (.one 3 true (.one 4 true (.one 5 true (.one 6 true (.one 7 false (.one 8 true (.one 9 true (.one 10 false .nil))))))))))) mixed (by kernel_rfl) hp (fun _ h => h) fun w hp => ?_
   have hpS := hp
   refine GO_rdT (v := .pointer (some ⟨_, _, none⟩)) rfl (wn_none rfl) rfl (fun w => (rd_move rfl rfl)) ?_
   refine GO_rdT (v := .pointer (some ⟨_, _, none⟩)) rfl (wn_none rfl) rfl (fun w => (rd_move rfl rfl)) ?_
   refine GO_rdT rfl (wn_none rfl) rfl (fun w => (rd_nilCheck rfl rfl)) ?_
   refine GO_rdT rfl (wn_none rfl) rfl (fun w => (rd_field rfl rfl fa125_0 _ rfl)) ?_
   refine GO_rd rfl rfl (wn_none rfl) rfl hpS (fun w hp => (rd_loadN (L := stC (foldB (hwB b) (hrB b ++ l) k)) rfl rfl Tryz.underlying113 rfl ts113 (stC_length _) (fun j u hj => by rw [Nat.zero_add]; exact (cell_of_cells (hp.get 0 rfl) j).trans (hsM_words hj)))) ?_
   refine GO_rdT (v := .slice _ _ _) rfl (wn_none rfl) rfl (fun w => (rd_move rfl rfl)) ?_
   refine GO_rd rfl rfl (wn_none rfl) rfl hpS (fun w hp => (rd_sliceS (lo := 0) (hi := 64) rfl rfl Tryz.underlying35 ts5 at_none (at_some rfl rfl) (by decide) (by have := (Sl.cap (hsf _ (Sl.row (hp.own (.row 5 1 (.slice Av ((hrB b).length + m) cv) ((hrB b).length + m) (bys (hrB b ++ l))) (by simp))))).1; omega))) ?_
   refine GO_of_GL rfl ?_
   refine GL_call (wn_none rfl) rfl rfl (dig_mix (foldB (hwB b) (hrB b ++ l) k) _ _ _ _ (Sl.cutB (hsf _ (Sl.row (hp.own (.row 5 1 (.slice Av ((hrB b).length + m) cv) ((hrB b).length + m) (bys (hrB b ++ l))) (by simp)))) 0 64 (by decide) (by omega)) (by decide)) rfl ?_
   rintro _ w ⟨rfl, hk⟩
   have hp := hp.comp hk
   have hpS2 := hp
   refine GL_nil ⟨fun _ => hpS2, ?_⟩
   refine GO_rdT rfl (wn_none rfl) rfl (fun w => (rd_nilCheck rfl rfl)) ?_
   refine GO_rdT rfl (wn_none rfl) rfl (fun w => (rd_field rfl rfl fa125_0 _ rfl)) ?_
   refine GO_of_GL rfl ?_
   refine GL_store (i := 0) (wn_none rfl) rfl rfl rfl rfl ts113 rfl (stC_length _) (stC_one _) hp rfl (Nat.le_of_ble_eq_true rfl) (hsM_put _ _ _ _) ?_
   intro w hp
   refine GL_nil ⟨fun h => absurd h (by decide), ?_⟩
   refine GO_nil ?_
   obtain ⟨A3, c3, hA3, hc3⟩ : ∃ A3 c3, (if c2 = 64 then A2 else A2.map (·.add (64 * 1))) = A3 ∧ c2 - 64 = c3 := ⟨_, _, rfl, rfl⟩
   refine GW_region ?_
   refine GL_rd (v := .slice _ _ _) (wn_none rfl) rfl (rd_move rfl rfl) ?_
   refine GL_rd (wn_none rfl) rfl (rd_sliceE (lo := 64) (hi := n2) rfl rfl Tryz.underlying35 ts5 (at_some rfl rfl) to_none (by omega) (by have := (Sl.cap (hsf _ (Sl.row (hp.own (.row 5 1 (.slice Av ((hrB b).length + m) cv) ((hrB b).length + m) (bys (hrB b ++ l))) (by simp))))).1; omega) hA3 rfl hc3) ?_
   refine GL_rd (v := .slice _ _ _) (wn_none rfl) rfl (rd_assign rfl rfl) ?_
   refine GL_nil ?_
   exact ihL0 (k + 1, A3, n2 - 64, c3) _ _ (by simp only []; omega) ⟨_, slots2 rfl rfl, hp, by omega, fun w1 h1 => tail64 (hsf w1 h1) (by omega) hA3 hc3⟩
  ·(try simp only [decide_eq_true_eq, decide_eq_false_iff_not, Bool.not_eq_true', Bool.not_eq_false', Bool.not_eq_eq_eq_not, Bool.not_true, Bool.not_false, Int.not_lt, Int.not_le] at hb)
   refine GW_exit ?_
   refine GW_region ?_
   refine GL_rd (v := .pointer (some ⟨_, _, none⟩)) (wn_none rfl) rfl (rd_move rfl rfl) ?_
   refine GL_lit (L := []) (wn_none rfl) rfl rfl Tryz.underlying35 ts5 tz5 rfl (by kernel_rfl) rfl rfl hp ?_
   intro g w hp
   refine GL_rd (v := .slice _ _ _) (wn_none rfl) rfl (rd_move rfl rfl) ?_
   refine GL_append (i := 0) (wn_none rfl) rfl rfl rfl rfl Tryz.underlying35 ti5 rfl (by decide) hp rfl (hsf _ (Sl.row (hp.own (.row 5 1 (.slice Av ((hrB b).length + m) cv) ((hrB b).length + m) (bys (hrB b ++ l))) (by simp)))) (bys_one _) (by omega) (by omega) ?_
   intro v2 w hp
   obtain ⟨Av2, cv2, rfl⟩ := row_shape (hp.get 0 rfl)
   refine GL_rd (wn_none rfl) rfl (rd_nilCheck rfl rfl) ?_
   refine GL_rd (wn_none rfl) rfl (rd_field rfl rfl fa125_1 _ rfl) ?_
   refine GL_store (i := 1) (wn_none rfl) rfl rfl rfl rfl ts35 rfl rfl (one1 rfl) hp rfl (Nat.le_of_ble_eq_true rfl) (hsM_rest _ _ _ _) ?_
   intro w hp
   refine GL_nil ?_
   have hg := grow_done b l k (by rw [List.length_append]; omega) (by rw [List.length_append]; omega)
   have hp := (((hp.front 0 rfl).front 1 rfl).take 2)
   have e : 0 + n2 = (hrB (b ++ l)).length := by rw [← hg.2, List.length_drop, List.length_append]; omega
   rw [hg.1, hg.2, e] at hp
   exact ⟨_, res0 Tryz.results63 , _, hp⟩
 ·refine ⟨_, slots2 rfl rfl, hp, by omega, fun _ h => h⟩
set_option maxHeartbeats 1000000 in
theorem dig_Sum (p : Nat) (b : List UInt8) (rv : Value) (w0 : World) (h0 : (cells p 125 (hsC b rv)).at_ w0) (hr : Sl w0 rv 1 (hrB b).length (bys (hrB b))) (hb : b.length ≤ 4294967296) : Does Tryz.prog 64 #[.pointer (some ⟨p, 0, none⟩)] w0 fun v w' => v = .agg ⟨bys (sumB b)⟩ ∧ Hp w0 [] w' [] := by
 have hrl := hrB_length b
 have hpz := padZ_lt (hrB b).length
 have hem := endB_mod (hrB b) b.length
 have hel := endB_length (hrB b) b.length
 refine does_of (l := [.pointer (some ⟨p, 0, none⟩)]) Tryz.func64 (by kernel_rfl) rfl Tryz.ntmps64 rfl rfl (by kernel_rfl) ?_
 have hp := Hp.refl w0 []
 refine GW_seq ?_
 refine GW_region ?_
 refine GL_alloc (wn_none rfl) rfl rfl tz30 rfl hp ?_
 intro g w hp
 refine GL_nil ?_
 refine GW_seq ?_
 refine GW_region ?_
 refine GL_lit (L := (bys [])) (wn_none rfl) rfl rfl Tryz.underlying35 ts5 tz5 rfl (by kernel_rfl) rfl rfl hp ?_
 intro g2 w hp
 refine GL_rd (v := .pointer (some ⟨_, _, none⟩)) (wn_none rfl) rfl (rd_move rfl rfl) ?_
 refine GL_rd (wn_none rfl) rfl (rd_nilCheck rfl rfl) ?_
 refine GL_rd (wn_none rfl) rfl (rd_field rfl rfl fa125_1 _ rfl) ?_
 refine GL_rd (wn_none rfl) rfl (rd_load rfl rfl Tryz.underlying35 rfl ((cell_of_cells (Res.kept h0 hp.mod (by simp)) _).trans (hsM_get8 _ _ _))) ?_
 refine GL_append (i := 0) (wn_none rfl) rfl rfl rfl rfl Tryz.underlying35 ti5 rfl (by decide) hp rfl (hr.keep hp.mod) (bys_one _) (by omega) (by omega) ?_
 intro v w hp
 obtain ⟨Av, cv, rfl⟩ := row_shape (hp.get 0 rfl)
 rw [← bys_append] at hp
 refine GL_lit (L := (bys [128])) (wn_none rfl) rfl rfl Tryz.underlying35 ts5 tz5 rfl (by kernel_rfl) rfl rfl hp ?_
 intro g3 w hp
 refine GL_append (i := 1) (wn_none rfl) rfl rfl rfl rfl Tryz.underlying35 ti5 rfl (by decide) hp rfl (Sl.row (hp.get 0 rfl)) (bys_one _) (by omega) (by omega) ?_
 intro v2 w hp
 obtain ⟨Av2, cv2, rfl⟩ := row_shape (hp.get 1 rfl)
 rw [← bys_append] at hp
 refine GL_rd (v := .slice _ _ _) (wn_none rfl) rfl (rd_assign rfl rfl) ?_
 refine GL_nil ?_
 refine GW_seq ?_
 refine GW_block ?_
 refine GW_loop ?_
 refine Lp_ind (α := Nat × Nat × Option Addr × Nat × List UInt8) (fun a_0 f_0 w' => match a_0 with | (i, n, A2, c2, xs) => ∃ fz, f_0 = (upd (upd (upd fz 0 (.pointer (some ⟨p, 0, none⟩))) 2 (.pointer (some ⟨g, 0, none⟩))) 3 (.slice A2 n c2)) ∧ Hp w0 [] w' [.row 5 1 (.slice A2 n c2) n (bys xs), cells g 30 (List.replicate 32 (.int .u8 0))] ∧ (i ≤ padZ (hrB b).length) ∧ (n = (hrB b).length + 1 + i) ∧ (xs = hrB b ++ [128] ++ List.replicate i 0)) (fun a_0 => match a_0 with | (i, n, A2, c2, xs) => padZ (hrB b).length - i) ?_ (0, 0 + (hrB b).length + 1, Av2, cv2, [] ++ hrB b ++ [128]) _ _ ?_
 ·rintro ⟨i, n, A2, c2, xs⟩ f wz ⟨fz, rfl, hp, hi0, hn, hx⟩ ihL0
  refine Lp_round ?_
  refine GW_seq ?_
  refine GW_seq ?_
  refine GW_region ?_
  refine GL_rd (v := .slice _ _ _) (wn_none rfl) rfl (rd_move rfl rfl) ?_
  refine GL_rd (wn_none rfl) rfl (rd_len rfl rfl Tryz.underlying35) ?_
  refine GL_rd (wn_none rfl) rfl (rd_bin rfl rfl rfl (bo_rem64 (by omega) (by omega))) ?_
  refine GL_rd (wn_none rfl) rfl (rd_bin rfl rfl rfl bo_neq) ?_
  refine GL_nil ?_
  refine GW_cond rfl (fun hb => ?_) (fun hb => ?_)
  ·(try simp only [decide_eq_true_eq, decide_eq_false_iff_not, Bool.not_eq_true', Bool.not_eq_false', Bool.not_eq_eq_eq_not, Bool.not_true, Bool.not_false, Int.not_lt, Int.not_le] at hb)
   refine GW_skip ?_
   refine GW_block ?_
   refine GW_region ?_
   refine GL_rd (v := .slice _ _ _) (wn_none rfl) rfl (rd_move rfl rfl) ?_
   refine GL_lit (L := (bys [0])) (wn_none rfl) rfl rfl Tryz.underlying35 ts5 tz5 rfl (by kernel_rfl) rfl rfl hp ?_
   intro g4 w hp
   refine GL_append (i := 1) (wn_none rfl) rfl rfl rfl rfl Tryz.underlying35 ti5 rfl (by decide) hp rfl (Sl.row (hp.get 0 rfl)) (bys_one _) (by omega) (by omega) ?_
   intro v3 w hp
   obtain ⟨Av3, cv3, rfl⟩ := row_shape (hp.get 1 rfl)
   rw [← bys_append] at hp
   refine GL_rd (v := .slice _ _ _) (wn_none rfl) rfl (rd_assign rfl rfl) ?_
   refine GL_nil ?_
   have hp := (((hp.front 2 rfl).front 2 rfl).take 2)
   exact ihL0 (i + 1, _, _, _, _) _ _ (by simp only []; omega) ⟨_, slots3 rfl rfl rfl, hp, padZ_step hi0 (by omega), by omega, by rw [hx, List.append_assoc, ← List.replicate_succ']⟩
  ·(try simp only [decide_eq_true_eq, decide_eq_false_iff_not, Bool.not_eq_true', Bool.not_eq_false', Bool.not_eq_eq_eq_not, Bool.not_true, Bool.not_false, Int.not_lt, Int.not_le] at hb)
   have hpe : i = padZ (hrB b).length := padZ_stop hi0 (by omega)
   subst hpe
   refine GW_exit ?_
   refine GW_seq ?_
   refine GW_seq ?_
   refine GW_region ?_
   refine GL_rd (v := .int _ _) (wn_none rfl) rfl (rd_assign rfl rfl) ?_
   refine GL_nil ?_
   refine GW_block ?_
   refine GW_loop ?_
   refine Lp_ind (α := Nat × Nat × Option Addr × Nat × List UInt8) (fun a_0 f_0 w' => match a_0 with | (j, n, A2, c2, xs) => ∃ fz, f_0 = (upd (upd (upd (upd fz 0 (.pointer (some ⟨p, 0, none⟩))) 2 (.pointer (some ⟨g, 0, none⟩))) 3 (.slice A2 n c2)) 4 (.int .i64 (7 - (j : Int)))) ∧ Hp w0 [] w' [.row 5 1 (.slice A2 n c2) n (bys xs), cells g 30 (List.replicate 32 (.int .u8 0))] ∧ (j ≤ 8) ∧ (n = (hrB b).length + 1 + padZ (hrB b).length + j) ∧ (xs = hrB b ++ [128] ++ List.replicate (padZ (hrB b).length) 0 ++ lenP (8 * b.length) j)) (fun a_0 => match a_0 with | (j, n, A2, c2, xs) => 8 - j) ?_ (0, n, A2, c2, xs) _ _ ?_
   ·rintro ⟨j, n, A2, c2, xs⟩ f wz ⟨fz, rfl, hp, hj0, hn, hx⟩ ihL1
    refine Lp_round ?_
    refine GW_seq ?_
    refine GW_seq ?_
    refine GW_region ?_
    refine GL_rd (v := .int _ _) (wn_none rfl) rfl (rd_move rfl rfl) ?_
    refine GL_rd (wn_none rfl) rfl (rd_bin rfl rfl rfl bo_geq) ?_
    refine GL_nil ?_
    refine GW_cond rfl (fun hb2 => ?_) (fun hb2 => ?_)
    ·(try simp only [decide_eq_true_eq, decide_eq_false_iff_not, Bool.not_eq_true', Bool.not_eq_false', Bool.not_eq_eq_eq_not, Bool.not_true, Bool.not_false, Int.not_lt, Int.not_le] at hb2)
     refine GW_skip ?_
     refine GW_seq ?_
     refine GW_block ?_
     refine GW_region ?_
     refine GL_rd (v := .slice _ _ _) (wn_none rfl) rfl (rd_move rfl rfl) ?_
     refine GL_rd (v := .pointer (some ⟨_, _, none⟩)) (wn_none rfl) rfl (rd_move rfl rfl) ?_
     refine GL_rd (wn_none rfl) rfl (rd_nilCheck rfl rfl) ?_
     refine GL_rd (wn_none rfl) rfl (rd_field rfl rfl fa125_2 _ rfl) ?_
     refine GL_rd (wn_none rfl) rfl (rd_load rfl rfl Tryz.underlying62 rfl ((cell_of_cells (Res.kept h0 hp.mod (by simp)) _).trans (hsM_get9 _ _ _))) ?_
     refine GL_rd (wn_none rfl) rfl (rd_bin rfl rfl rfl (bo_int (q := ((8 * b.length : Nat) : Int)) bo_mul (by rw [IntWalk.u64_in _ (by omega)]; omega))) ?_
     refine GL_rd (v := .int _ _) (wn_none rfl) rfl (rd_move rfl rfl) ?_
     refine GL_rd (wn_none rfl) rfl (rd_bin rfl rfl rfl (bo_int (q := ((56 - 8 * j : Nat) : Int)) (bo_mul64 (by omega)) (by omega))) ?_
     refine GL_rd (wn_none rfl) rfl (rd_bin rfl rfl rfl (bo_shrU (8 * b.length) (56 - 8 * j) (by omega))) ?_
     refine GL_rd (wn_none rfl) rfl (conv_u8 rfl rfl Tryz.underlying5 Tryz.underlying62 (by simp)) ?_
     refine GL_lit (L := (bys [UInt8.ofNat (8 * b.length / 2 ^ (56 - 8 * j))])) (wn_none rfl) rfl rfl Tryz.underlying35 ts5 tz5 rfl (by kernel_rfl) rfl rfl hp ?_
     intro g5 w hp
     refine GL_append (i := 1) (wn_none rfl) rfl rfl rfl rfl Tryz.underlying35 ti5 rfl (by decide) hp rfl (Sl.row (hp.get 0 rfl)) (bys_one _) (by omega) (by omega) ?_
     intro v4 w hp
     obtain ⟨Av4, cv4, rfl⟩ := row_shape (hp.get 1 rfl)
     rw [← bys_append] at hp
     refine GL_rd (v := .slice _ _ _) (wn_none rfl) rfl (rd_assign rfl rfl) ?_
     refine GL_nil ?_
     refine GW_region ?_
     refine GL_rd (v := .int _ _) (wn_none rfl) rfl (rd_move rfl rfl) ?_
     refine GL_rd (wn_none rfl) rfl (rd_bin rfl rfl rfl (bo_int (q := 7 - ((j + 1 : Nat) : Int)) (bo_sub64 (by omega)) (by omega))) ?_
     refine GL_rd (v := .int _ _) (wn_none rfl) rfl (rd_assign rfl rfl) ?_
     refine GL_nil ?_
     have hp := (((hp.front 2 rfl).front 2 rfl).take 2)
     exact ihL1 (j + 1, _, _, _, _) _ _ (by simp only []; omega) ⟨_, slots4 rfl rfl rfl rfl, hp, by omega, by omega, by rw [hx, lenP_succ, List.append_assoc]⟩
    ·(try simp only [decide_eq_true_eq, decide_eq_false_iff_not, Bool.not_eq_true', Bool.not_eq_false', Bool.not_eq_eq_eq_not, Bool.not_true, Bool.not_false, Int.not_lt, Int.not_le] at hb2)
     obtain rfl : j = 8 := by omega
     subst hn hx
     refine GW_exit ?_
     refine GW_seq ?_
     refine GW_region ?_
     refine GL_rd (v := .pointer (some ⟨_, _, none⟩)) (wn_none rfl) rfl (rd_move rfl rfl) ?_
     refine GL_rd (wn_none rfl) rfl (rd_nilCheck rfl rfl) ?_
     refine GL_rd (wn_none rfl) rfl (rd_field rfl rfl fa125_0 _ rfl) ?_
     refine GL_rd (wn_none rfl) rfl (rd_loadN (L := stC (hwB b)) rfl rfl Tryz.underlying113 rfl ts113 (stC_length _) (fun j u hj => by rw [Nat.zero_add]; exact (cell_of_cells (Res.kept h0 hp.mod (by simp)) j).trans (hsM_words hj))) ?_
     refine GL_alloc (wn_none rfl) rfl rfl tz113 rfl hp ?_
     intro g6 w hp
     refine GL_store (i := 0) (wn_none rfl) rfl rfl rfl rfl ts113 rfl (stC_length _) (stC_one _) hp rfl (Nat.le_of_ble_eq_true rfl) (splice_all _ _ (by rw [stC_length]; rfl)) ?_
     intro w hp
     refine GL_nil ?_
     refine GW_seq ?_
     refine GW_block ?_
     refine GW_loop ?_
     refine Lp_ind (α := Nat × Option Addr × Nat × Nat) (fun a_0 f_0 w' => match a_0 with | (k, A5, n5, c5) => ∃ fz, f_0 = (upd (upd (upd fz 2 (.pointer (some ⟨g, 0, none⟩))) 3 (.slice A5 n5 c5)) 5 (.pointer (some ⟨g6, 0, none⟩))) ∧ Hp w0 [] w' [cells g6 113 (stC (foldB (hwB b) (endB (hrB b) b.length) k)), .row 5 1 (.slice A2 ((hrB b).length + 1 + padZ (hrB b).length + 8) c2) ((hrB b).length + 1 + padZ (hrB b).length + 8) (bys (endB (hrB b) b.length)), cells g 30 (List.replicate 32 (.int .u8 0))] ∧ (n5 + 64 * k = ((hrB b).length + 1 + padZ (hrB b).length + 8)) ∧ (∀ w1, Sl w1 (.slice A2 ((hrB b).length + 1 + padZ (hrB b).length + 8) c2) 1 ((hrB b).length + 1 + padZ (hrB b).length + 8) (bys (endB (hrB b) b.length)) → Sl w1 (.slice A5 n5 c5) 1 n5 (bys (List.drop (64 * k) (endB (hrB b) b.length))))) (fun a_0 => match a_0 with | (k, A5, n5, c5) => n5) ?_ (0, A2, ((hrB b).length + 1 + padZ (hrB b).length + 8), c2) _ _ ?_
     ·rintro ⟨k, A5, n5, c5⟩ f wz ⟨fz, rfl, hp, hn5, hsf⟩ ihL2
      refine Lp_round ?_
      refine GW_seq ?_
      refine GW_seq ?_
      refine GW_region ?_
      refine GL_rd (v := .slice _ _ _) (wn_none rfl) rfl (rd_move rfl rfl) ?_
      refine GL_rd (wn_none rfl) rfl (rd_len rfl rfl Tryz.underlying35) ?_
      refine GL_rd (wn_none rfl) rfl (rd_bin rfl rfl rfl bo_gtr) ?_
      refine GL_nil ?_
      refine GW_cond rfl (fun hb3 => ?_) (fun hb3 => ?_)
      ·(try simp only [decide_eq_true_eq, decide_eq_false_iff_not, Bool.not_eq_true', Bool.not_eq_false', Bool.not_eq_eq_eq_not, Bool.not_true, Bool.not_false, Int.not_lt, Int.not_le] at hb3)
       refine GW_skip ?_
       refine GW_seq ?_
       refine GW_block ?_
       refine GW_drawnK 4 (.one 0 true (.one 1 true (.one 2 true (.one 3 false (.one 4 false .nil))))) mixed (by kernel_rfl) hp (fun _ h => h) fun w hp => ?_
       have hpS := hp
       refine GO_rd rfl rfl (wn_none rfl) rfl hpS (fun w hp => (rd_loadN (L := stC (foldB (hwB b) (endB (hrB b) b.length) k)) rfl rfl Tryz.underlying113 rfl ts113 (stC_length _) (fun j u hj => by rw [Nat.zero_add]; exact (cell_of_cells (hp.get 0 rfl) j).trans hj))) ?_
       refine GO_rdT (v := .slice _ _ _) rfl (wn_none rfl) rfl (fun w => (rd_move rfl rfl)) ?_
       refine GO_rd rfl rfl (wn_none rfl) rfl hpS (fun w hp => (rd_sliceS (lo := 0) (hi := 64) rfl rfl Tryz.underlying35 ts5 at_none (at_some rfl rfl) (by decide) (by have := (Sl.cap (hsf _ (Sl.row (hp.own (.row 5 1 (.slice A2 ((hrB b).length + 1 + padZ (hrB b).length + 8) c2) ((hrB b).length + 1 + padZ (hrB b).length + 8) (bys (endB (hrB b) b.length))) (by simp))))).1; omega))) ?_
       refine GO_of_GL rfl ?_
       refine GL_call (wn_none rfl) rfl rfl (dig_mix (foldB (hwB b) (endB (hrB b) b.length) k) _ _ _ _ (Sl.cutB (hsf _ (Sl.row (hp.own (.row 5 1 (.slice A2 ((hrB b).length + 1 + padZ (hrB b).length + 8) c2) ((hrB b).length + 1 + padZ (hrB b).length + 8) (bys (endB (hrB b) b.length))) (by simp)))) 0 64 (by decide) (by omega)) (by decide)) rfl ?_
       rintro _ w ⟨rfl, hk⟩
       have hp := hp.comp hk
       have hpS2 := hp
       refine GL_nil ⟨fun _ => hpS2, ?_⟩
       refine GO_of_GL rfl ?_
       refine GL_store (i := 0) (wn_none rfl) rfl rfl rfl rfl ts113 rfl (stC_length _) (stC_one _) hp rfl (by rw [stC_length]; omega) (splice_all _ _ (by rw [stC_length, stC_length])) ?_
       intro w hp
       refine GL_nil ⟨fun h => absurd h (by decide), ?_⟩
       refine GO_nil ?_
       obtain ⟨A3, c3, hA3, hc3⟩ : ∃ A3 c3, (if c5 = 64 then A5 else A5.map (·.add (64 * 1))) = A3 ∧ c5 - 64 = c3 := ⟨_, _, rfl, rfl⟩
       refine GW_region ?_
       refine GL_rd (v := .slice _ _ _) (wn_none rfl) rfl (rd_move rfl rfl) ?_
       refine GL_rd (wn_none rfl) rfl (rd_sliceE (lo := 64) (hi := n5) rfl rfl Tryz.underlying35 ts5 (at_some rfl rfl) to_none (by omega) (by have := (Sl.cap (hsf _ (Sl.row (hp.own (.row 5 1 (.slice A2 ((hrB b).length + 1 + padZ (hrB b).length + 8) c2) ((hrB b).length + 1 + padZ (hrB b).length + 8) (bys (endB (hrB b) b.length))) (by simp))))).1; omega) hA3 rfl hc3) ?_
       refine GL_rd (v := .slice _ _ _) (wn_none rfl) rfl (rd_assign rfl rfl) ?_
       refine GL_nil ?_
       exact ihL2 (k + 1, A3, n5 - 64, c3) _ _ (by simp only []; omega) ⟨_, slots3 rfl rfl rfl, hp, by omega, fun w1 h1 => tail64 (hsf w1 h1) (by omega) hA3 hc3⟩
      ·(try simp only [decide_eq_true_eq, decide_eq_false_iff_not, Bool.not_eq_true', Bool.not_eq_false', Bool.not_eq_eq_eq_not, Bool.not_true, Bool.not_false, Int.not_lt, Int.not_le] at hb3)
       obtain rfl : n5 = 0 := by omega
       refine GW_exit ?_
       refine GW_seq ?_
       refine GW_region ?_
       refine GL_alloc (wn_none rfl) rfl rfl tz30 rfl hp ?_
       intro g7 w hp
       refine GL_nil ?_
       refine GW_seq ?_
       refine GW_seq ?_
       refine GW_region ?_
       refine GL_rd (v := .int _ _) (wn_none rfl) rfl (rd_move rfl rfl) ?_
       refine GL_nil ?_
       refine GW_block ?_
       refine GW_loop ?_
       refine Lp_ind (α := Nat) (fun a_0 f_0 w' => match a_0 with | i => ∃ fz, f_0 = (upd (upd (upd (upd fz 2 (.pointer (some ⟨g, 0, none⟩))) 5 (.pointer (some ⟨g6, 0, none⟩))) 6 (.pointer (some ⟨g7, 0, none⟩))) 52 (.int .i64 (i : Int))) ∧ Hp w0 [] w' [cells g7 30 (bys (outP (foldB (hwB b) (endB (hrB b) b.length) ((endB (hrB b) b.length).length / 64)) i ++ List.replicate (32 - i) 0)), cells g6 113 (stC (foldB (hwB b) (endB (hrB b) b.length) ((endB (hrB b) b.length).length / 64))), cells g 30 (List.replicate 32 (.int .u8 0))] ∧ (i ≤ 32)) (fun a_0 => match a_0 with | i => 32 - i) ?_ 0 _ _ ?_
       ·rintro i f wz ⟨fz, rfl, hp, hi0⟩ ihL3
        refine Lp_round ?_
        refine GW_seq ?_
        refine GW_region ?_
        refine GL_rd (wn_none rfl) rfl (rd_bin rfl rfl rfl bo_lss) ?_
        refine GL_nil ?_
        refine GW_seq ?_
        refine GW_cond rfl (fun hb4 => ?_) (fun hb4 => ?_)
        ·(try simp only [decide_eq_true_eq, decide_eq_false_iff_not, Bool.not_eq_true', Bool.not_eq_false', Bool.not_eq_eq_eq_not, Bool.not_true, Bool.not_false, Int.not_lt, Int.not_le] at hb4)
         refine GW_skip ?_
         refine GW_seq ?_
         refine GW_block ?_
         refine GW_seq ?_
         refine GW_region ?_
         refine GL_rd (v := .int _ _) (wn_none rfl) rfl (rd_move rfl rfl) ?_
         refine GL_rd (v := .int _ _) (wn_none rfl) rfl (rd_assign rfl rfl) ?_
         refine GL_nil ?_
         refine GW_region ?_
         refine GL_rd (v := .int _ _) (wn_none rfl) rfl (rd_move rfl rfl) ?_
         refine GL_rd (v := .int _ _) (wn_none rfl) rfl (rd_move rfl rfl) ?_
         refine GL_rd (wn_none rfl) rfl (rd_bin rfl rfl rfl (bo_int (q := ((i / 4 : Nat) : Int)) (bo_quo64 (by omega) (by omega) (by omega)) (by omega))) ?_
         refine GL_rd (wn_none rfl) rfl (rd_indexA (j := (i / 4)) rfl rfl rfl Tryz.underlying113 ts64 rfl (by omega) _ rfl) ?_
         refine GL_rd (wn_none rfl) rfl (rd_load rfl rfl Tryz.underlying64 rfl ((cell_of_cells (hp.get 1 rfl) _).trans (w32s_get1 (l := W8.l (foldB (hwB b) (endB (hrB b) b.length) ((endB (hrB b) b.length).length / 64))) (i := i / 4) (by rw [W8.len]; omega)))) ?_
         refine GL_rd (v := .int _ _) (wn_none rfl) rfl (rd_move rfl rfl) ?_
         refine GL_rd (wn_none rfl) rfl (rd_bin rfl rfl rfl (bo_rem64 (by omega) (by omega))) ?_
         refine GL_rd (wn_none rfl) rfl (rd_bin rfl rfl rfl (bo_mul64 (by omega))) ?_
         refine GL_rd (wn_none rfl) rfl (rd_bin rfl rfl rfl (bo_int (q := ((24 - 8 * (i % 4) : Nat) : Int)) (bo_sub64 (by omega)) (by omega))) ?_
         refine GL_rd (wn_none rfl) rfl (rd_bin rfl rfl rfl (bo_shr32 ((foldB (hwB b) (endB (hrB b) b.length) ((endB (hrB b) b.length).length / 64)).l.getD (i / 4) 0) (24 - 8 * (i % 4)) (by omega))) ?_
         refine GL_rd (wn_none rfl) rfl (conv_u8 rfl rfl Tryz.underlying5 Tryz.underlying64 (by simp)) ?_
         refine GL_rd (wn_none rfl) rfl (rd_indexA (j := i) rfl rfl rfl Tryz.underlying30 ts5 rfl (by omega) _ rfl) ?_
         refine GL_store (i := 0) (wn_none rfl) rfl rfl rfl rfl ts5 rfl rfl (one1 rfl) hp rfl (by rw [bys_length, List.length_append, outP_length, List.length_replicate]; omega) (out_put (by omega) rfl) ?_
         intro w hp
         refine GL_nil ?_
         refine GW_region ?_
         refine GL_rd (wn_none rfl) rfl (rd_bin rfl rfl rfl (bo_add64 (by omega))) ?_
         refine GL_rd (v := .int _ _) (wn_none rfl) rfl (rd_move rfl rfl) ?_
         refine GL_nil ?_
         exact ihL3 (i + 1) _ _ (by simp only []; omega) ⟨_, slots4 rfl rfl rfl rfl, hp, by omega⟩
        ·(try simp only [decide_eq_true_eq, decide_eq_false_iff_not, Bool.not_eq_true', Bool.not_eq_false', Bool.not_eq_eq_eq_not, Bool.not_true, Bool.not_false, Int.not_lt, Int.not_le] at hb4)
         obtain rfl : i = 32 := by omega
         rw [Nat.sub_self, List.replicate_zero, List.append_nil, sum_grown] at hp
         refine GW_exit ?_
         refine GW_seq ?_
         refine GW_region ?_
         refine GL_rd (wn_none rfl) rfl (rd_loadN (L := bys (sumB b)) rfl rfl Tryz.underlying30 rfl ts30 (by rw [bys_length, sumB_length]) (fun j u hj => by rw [Nat.zero_add]; exact (cell_of_cells (hp.get 0 rfl) j).trans hj)) ?_
         refine GL_store (i := 2) (wn_none rfl) rfl rfl rfl rfl ts30 rfl (by rw [bys_length, sumB_length]) (bys_one _) hp rfl (Nat.le_of_ble_eq_true rfl) (splice_all _ _ (by rw [bys_length, sumB_length]; rfl)) ?_
         intro w hp
         refine GL_nil ?_
         refine GW_ret ?_
         exact ⟨_, res1 Tryz.results64 (rv_cell rfl rfl Tryz.underlying30 rfl ts30 (by rw [bys_length, sumB_length]) (hp.get 2 rfl)), rfl, hp.mods⟩
       ·have hke : k = (endB (hrB b) b.length).length / 64 := by omega
        subst hke
        have hp := ((((hp.front 3 rfl).front 2 rfl).front 2 rfl).take 3)
        refine ⟨_, slots4 rfl rfl rfl rfl, hp, Nat.zero_le _⟩
     ·refine ⟨_, slots3 rfl rfl rfl, hp, by omega, fun _ h => h⟩
   ·refine ⟨_, slots4 rfl rfl rfl rfl, hp, Nat.zero_le _, by omega, by rw [hx]; simp [lenP]⟩
 ·have hp := (((hp.front 2 rfl).front 2 rfl).take 2)
  refine ⟨_, slots3 rfl rfl rfl, hp, Nat.zero_le _, by omega, by simp⟩
set_option maxHeartbeats 1000000 in
theorem dig_Of (sv : Value) (m : Nat) (L : List (Value × List UInt8)) (w0 : World) (hs : Sl w0 sv 1 m (L.map Prod.fst)) (hL : ∀ x ∈ L, Sl w0 x.1 1 x.2.length (bys x.2)) (hb : (L.flatMap Prod.snd).length ≤ 4294967296) : Does Tryz.prog 79 #[sv] w0 fun v w' => v = .agg ⟨bys (sumB (L.flatMap Prod.snd))⟩ ∧ Hp w0 [] w' [] := by
 obtain ⟨A, c, rfl⟩ := sl_shape hs
 have hml : L.length = m := by have := hs.len; rw [List.length_map] at this; omega
 have hmle := hs.le
 refine does_of (l := [.slice A m c]) Tryz.func79 (by kernel_rfl) rfl Tryz.ntmps79 rfl rfl (by kernel_rfl) ?_
 have hp := Hp.refl w0 []
 refine GW_seq ?_
 refine GW_region ?_
 refine GL_alloc (wn_none rfl) rfl rfl tz30 rfl hp ?_
 intro g w hp
 refine GL_nil ?_
 refine GW_seq ?_
 refine GW_region ?_
 refine GL_call (wn_none rfl) rfl rfl (dig_New _) rfl ?_
 rintro _ w ⟨g2, rfl, hk⟩
 have hp := hp.comp hk
 refine GL_rd (v := .pointer (some ⟨_, _, none⟩)) (wn_none rfl) rfl (rd_assign rfl rfl) ?_
 refine GL_nil ?_
 refine GW_seq ?_
 refine GW_seq ?_
 refine GW_region ?_
 refine GL_rd (v := .slice _ _ _) (wn_none rfl) rfl (rd_move rfl rfl) ?_
 refine GL_rd (wn_none rfl) rfl (rd_len rfl rfl Tryz.underlying22) ?_
 refine GL_rd (v := .int _ _) (wn_none rfl) rfl (rd_move rfl rfl) ?_
 refine GL_nil ?_
 refine GW_block ?_
 refine GW_loop ?_
 refine Lp_ind (α := Nat × Value × Option Addr) (fun a_0 f_0 w' => match a_0 with | (j, rv, A) => ∃ fz, f_0 = (upd (upd (upd (upd (upd fz 2 (.pointer (some ⟨g, 0, none⟩))) 3 (.pointer (some ⟨g2, 0, none⟩))) 7 (.slice A m c)) 8 (.int .i64 (m : Int))) 9 (.int .i64 (j : Int))) ∧ Hp w0 [] w' [cells g2 125 (hsC (laB L j) rv), .row 5 1 rv (hrB (laB L j)).length (bys (hrB (laB L j))), cells g 30 (List.replicate 32 (.int .u8 0))] ∧ (j ≤ m) ∧ (Sl w0 (.slice A m c) 1 m (L.map Prod.fst))) (fun a_0 => match a_0 with | (j, rv, A) => m - j) ?_ (0, .slice none 0 0, A) _ _ ?_
 ·rintro ⟨j, rv, A⟩ f wz ⟨fz, rfl, hp, hj0, hs⟩ ihL0
  refine Lp_round ?_
  refine GW_seq ?_
  refine GW_region ?_
  refine GL_rd (wn_none rfl) rfl (rd_bin rfl rfl rfl bo_lss) ?_
  refine GL_nil ?_
  refine GW_seq ?_
  refine GW_cond rfl (fun hb => ?_) (fun hb => ?_)
  ·(try simp only [decide_eq_true_eq, decide_eq_false_iff_not, Bool.not_eq_true', Bool.not_eq_false', Bool.not_eq_eq_eq_not, Bool.not_true, Bool.not_false, Int.not_lt, Int.not_le] at hb)
   obtain ⟨gA, bA, rfl⟩ := hs.addr (by rw [List.length_map]; omega)
   refine GW_skip ?_
   refine GW_seq ?_
   refine GW_block ?_
   refine GW_seq ?_
   refine GW_region ?_
   refine GL_rd (wn_none rfl) rfl (rd_indexS (j := j) rfl rfl rfl Tryz.underlying22 ts35 rfl (by omega) _ rfl) ?_
   refine GL_rd (wn_none rfl) rfl (rd_load rfl rfl Tryz.underlying35 rfl ((hs.keep hp.mod).get _ _ (laV_cell (i := j) (by omega)))) ?_
   refine GL_rd (v := (laV L j).1) (wn_none rfl) rfl (rd_assign rfl rfl) ?_
   refine GL_nil ?_
   refine GW_region ?_
   refine GL_rd (v := .pointer (some ⟨_, _, none⟩)) (wn_none rfl) rfl (rd_move rfl rfl) ?_
   refine GL_rd (v := (laV L j).1) (wn_none rfl) rfl (rd_move rfl rfl) ?_
   have hp := ((((hp.front 2 rfl).front 2 rfl).front 2 rfl).take 3)
   have hle := laB_le L (j + 1)
   have hsu := laB_succ (L := L) (i := j) (by omega)
   have hsl : (laB L (j + 1)).length = (laB L j).length + (laV L j).2.length := by rw [hsu, List.length_append]
   refine GL_call (wn_none rfl) rfl rfl (dig_Add g2 (laB L j) rv _ _ (laV L j).2 _ (hp.ownsT 2) (fun w' h => (hL _ (laV_mem (by omega))).keep (hp.modT 2 h)) (by omega)) rfl ?_
   rintro _ w ⟨rv2, hk⟩
   have hp := hp.turnsT 2 hk
   refine GL_nil ?_
   refine GW_region ?_
   refine GL_rd (wn_none rfl) rfl (rd_bin rfl rfl rfl (bo_add64 (by omega))) ?_
   refine GL_rd (v := .int _ _) (wn_none rfl) rfl (rd_move rfl rfl) ?_
   refine GL_nil ?_
   rw [← hsu] at hp
   exact ihL0 (j + 1, rv2, _) _ _ (by simp only []; omega) ⟨_, slots5 rfl rfl rfl rfl rfl, hp, by omega, hs⟩
  ·(try simp only [decide_eq_true_eq, decide_eq_false_iff_not, Bool.not_eq_true', Bool.not_eq_false', Bool.not_eq_eq_eq_not, Bool.not_true, Bool.not_false, Int.not_lt, Int.not_le] at hb)
   obtain rfl : m = j := by omega
   refine GW_exit ?_
   refine GW_seq ?_
   refine GW_region ?_
   refine GL_rd (v := .pointer (some ⟨_, _, none⟩)) (wn_none rfl) rfl (rd_move rfl rfl) ?_
   refine GL_call (wn_none rfl) rfl rfl (dig_Sum g2 (laB L m) rv _ (hp.get 0 rfl) (Sl.row (hp.get 1 rfl)) (by have := laB_le L m; omega)) rfl ?_
   rintro _ w ⟨rfl, hk⟩
   have hp := hp.comp hk
   refine GL_store (i := 2) (wn_none rfl) rfl rfl rfl rfl ts30 rfl (by rw [bys_length, sumB_length]) (bys_one _) hp rfl (Nat.le_of_ble_eq_true rfl) (splice_all _ _ (by rw [bys_length, sumB_length]; rfl)) ?_
   intro w hp
   refine GL_nil ?_
   refine GW_ret ?_
   have e : laB L m = L.flatMap Prod.snd := laB_all (by omega)
   rw [e] at hp
   exact ⟨_, res1 Tryz.results79 (rv_cell rfl rfl Tryz.underlying30 rfl ts30 (by rw [bys_length, sumB_length]) (hp.get 2 rfl)), rfl, hp.mods⟩
 ·have e0 : laB L 0 = [] := by simp [laB]
  have hp : Hp w0 [] w [cells g2 125 (hsC (laB L 0) (.slice none 0 0)), .row 5 1 (.slice none 0 0) (hrB (laB L 0)).length (bys (hrB (laB L 0))), cells g 30 (List.replicate 32 (.int .u8 0))] := by rw [e0]; exact hp
  refine ⟨_, slots5 rfl rfl rfl rfl rfl, hp, Nat.zero_le _, hs⟩
set_option maxRecDepth 100000 in
theorem ref_digTable (w0 : World) : Does Tryz.prog 81 #[] w0 fun v w' => Hp w0 [] w' [.row 64 1 v 64 (w32s kTab)] := by
 refine does_of (l := []) Tryz.func81 (by kernel_rfl) rfl Tryz.ntmps81 rfl rfl (by kernel_rfl) ?_
 have hp := Hp.refl w0 []
 refine GW_seq ?_
 refine GW_region ?_
 refine GL_rd (v := .slice _ _ _) (wn_none rfl) rfl (rd_assign rfl rfl) ?_
 refine GL_nil ?_
 refine GW_seq ?_
 refine GW_region ?_
 refine GL_lit (L := (w32s kTab)) (wn_none rfl) rfl rfl Tryz.underlying111 ts64 tz64 rfl (by kernel_rfl) rfl rfl hp ?_
 intro g w hp
 refine GL_rd (v := .slice _ _ _) (wn_none rfl) rfl (rd_assign rfl rfl) ?_
 refine GL_nil ?_
 refine GW_ret ?_
 exact ⟨_, res1 Tryz.results81 (rv_tmp (v := .slice _ _ _) rfl rfl), hp⟩
theorem ref_right (x : BitVec 32) (n : Nat) (w0 : World) (hn : n ≤ 32) : Does Tryz.prog 102 #[.int .u32 ((x).toNat : Int), .int .u64 (n : Int)] w0 fun v w' => v = .int .u32 ((rotB x n).toNat : Int) ∧ Hp w0 [] w' [] := by
 refine does_of (l := [.int .u32 ((x).toNat : Int), .int .u64 (n : Int)]) Tryz.func102 (by kernel_rfl) rfl Tryz.ntmps102 rfl rfl (by kernel_rfl) ?_
 have hp := Hp.refl w0 []
 refine GW_seq ?_
 refine GW_region ?_
 refine GL_rd (v := .int _ _) (wn_none rfl) rfl (rd_assign rfl rfl) ?_
 refine GL_nil ?_
 refine GW_seq ?_
 refine GW_region ?_
 refine GL_rd (v := .int _ _) (wn_none rfl) rfl (rd_move rfl rfl) ?_
 refine GL_rd (v := .int _ _) (wn_none rfl) rfl (rd_move rfl rfl) ?_
 refine GL_rd (wn_none rfl) rfl (rd_bin rfl rfl rfl (bo_shr32 x n hn)) ?_
 refine GL_rd (v := .int _ _) (wn_none rfl) rfl (rd_move rfl rfl) ?_
 refine GL_rd (v := .int _ _) (wn_none rfl) rfl (rd_move rfl rfl) ?_
 refine GL_rd (wn_none rfl) rfl (rd_bin rfl rfl rfl (bo_int (q := ((32 - n : Nat) : Int)) bo_sub (by rw [IntWalk.u64_in _ (by omega)]; omega))) ?_
 refine GL_rd (wn_none rfl) rfl (rd_bin rfl rfl rfl (bo_shlV x (32 - n) (by omega))) ?_
 refine GL_rd (wn_none rfl) rfl (rd_bin rfl rfl rfl (bo_orV _ _)) ?_
 refine GL_rd (v := .int _ _) (wn_none rfl) rfl (rd_assign rfl rfl) ?_
 refine GL_nil ?_
 refine GW_ret ?_
 exact ⟨_, res1 Tryz.results102 (rv_tmp (v := .int _ _) rfl rfl), rfl, hp.mods⟩
theorem ref_padded (sv : Value) (m : Nat) (l : List UInt8) (w0 : World) (hs : Sl w0 sv 1 m (bys l)) (hm : m ≤ 4294967296) : Does Tryz.prog 82 #[sv] w0 fun v w' => Hp w0 [] w' [.row 5 1 v (padB l).length (bys (padB l))] := by
 obtain ⟨A, c, rfl⟩ := sl_shape hs
 have hml := hs.blen
 have hmle := hs.le
 have hpz := padZ_lt m
 refine does_of (l := [.slice A m c]) Tryz.func82 (by kernel_rfl) rfl Tryz.ntmps82 rfl rfl (by kernel_rfl) ?_
 have hp := Hp.refl w0 []
 refine GW_seq ?_
 refine GW_region ?_
 refine GL_rd (v := .slice _ _ _) (wn_none rfl) rfl (rd_assign rfl rfl) ?_
 refine GL_nil ?_
 refine GW_seq ?_
 refine GW_region ?_
 refine GL_rd (v := .slice _ _ _) (wn_none rfl) rfl (rd_assign rfl rfl) ?_
 refine GL_nil ?_
 refine GW_seq ?_
 refine GW_region ?_
 refine GL_rd (v := .slice _ _ _) (wn_none rfl) rfl (rd_move rfl rfl) ?_
 refine GL_rd (v := .slice _ _ _) (wn_none rfl) rfl (rd_move rfl rfl) ?_
 have hp := hp.nilRow 5 1
 refine GL_append (i := 0) (wn_none rfl) rfl rfl rfl rfl Tryz.underlying35 ti5 rfl (by decide) hp rfl (hs.keep hp.mod) (bys_one _) (by omega) (by omega) ?_
 intro v w hp
 obtain ⟨Av, cv, rfl⟩ := row_shape (hp.get 0 rfl)
 rw [List.nil_append] at hp
 refine GL_rd (v := .slice _ _ _) (wn_none rfl) rfl (rd_assign rfl rfl) ?_
 refine GL_nil ?_
 refine GW_seq ?_
 refine GW_region ?_
 refine GL_rd (v := .slice _ _ _) (wn_none rfl) rfl (rd_move rfl rfl) ?_
 refine GL_lit (L := (bys [128])) (wn_none rfl) rfl rfl Tryz.underlying35 ts5 tz5 rfl (by kernel_rfl) rfl rfl hp ?_
 intro g w hp
 refine GL_append (i := 1) (wn_none rfl) rfl rfl rfl rfl Tryz.underlying35 ti5 rfl (by decide) hp rfl (Sl.row (hp.get 0 rfl)) (bys_one _) (by omega) (by omega) ?_
 intro v2 w hp
 obtain ⟨Av2, cv2, rfl⟩ := row_shape (hp.get 1 rfl)
 rw [← bys_append] at hp
 refine GL_rd (v := .slice _ _ _) (wn_none rfl) rfl (rd_assign rfl rfl) ?_
 refine GL_nil ?_
 refine GW_seq ?_
 refine GW_block ?_
 refine GW_loop ?_
 refine Lp_ind (α := Nat × Nat × Option Addr × Nat × List UInt8) (fun a_0 f_0 w' => match a_0 with | (i, n, A2, c2, xs) => ∃ fz, f_0 = (upd (upd fz 0 (.slice A m c)) 3 (.slice A2 n c2)) ∧ Hp w0 [] w' [.row 5 1 (.slice A2 n c2) n (bys xs)] ∧ (i ≤ padZ m) ∧ (n = m + 1 + i) ∧ (xs = l ++ [128] ++ List.replicate i 0)) (fun a_0 => match a_0 with | (i, n, A2, c2, xs) => padZ m - i) ?_ (0, 0 + m + 1, Av2, cv2, l ++ [128]) _ _ ?_
 ·rintro ⟨i, n, A2, c2, xs⟩ f wz ⟨fz, rfl, hp, hi0, hn, hx⟩ ihL0
  refine Lp_round ?_
  refine GW_seq ?_
  refine GW_seq ?_
  refine GW_region ?_
  refine GL_rd (v := .slice _ _ _) (wn_none rfl) rfl (rd_move rfl rfl) ?_
  refine GL_rd (wn_none rfl) rfl (rd_len rfl rfl Tryz.underlying35) ?_
  refine GL_rd (wn_none rfl) rfl (rd_bin rfl rfl rfl (bo_rem64 (by omega) (by omega))) ?_
  refine GL_rd (wn_none rfl) rfl (rd_bin rfl rfl rfl bo_neq) ?_
  refine GL_nil ?_
  refine GW_cond rfl (fun hb => ?_) (fun hb => ?_)
  ·(try simp only [decide_eq_true_eq, decide_eq_false_iff_not, Bool.not_eq_true', Bool.not_eq_false', Bool.not_eq_eq_eq_not, Bool.not_true, Bool.not_false, Int.not_lt, Int.not_le] at hb)
   refine GW_skip ?_
   refine GW_block ?_
   refine GW_region ?_
   refine GL_rd (v := .slice _ _ _) (wn_none rfl) rfl (rd_move rfl rfl) ?_
   refine GL_lit (L := (bys [0])) (wn_none rfl) rfl rfl Tryz.underlying35 ts5 tz5 rfl (by kernel_rfl) rfl rfl hp ?_
   intro g2 w hp
   refine GL_append (i := 1) (wn_none rfl) rfl rfl rfl rfl Tryz.underlying35 ti5 rfl (by decide) hp rfl (Sl.row (hp.get 0 rfl)) (bys_one _) (by omega) (by omega) ?_
   intro v3 w hp
   obtain ⟨Av3, cv3, rfl⟩ := row_shape (hp.get 1 rfl)
   rw [← bys_append] at hp
   refine GL_rd (v := .slice _ _ _) (wn_none rfl) rfl (rd_assign rfl rfl) ?_
   refine GL_nil ?_
   have hst := padZ_step (n := m) (i := i) hi0 (by omega)
   have hp := ((hp.front 1 rfl).take 1)
   exact ihL0 (i + 1, _, _, _, _) _ _ (by simp only []; omega) ⟨_, slots2 rfl rfl, hp, hst, by omega, by rw [hx, List.append_assoc, ← List.replicate_succ']⟩
  ·(try simp only [decide_eq_true_eq, decide_eq_false_iff_not, Bool.not_eq_true', Bool.not_eq_false', Bool.not_eq_eq_eq_not, Bool.not_true, Bool.not_false, Int.not_lt, Int.not_le] at hb)
   have hpe : i = padZ m := padZ_stop hi0 (by omega)
   subst hpe
   refine GW_exit ?_
   refine GW_seq ?_
   refine GW_region ?_
   refine GL_rd (v := .slice _ _ _) (wn_none rfl) rfl (rd_move rfl rfl) ?_
   refine GL_rd (wn_none rfl) rfl (rd_len rfl rfl Tryz.underlying35) ?_
   refine GL_rd (wn_none rfl) rfl (rd_convE (q := (m : Int)) rfl rfl Tryz.underlying62 Tryz.underlying3 (by simp) (IntWalk.u64_in _ (by omega))) ?_
   refine GL_rd (wn_none rfl) rfl (rd_bin rfl rfl rfl (bo_int (q := ((8 * m : Nat) : Int)) bo_mul (by rw [IntWalk.u64_in _ (by omega)]; omega))) ?_
   refine GL_rd (v := .int _ _) (wn_none rfl) rfl (rd_assign rfl rfl) ?_
   refine GL_nil ?_
   refine GW_seq ?_
   refine GW_seq ?_
   refine GW_region ?_
   refine GL_rd (v := .int _ _) (wn_none rfl) rfl (rd_assign rfl rfl) ?_
   refine GL_nil ?_
   refine GW_block ?_
   refine GW_loop ?_
   refine Lp_ind (α := Nat × Nat × Option Addr × Nat × List UInt8) (fun a_0 f_0 w' => match a_0 with | (j, n, A2, c2, xs) => ∃ fz, f_0 = (upd (upd (upd fz 3 (.slice A2 n c2)) 4 (.int .u64 ((8 * m : Nat) : Int))) 5 (.int .i64 (j : Int))) ∧ Hp w0 [] w' [.row 5 1 (.slice A2 n c2) n (bys xs)] ∧ (j ≤ 8) ∧ (n = m + 1 + padZ m + j) ∧ (xs = l ++ [128] ++ List.replicate (padZ m) 0 ++ lenP (8 * m) j)) (fun a_0 => match a_0 with | (j, n, A2, c2, xs) => 8 - j) ?_ (0, n, A2, c2, xs) _ _ ?_
   ·rintro ⟨j, n, A2, c2, xs⟩ f wz ⟨fz, rfl, hp, hj0, hn, hx⟩ ihL1
    refine Lp_round ?_
    refine GW_seq ?_
    refine GW_seq ?_
    refine GW_region ?_
    refine GL_rd (v := .int _ _) (wn_none rfl) rfl (rd_move rfl rfl) ?_
    refine GL_rd (wn_none rfl) rfl (rd_bin rfl rfl rfl bo_lss) ?_
    refine GL_nil ?_
    refine GW_cond rfl (fun hb2 => ?_) (fun hb2 => ?_)
    ·(try simp only [decide_eq_true_eq, decide_eq_false_iff_not, Bool.not_eq_true', Bool.not_eq_false', Bool.not_eq_eq_eq_not, Bool.not_true, Bool.not_false, Int.not_lt, Int.not_le] at hb2)
     refine GW_skip ?_
     refine GW_seq ?_
     refine GW_block ?_
     refine GW_region ?_
     refine GL_rd (v := .slice _ _ _) (wn_none rfl) rfl (rd_move rfl rfl) ?_
     refine GL_rd (v := .int _ _) (wn_none rfl) rfl (rd_move rfl rfl) ?_
     refine GL_rd (v := .int _ _) (wn_none rfl) rfl (rd_move rfl rfl) ?_
     refine GL_rd (wn_none rfl) rfl (rd_bin rfl rfl rfl (bo_mul64 (by omega))) ?_
     refine GL_rd (wn_none rfl) rfl (rd_bin rfl rfl rfl (bo_int (q := ((56 - 8 * j : Nat) : Int)) (bo_sub64 (by omega)) (by omega))) ?_
     refine GL_rd (wn_none rfl) rfl (rd_convE (q := ((56 - 8 * j : Nat) : Int)) rfl rfl Tryz.underlying88 Tryz.underlying3 (by simp) (IntWalk.u64_in _ (by omega))) ?_
     refine GL_rd (wn_none rfl) rfl (rd_bin rfl rfl rfl (bo_shrU (8 * m) (56 - 8 * j) (by omega))) ?_
     refine GL_rd (wn_none rfl) rfl (conv_u8 rfl rfl Tryz.underlying5 Tryz.underlying62 (by simp)) ?_
     refine GL_lit (L := (bys [UInt8.ofNat (8 * m / 2 ^ (56 - 8 * j))])) (wn_none rfl) rfl rfl Tryz.underlying35 ts5 tz5 rfl (by kernel_rfl) rfl rfl hp ?_
     intro g3 w hp
     refine GL_append (i := 1) (wn_none rfl) rfl rfl rfl rfl Tryz.underlying35 ti5 rfl (by decide) hp rfl (Sl.row (hp.get 0 rfl)) (bys_one _) (by omega) (by omega) ?_
     intro v4 w hp
     obtain ⟨Av4, cv4, rfl⟩ := row_shape (hp.get 1 rfl)
     rw [← bys_append] at hp
     refine GL_rd (v := .slice _ _ _) (wn_none rfl) rfl (rd_assign rfl rfl) ?_
     refine GL_nil ?_
     refine GW_region ?_
     refine GL_rd (v := .int _ _) (wn_none rfl) rfl (rd_move rfl rfl) ?_
     refine GL_rd (wn_none rfl) rfl (rd_bin rfl rfl rfl (bo_add64 (by omega))) ?_
     refine GL_rd (v := .int _ _) (wn_none rfl) rfl (rd_assign rfl rfl) ?_
     refine GL_nil ?_
     have hp := ((hp.front 1 rfl).take 1)
     exact ihL1 (j + 1, _, _, _, _) _ _ (by simp only []; omega) ⟨_, slots3 rfl rfl rfl, hp, by omega, by omega, by rw [hx, lenP_succ, List.append_assoc]⟩
    ·(try simp only [decide_eq_true_eq, decide_eq_false_iff_not, Bool.not_eq_true', Bool.not_eq_false', Bool.not_eq_eq_eq_not, Bool.not_true, Bool.not_false, Int.not_lt, Int.not_le] at hb2)
     obtain rfl : j = 8 := by omega
     refine GW_exit ?_
     refine GW_seq ?_
     refine GW_region ?_
     refine GL_rd (v := .slice _ _ _) (wn_none rfl) rfl (rd_move rfl rfl) ?_
     refine GL_rd (v := .slice _ _ _) (wn_none rfl) rfl (rd_assign rfl rfl) ?_
     refine GL_nil ?_
     refine GW_ret ?_
     have e : xs = padB l := by rw [hx, padB, endB, hml]
     subst e
     have e2 : n = (padB l).length := by rw [hn, padB, endB_length, hml]
     subst e2
     exact ⟨_, res1 Tryz.results82 (rv_tmp (v := .slice _ _ _) rfl rfl), hp⟩
   ·refine ⟨_, slots3 rfl rfl rfl, hp, Nat.zero_le _, by omega, by rw [hx]; simp [lenP]⟩
 ·have hp := ((hp.front 1 rfl).take 1)
  refine ⟨_, slots2 rfl rfl, hp, Nat.zero_le _, by omega, by simp⟩
set_option maxHeartbeats 1000000 in
theorem ref_words (sv : Value) (m a : Nat) (l : List UInt8) (w0 : World) (hs : Sl w0 sv 1 m (bys l)) (hm : a + 64 ≤ m) : Does Tryz.prog 84 #[sv, .int .i64 (a : Int)] w0 fun v w' => v = .agg ⟨w32s (schedB (List.take 64 (List.drop a l)) 64)⟩ ∧ Hp w0 [] w' [] := by
 obtain ⟨A, c, rfl⟩ := sl_shape hs
 have hml := hs.blen
 have hmle := hs.le
 obtain ⟨gA, bA, rfl⟩ := hs.addr (by rw [bys_length]; omega)
 refine does_of (l := [.slice (some ⟨gA, bA, none⟩) m c, .int .i64 (a : Int)]) Tryz.func84 (by kernel_rfl) rfl Tryz.ntmps84 rfl rfl (by kernel_rfl) ?_
 have hp := Hp.refl w0 []
 refine GW_seq ?_
 refine GW_region ?_
 refine GL_alloc (wn_none rfl) rfl rfl tz115 rfl hp ?_
 intro g w hp
 refine GL_nil ?_
 refine GW_seq ?_
 refine GW_region ?_
 refine GL_alloc (wn_none rfl) rfl rfl tz115 rfl hp ?_
 intro g2 w hp
 refine GL_nil ?_
 refine GW_seq ?_
 refine GW_seq ?_
 refine GW_region ?_
 refine GL_rd (v := .int _ _) (wn_none rfl) rfl (rd_assign rfl rfl) ?_
 refine GL_nil ?_
 refine GW_block ?_
 refine GW_loop ?_
 refine Lp_ind (α := Nat) (fun a_0 f_0 w' => match a_0 with | i => ∃ fz, f_0 = (upd (upd (upd (upd (upd fz 0 (.slice (some ⟨gA, bA, none⟩) m c)) 1 (.int .i64 (a : Int))) 4 (.pointer (some ⟨g, 0, none⟩))) 5 (.pointer (some ⟨g2, 0, none⟩))) 6 (.int .i64 (i : Int))) ∧ Hp w0 [] w' [cells g2 115 (w32s (schZ (List.take 64 (List.drop a l)) i)), cells g 115 (List.replicate 64 (.int .u32 0))] ∧ (i ≤ 16)) (fun a_0 => match a_0 with | i => 16 - i) ?_ 0 _ _ ?_
 ·rintro i f wz ⟨fz, rfl, hp, hi0⟩ ihL0
  refine Lp_round ?_
  refine GW_seq ?_
  refine GW_seq ?_
  refine GW_region ?_
  refine GL_rd (v := .int _ _) (wn_none rfl) rfl (rd_move rfl rfl) ?_
  refine GL_rd (wn_none rfl) rfl (rd_bin rfl rfl rfl bo_lss) ?_
  refine GL_nil ?_
  refine GW_cond rfl (fun hb => ?_) (fun hb => ?_)
  ·(try simp only [decide_eq_true_eq, decide_eq_false_iff_not, Bool.not_eq_true', Bool.not_eq_false', Bool.not_eq_eq_eq_not, Bool.not_true, Bool.not_false, Int.not_lt, Int.not_le] at hb)
   refine GW_skip ?_
   refine GW_seq ?_
   refine GW_block ?_
   refine GW_drawnK 43 (.one 0 true (.one 1 true (.one 2 true (.one 3 true (.one 4 true (.one 5 true (.one 6 true (.one 7 true (.one 8 true (.one 9 true (.one 10 true (.one 11 true (.one 12 true (.one 13 true (.one 14 true (.one 15 true (.one 16 true (.one 17 true (.one 18 true (.one 19 true (.one 20 true (.one 21 true (.one 22 true (.one 23 true (.one 24 true (.one 25 true (.one 26 true (.one 27 true (.one 28 true (.one 29 true (.one 30 true (.one 31 true (.one 32 true (.one 33 true (.one 34 true (.one 35 true (.one 36 true (.one 37 true (.one 38 true (.one 39 true (.one 40 true (.one 41 true (.one 42 true (.one 43 false .nil)))))))))))))))))))))))))))))))))))))))))))) mixed (by kernel_rfl) hp (fun _ h => h) fun w hp => ?_
   have hpS := hp
   refine GO_rdT (v := .int _ _) rfl (wn_none rfl) rfl (fun w => (rd_move rfl rfl)) ?_
   refine GO_rdT (v := .slice _ _ _) rfl (wn_none rfl) rfl (fun w => (rd_move rfl rfl)) ?_
   refine GO_rdT (v := .int _ _) rfl (wn_none rfl) rfl (fun w => (rd_move rfl rfl)) ?_
   refine GO_rdT (v := .int _ _) rfl (wn_none rfl) rfl (fun w => (rd_move rfl rfl)) ?_
   refine GO_rd rfl rfl (wn_none rfl) rfl hpS (fun w hp => (rd_bin rfl rfl rfl (bo_mul64 (by omega)))) ?_
   refine GO_rd rfl rfl (wn_none rfl) rfl hpS (fun w hp => (rd_bin rfl rfl rfl (bo_add64 (by omega)))) ?_
   refine GO_rdT rfl (wn_none rfl) rfl (fun w => (rd_indexS (j := (a + 4 * i)) rfl rfl rfl Tryz.underlying35 ts5 (by omega) (by omega) _ rfl)) ?_
   refine GO_rd rfl rfl (wn_none rfl) rfl hpS (fun w hp => (rd_load rfl rfl Tryz.underlying5 rfl (Sl.byte (hs.keep hp.mod) (a + 4 * i) (by omega)))) ?_
   refine GO_rd rfl rfl (wn_none rfl) rfl hpS (fun w hp => (rd_conv8 .u32 rfl rfl Tryz.underlying64 Tryz.underlying5 (by simp))) ?_
   refine GO_rd rfl rfl (wn_none rfl) rfl hpS (fun w hp => (rd_bin rfl rfl rfl (bo_int (q := ((l.getD (a + 4 * i) 0).toNat : Int) * 16777216) bo_mul (by have := (l.getD (a + 4 * i) 0).toNat_lt; exact IntWalk.u32_in _ (by omega))))) ?_
   refine GO_rdT (v := .slice _ _ _) rfl (wn_none rfl) rfl (fun w => (rd_move rfl rfl)) ?_
   refine GO_rdT (v := .int _ _) rfl (wn_none rfl) rfl (fun w => (rd_move rfl rfl)) ?_
   refine GO_rdT (v := .int _ _) rfl (wn_none rfl) rfl (fun w => (rd_move rfl rfl)) ?_
   refine GO_rd rfl rfl (wn_none rfl) rfl hpS (fun w hp => (rd_bin rfl rfl rfl (bo_mul64 (by omega)))) ?_
   refine GO_rd rfl rfl (wn_none rfl) rfl hpS (fun w hp => (rd_bin rfl rfl rfl (bo_add64 (by omega)))) ?_
   refine GO_rd rfl rfl (wn_none rfl) rfl hpS (fun w hp => (rd_bin rfl rfl rfl (bo_add64 (by omega)))) ?_
   refine GO_rdT rfl (wn_none rfl) rfl (fun w => (rd_indexS (j := (a + 4 * i + 1)) rfl rfl rfl Tryz.underlying35 ts5 (by omega) (by omega) _ rfl)) ?_
   refine GO_rd rfl rfl (wn_none rfl) rfl hpS (fun w hp => (rd_load rfl rfl Tryz.underlying5 rfl (Sl.byte (hs.keep hp.mod) (a + 4 * i + 1) (by omega)))) ?_
   refine GO_rd rfl rfl (wn_none rfl) rfl hpS (fun w hp => (rd_conv8 .u32 rfl rfl Tryz.underlying64 Tryz.underlying5 (by simp))) ?_
   refine GO_rd rfl rfl (wn_none rfl) rfl hpS (fun w hp => (rd_bin rfl rfl rfl (bo_int (q := ((l.getD (a + 4 * i + 1) 0).toNat : Int) * 65536) bo_mul (by have := (l.getD (a + 4 * i + 1) 0).toNat_lt; exact IntWalk.u32_in _ (by omega))))) ?_
   refine GO_rd rfl rfl (wn_none rfl) rfl hpS (fun w hp => (rd_bin rfl rfl rfl (bo_int (q := ((l.getD (a + 4 * i) 0).toNat : Int) * 16777216 + ((l.getD (a + 4 * i + 1) 0).toNat : Int) * 65536) bo_add (by have := (l.getD (a + 4 * i) 0).toNat_lt; have := (l.getD (a + 4 * i + 1) 0).toNat_lt; have := (l.getD (a + 4 * i + 2) 0).toNat_lt; have := (l.getD (a + 4 * i + 3) 0).toNat_lt; exact IntWalk.u32_in _ (by omega))))) ?_
   refine GO_rdT (v := .slice _ _ _) rfl (wn_none rfl) rfl (fun w => (rd_move rfl rfl)) ?_
   refine GO_rdT (v := .int _ _) rfl (wn_none rfl) rfl (fun w => (rd_move rfl rfl)) ?_
   refine GO_rdT (v := .int _ _) rfl (wn_none rfl) rfl (fun w => (rd_move rfl rfl)) ?_
   refine GO_rd rfl rfl (wn_none rfl) rfl hpS (fun w hp => (rd_bin rfl rfl rfl (bo_mul64 (by omega)))) ?_
   refine GO_rd rfl rfl (wn_none rfl) rfl hpS (fun w hp => (rd_bin rfl rfl rfl (bo_add64 (by omega)))) ?_
   refine GO_rd rfl rfl (wn_none rfl) rfl hpS (fun w hp => (rd_bin rfl rfl rfl (bo_add64 (by omega)))) ?_
   refine GO_rdT rfl (wn_none rfl) rfl (fun w => (rd_indexS (j := (a + 4 * i + 2)) rfl rfl rfl Tryz.underlying35 ts5 (by omega) (by omega) _ rfl)) ?_
   refine GO_rd rfl rfl (wn_none rfl) rfl hpS (fun w hp => (rd_load rfl rfl Tryz.underlying5 rfl (Sl.byte (hs.keep hp.mod) (a + 4 * i + 2) (by omega)))) ?_
   refine GO_rd rfl rfl (wn_none rfl) rfl hpS (fun w hp => (rd_conv8 .u32 rfl rfl Tryz.underlying64 Tryz.underlying5 (by simp))) ?_
   refine GO_rd rfl rfl (wn_none rfl) rfl hpS (fun w hp => (rd_bin rfl rfl rfl (bo_int (q := ((l.getD (a + 4 * i + 2) 0).toNat : Int) * 256) bo_mul (by have := (l.getD (a + 4 * i + 2) 0).toNat_lt; exact IntWalk.u32_in _ (by omega))))) ?_
   refine GO_rd rfl rfl (wn_none rfl) rfl hpS (fun w hp => (rd_bin rfl rfl rfl (bo_int (q := ((l.getD (a + 4 * i) 0).toNat : Int) * 16777216 + ((l.getD (a + 4 * i + 1) 0).toNat : Int) * 65536 + ((l.getD (a + 4 * i + 2) 0).toNat : Int) * 256) bo_add (by have := (l.getD (a + 4 * i) 0).toNat_lt; have := (l.getD (a + 4 * i + 1) 0).toNat_lt; have := (l.getD (a + 4 * i + 2) 0).toNat_lt; have := (l.getD (a + 4 * i + 3) 0).toNat_lt; exact IntWalk.u32_in _ (by omega))))) ?_
   refine GO_rdT (v := .slice _ _ _) rfl (wn_none rfl) rfl (fun w => (rd_move rfl rfl)) ?_
   refine GO_rdT (v := .int _ _) rfl (wn_none rfl) rfl (fun w => (rd_move rfl rfl)) ?_
   refine GO_rdT (v := .int _ _) rfl (wn_none rfl) rfl (fun w => (rd_move rfl rfl)) ?_
   refine GO_rd rfl rfl (wn_none rfl) rfl hpS (fun w hp => (rd_bin rfl rfl rfl (bo_mul64 (by omega)))) ?_
   refine GO_rd rfl rfl (wn_none rfl) rfl hpS (fun w hp => (rd_bin rfl rfl rfl (bo_add64 (by omega)))) ?_
   refine GO_rd rfl rfl (wn_none rfl) rfl hpS (fun w hp => (rd_bin rfl rfl rfl (bo_add64 (by omega)))) ?_
   refine GO_rdT rfl (wn_none rfl) rfl (fun w => (rd_indexS (j := (a + 4 * i + 3)) rfl rfl rfl Tryz.underlying35 ts5 (by omega) (by omega) _ rfl)) ?_
   refine GO_rd rfl rfl (wn_none rfl) rfl hpS (fun w hp => (rd_load rfl rfl Tryz.underlying5 rfl (Sl.byte (hs.keep hp.mod) (a + 4 * i + 3) (by omega)))) ?_
   refine GO_rd rfl rfl (wn_none rfl) rfl hpS (fun w hp => (rd_conv8 .u32 rfl rfl Tryz.underlying64 Tryz.underlying5 (by simp))) ?_
   refine GO_rd rfl rfl (wn_none rfl) rfl hpS (fun w hp => (rd_bin rfl rfl rfl (bo_int (q := ((wordB (List.take 64 (List.drop a l)) i).toNat : Int)) bo_add (by have := (l.getD (a + 4 * i) 0).toNat_lt; have := (l.getD (a + 4 * i + 1) 0).toNat_lt; have := (l.getD (a + 4 * i + 2) 0).toNat_lt; have := (l.getD (a + 4 * i + 3) 0).toNat_lt; rw [word_win l a i (by omega)]; exact IntWalk.u32_in _ (by omega))))) ?_
   refine GO_rdT rfl (wn_none rfl) rfl (fun w => (rd_indexA (j := i) rfl rfl rfl Tryz.underlying115 ts64 rfl (by omega) _ rfl)) ?_
   refine GO_of_GL rfl ?_
   refine GL_store (i := 0) (wn_none rfl) rfl rfl rfl rfl ts64 rfl rfl (one1 rfl) hp rfl (by rw [w32s_length, schZ_length (by omega)]; omega) (sch_put (by omega) (sched_low (by omega))) ?_
   intro w hp
   refine GL_nil ⟨fun h => absurd h (by decide), ?_⟩
   refine GO_nil ?_
   refine GW_region ?_
   refine GL_rd (v := .int _ _) (wn_none rfl) rfl (rd_move rfl rfl) ?_
   refine GL_rd (wn_none rfl) rfl (rd_bin rfl rfl rfl (bo_add64 (by omega))) ?_
   refine GL_rd (v := .int _ _) (wn_none rfl) rfl (rd_assign rfl rfl) ?_
   refine GL_nil ?_
   exact ihL0 (i + 1) _ _ (by simp only []; omega) ⟨_, slots5 rfl rfl rfl rfl rfl, hp, by omega⟩
  ·(try simp only [decide_eq_true_eq, decide_eq_false_iff_not, Bool.not_eq_true', Bool.not_eq_false', Bool.not_eq_eq_eq_not, Bool.not_true, Bool.not_false, Int.not_lt, Int.not_le] at hb)
   obtain rfl : i = 16 := by omega
   refine GW_exit ?_
   refine GW_seq ?_
   refine GW_seq ?_
   refine GW_region ?_
   refine GL_rd (v := .int _ _) (wn_none rfl) rfl (rd_assign rfl rfl) ?_
   refine GL_nil ?_
   refine GW_block ?_
   refine GW_loop ?_
   refine Lp_ind (α := Nat) (fun a_0 f_0 w' => match a_0 with | i => ∃ fz, f_0 = (upd (upd (upd fz 4 (.pointer (some ⟨g, 0, none⟩))) 5 (.pointer (some ⟨g2, 0, none⟩))) 7 (.int .i64 (i : Int))) ∧ Hp w0 [] w' [cells g2 115 (w32s (schZ (List.take 64 (List.drop a l)) i)), cells g 115 (List.replicate 64 (.int .u32 0))] ∧ (i ≤ 64) ∧ (16 ≤ i)) (fun a_0 => match a_0 with | i => 64 - i) ?_ 16 _ _ ?_
   ·rintro i f wz ⟨fz, rfl, hp, hi0, hi1⟩ ihL1
    refine Lp_round ?_
    refine GW_seq ?_
    refine GW_seq ?_
    refine GW_region ?_
    refine GL_rd (v := .int _ _) (wn_none rfl) rfl (rd_move rfl rfl) ?_
    refine GL_rd (wn_none rfl) rfl (rd_bin rfl rfl rfl bo_lss) ?_
    refine GL_nil ?_
    refine GW_cond rfl (fun hb2 => ?_) (fun hb2 => ?_)
    ·(try simp only [decide_eq_true_eq, decide_eq_false_iff_not, Bool.not_eq_true', Bool.not_eq_false', Bool.not_eq_eq_eq_not, Bool.not_true, Bool.not_false, Int.not_lt, Int.not_le] at hb2)
     refine GW_skip ?_
     refine GW_seq ?_
     refine GW_block ?_
     refine GW_seq ?_
     refine GW_drawnK 18 (.one 0 true (.one 1 true (.one 2 true (.one 3 true (.one 5 true (.one 6 true (.one 7 true (.one 8 true (.one 11 true (.one 12 true (.one 13 true (.one 14 true (.one 15 true (.one 4 false (.one 9 false (.one 10 true (.one 16 true (.one 17 true .nil)))))))))))))))))) mixed (by kernel_rfl) hp (fun _ h => h) fun w hp => ?_
     have hpS2 := hp
     refine GO_rdT (v := .int _ _) rfl (wn_none rfl) rfl (fun w => (rd_move rfl rfl)) ?_
     refine GO_rd rfl rfl (wn_none rfl) rfl hpS2 (fun w hp => (rd_bin rfl rfl rfl (bo_sub64 (by omega)))) ?_
     refine GO_rdT rfl (wn_none rfl) rfl (fun w => (rd_indexA (j := (i - 15)) rfl rfl rfl Tryz.underlying115 ts64 (by omega) (by omega) _ rfl)) ?_
     refine GO_rd rfl rfl (wn_none rfl) rfl hpS2 (fun w hp => (rd_load rfl rfl Tryz.underlying64 rfl ((cell_of_cells (hp.get 0 rfl) _).trans (sch_cell (j := i - 15) (by omega) (by omega))))) ?_
     refine GO_rdT (v := .int _ _) rfl (wn_none rfl) rfl (fun w => (rd_move rfl rfl)) ?_
     refine GO_rd rfl rfl (wn_none rfl) rfl hpS2 (fun w hp => (rd_bin rfl rfl rfl (bo_sub64 (by omega)))) ?_
     refine GO_rdT rfl (wn_none rfl) rfl (fun w => (rd_indexA (j := (i - 15)) rfl rfl rfl Tryz.underlying115 ts64 (by omega) (by omega) _ rfl)) ?_
     refine GO_rd rfl rfl (wn_none rfl) rfl hpS2 (fun w hp => (rd_load rfl rfl Tryz.underlying64 rfl ((cell_of_cells (hp.get 0 rfl) _).trans (sch_cell (j := i - 15) (by omega) (by omega))))) ?_
     refine GO_rdT (v := .int _ _) rfl (wn_none rfl) rfl (fun w => (rd_move rfl rfl)) ?_
     refine GO_rd rfl rfl (wn_none rfl) rfl hpS2 (fun w hp => (rd_bin rfl rfl rfl (bo_sub64 (by omega)))) ?_
     refine GO_rdT rfl (wn_none rfl) rfl (fun w => (rd_indexA (j := (i - 15)) rfl rfl rfl Tryz.underlying115 ts64 (by omega) (by omega) _ rfl)) ?_
     refine GO_rd rfl rfl (wn_none rfl) rfl hpS2 (fun w hp => (rd_load rfl rfl Tryz.underlying64 rfl ((cell_of_cells (hp.get 0 rfl) _).trans (sch_cell (j := i - 15) (by omega) (by omega))))) ?_
     refine GO_rd rfl rfl (wn_none rfl) rfl hpS2 (fun w hp => (rd_bin rfl rfl rfl (bo_shr32 _ 3 (by first | decide | omega)))) ?_
     refine GO_of_GL rfl ?_
     refine GL_call (wn_none rfl) rfl rfl (ref_right ((schedB (List.take 64 (List.drop a l)) i).getD (i - 15) 0) 7 _ (by decide)) rfl ?_
     rintro _ w ⟨rfl, hk⟩
     have hp := hp.comp hk
     have hpS3 := hp
     refine GL_nil ⟨fun _ => hpS3, ?_⟩
     refine GO_of_GL rfl ?_
     refine GL_call (wn_none rfl) rfl rfl (ref_right ((schedB (List.take 64 (List.drop a l)) i).getD (i - 15) 0) 18 _ (by decide)) rfl ?_
     rintro _ w ⟨rfl, hk⟩
     have hp := hp.comp hk
     have hpS4 := hp
     refine GL_nil ⟨fun _ => hpS4, ?_⟩
     refine GO_rd rfl rfl (wn_none rfl) rfl hpS4 (fun w hp => (rd_bin rfl rfl rfl (bo_xorV _ _))) ?_
     refine GO_rd rfl rfl (wn_none rfl) rfl hpS4 (fun w hp => (rd_bin rfl rfl rfl (bo_xorV _ _))) ?_
     refine GO_rdT (v := .int _ _) rfl (wn_none rfl) rfl (fun w => (rd_assign rfl rfl)) ?_
     refine GO_nil ?_
     refine GW_seq ?_
     refine GW_drawnK 18 (.one 0 true (.one 1 true (.one 2 true (.one 3 true (.one 5 true (.one 6 true (.one 7 true (.one 8 true (.one 11 true (.one 12 true (.one 13 true (.one 14 true (.one 15 true (.one 4 false (.one 9 false (.one 10 true (.one 16 true (.one 17 true .nil)))))))))))))))))) mixed (by kernel_rfl) hp (fun _ h => h) fun w hp => ?_
     have hpS5 := hp
     refine GO_rdT (v := .int _ _) rfl (wn_none rfl) rfl (fun w => (rd_move rfl rfl)) ?_
     refine GO_rd rfl rfl (wn_none rfl) rfl hpS5 (fun w hp => (rd_bin rfl rfl rfl (bo_sub64 (by omega)))) ?_
     refine GO_rdT rfl (wn_none rfl) rfl (fun w => (rd_indexA (j := (i - 2)) rfl rfl rfl Tryz.underlying115 ts64 (by omega) (by omega) _ rfl)) ?_
     refine GO_rd rfl rfl (wn_none rfl) rfl hpS5 (fun w hp => (rd_load rfl rfl Tryz.underlying64 rfl ((cell_of_cells (hp.get 0 rfl) _).trans (sch_cell (j := i - 2) (by omega) (by omega))))) ?_
     refine GO_rdT (v := .int _ _) rfl (wn_none rfl) rfl (fun w => (rd_move rfl rfl)) ?_
     refine GO_rd rfl rfl (wn_none rfl) rfl hpS5 (fun w hp => (rd_bin rfl rfl rfl (bo_sub64 (by omega)))) ?_
     refine GO_rdT rfl (wn_none rfl) rfl (fun w => (rd_indexA (j := (i - 2)) rfl rfl rfl Tryz.underlying115 ts64 (by omega) (by omega) _ rfl)) ?_
     refine GO_rd rfl rfl (wn_none rfl) rfl hpS5 (fun w hp => (rd_load rfl rfl Tryz.underlying64 rfl ((cell_of_cells (hp.get 0 rfl) _).trans (sch_cell (j := i - 2) (by omega) (by omega))))) ?_
     refine GO_rdT (v := .int _ _) rfl (wn_none rfl) rfl (fun w => (rd_move rfl rfl)) ?_
     refine GO_rd rfl rfl (wn_none rfl) rfl hpS5 (fun w hp => (rd_bin rfl rfl rfl (bo_sub64 (by omega)))) ?_
     refine GO_rdT rfl (wn_none rfl) rfl (fun w => (rd_indexA (j := (i - 2)) rfl rfl rfl Tryz.underlying115 ts64 (by omega) (by omega) _ rfl)) ?_
     refine GO_rd rfl rfl (wn_none rfl) rfl hpS5 (fun w hp => (rd_load rfl rfl Tryz.underlying64 rfl ((cell_of_cells (hp.get 0 rfl) _).trans (sch_cell (j := i - 2) (by omega) (by omega))))) ?_
     refine GO_rd rfl rfl (wn_none rfl) rfl hpS5 (fun w hp => (rd_bin rfl rfl rfl (bo_shr32 _ 10 (by first | decide | omega)))) ?_
     refine GO_of_GL rfl ?_
     refine GL_call (wn_none rfl) rfl rfl (ref_right ((schedB (List.take 64 (List.drop a l)) i).getD (i - 2) 0) 17 _ (by decide)) rfl ?_
     rintro _ w ⟨rfl, hk⟩
     have hp := hp.comp hk
     have hpS6 := hp
     refine GL_nil ⟨fun _ => hpS6, ?_⟩
     refine GO_of_GL rfl ?_
     refine GL_call (wn_none rfl) rfl rfl (ref_right ((schedB (List.take 64 (List.drop a l)) i).getD (i - 2) 0) 19 _ (by decide)) rfl ?_
     rintro _ w ⟨rfl, hk⟩
     have hp := hp.comp hk
     have hpS7 := hp
     refine GL_nil ⟨fun _ => hpS7, ?_⟩
     refine GO_rd rfl rfl (wn_none rfl) rfl hpS7 (fun w hp => (rd_bin rfl rfl rfl (bo_xorV _ _))) ?_
     refine GO_rd rfl rfl (wn_none rfl) rfl hpS7 (fun w hp => (rd_bin rfl rfl rfl (bo_xorV _ _))) ?_
     refine GO_rdT (v := .int _ _) rfl (wn_none rfl) rfl (fun w => (rd_assign rfl rfl)) ?_
     refine GO_nil ?_
     refine GW_drawnK 15 (.one 0 true (.one 1 true (.one 2 true (.one 3 true (.one 4 true (.one 5 true (.one 6 true (.one 7 true (.one 8 true (.one 9 true (.one 10 true (.one 11 true (.one 12 true (.one 13 true (.one 14 true (.one 15 false .nil)))))))))))))))) mixed (by kernel_rfl) hp (fun _ h => h) fun w hp => ?_
     have hpS8 := hp
     refine GO_rdT (v := .int _ _) rfl (wn_none rfl) rfl (fun w => (rd_move rfl rfl)) ?_
     refine GO_rdT (v := .int _ _) rfl (wn_none rfl) rfl (fun w => (rd_move rfl rfl)) ?_
     refine GO_rd rfl rfl (wn_none rfl) rfl hpS8 (fun w hp => (rd_bin rfl rfl rfl (bo_sub64 (by omega)))) ?_
     refine GO_rdT rfl (wn_none rfl) rfl (fun w => (rd_indexA (j := (i - 16)) rfl rfl rfl Tryz.underlying115 ts64 (by omega) (by omega) _ rfl)) ?_
     refine GO_rd rfl rfl (wn_none rfl) rfl hpS8 (fun w hp => (rd_load rfl rfl Tryz.underlying64 rfl ((cell_of_cells (hp.get 0 rfl) _).trans (sch_cell (j := i - 16) (by omega) (by omega))))) ?_
     refine GO_rdT (v := .int _ _) rfl (wn_none rfl) rfl (fun w => (rd_move rfl rfl)) ?_
     refine GO_rd rfl rfl (wn_none rfl) rfl hpS8 (fun w hp => (rd_bin rfl rfl rfl (bo_addV _ _))) ?_
     refine GO_rdT (v := .int _ _) rfl (wn_none rfl) rfl (fun w => (rd_move rfl rfl)) ?_
     refine GO_rd rfl rfl (wn_none rfl) rfl hpS8 (fun w hp => (rd_bin rfl rfl rfl (bo_sub64 (by omega)))) ?_
     refine GO_rdT rfl (wn_none rfl) rfl (fun w => (rd_indexA (j := (i - 7)) rfl rfl rfl Tryz.underlying115 ts64 (by omega) (by omega) _ rfl)) ?_
     refine GO_rd rfl rfl (wn_none rfl) rfl hpS8 (fun w hp => (rd_load rfl rfl Tryz.underlying64 rfl ((cell_of_cells (hp.get 0 rfl) _).trans (sch_cell (j := i - 7) (by omega) (by omega))))) ?_
     refine GO_rd rfl rfl (wn_none rfl) rfl hpS8 (fun w hp => (rd_bin rfl rfl rfl (bo_addV _ _))) ?_
     refine GO_rdT (v := .int _ _) rfl (wn_none rfl) rfl (fun w => (rd_move rfl rfl)) ?_
     refine GO_rd rfl rfl (wn_none rfl) rfl hpS8 (fun w hp => (rd_bin rfl rfl rfl (bo_addV _ _))) ?_
     refine GO_rdT rfl (wn_none rfl) rfl (fun w => (rd_indexA (j := i) rfl rfl rfl Tryz.underlying115 ts64 rfl (by omega) _ rfl)) ?_
     refine GO_of_GL rfl ?_
     refine GL_store (i := 0) (wn_none rfl) rfl rfl rfl rfl ts64 rfl rfl (one1 rfl) hp rfl (by rw [w32s_length, schZ_length (by omega)]; omega) (sch_put (by omega) (sched_high (by omega))) ?_
     intro w hp
     refine GL_nil ⟨fun h => absurd h (by decide), ?_⟩
     refine GO_nil ?_
     refine GW_region ?_
     refine GL_rd (v := .int _ _) (wn_none rfl) rfl (rd_move rfl rfl) ?_
     refine GL_rd (wn_none rfl) rfl (rd_bin rfl rfl rfl (bo_add64 (by omega))) ?_
     refine GL_rd (v := .int _ _) (wn_none rfl) rfl (rd_assign rfl rfl) ?_
     refine GL_nil ?_
     exact ihL1 (i + 1) _ _ (by simp only []; omega) ⟨_, slots3 rfl rfl rfl, hp, by omega, by omega⟩
    ·(try simp only [decide_eq_true_eq, decide_eq_false_iff_not, Bool.not_eq_true', Bool.not_eq_false', Bool.not_eq_eq_eq_not, Bool.not_true, Bool.not_false, Int.not_lt, Int.not_le] at hb2)
     obtain rfl : i = 64 := by omega
     rw [schZ_all] at hp
     refine GW_exit ?_
     refine GW_seq ?_
     refine GW_region ?_
     refine GL_rd (wn_none rfl) rfl (rd_loadC rfl rfl Tryz.underlying115 rfl ts115 (hp.get 0 rfl) (by rw [w32s_length, schedB_length])) ?_
     refine GL_store (i := 1) (wn_none rfl) rfl rfl rfl rfl ts115 rfl (by rw [w32s_length, schedB_length]) (w32s_one _) hp rfl (Nat.le_of_ble_eq_true rfl) (splice_all _ _ (by rw [w32s_length, schedB_length]; rfl)) ?_
     intro w hp
     refine GL_nil ?_
     refine GW_ret ?_
     exact ⟨_, res1 Tryz.results84 (rv_cell rfl rfl Tryz.underlying115 rfl ts115 (by rw [w32s_length, schedB_length]) (hp.get 1 rfl)), rfl, hp.mods⟩
   ·refine ⟨_, slots3 rfl rfl rfl, hp, by decide, by decide⟩
 ·refine ⟨_, slots5 rfl rfl rfl rfl rfl, hp, by decide⟩
set_option maxHeartbeats 1000000 in
theorem ref_mixed (s : W8) (kv : Value) (x : List (BitVec 32)) (w0 : World) (hk : Sl w0 kv 1 64 (w32s kTab)) (hx : x.length = 64) : Does Tryz.prog 83 #[.agg ⟨stC s⟩, kv, .agg ⟨w32s x⟩] w0 fun v w' => v = .agg ⟨stC (addB s (roundsB s x 64))⟩ ∧ Hp w0 [] w' [] := by
 obtain ⟨A, c, rfl⟩ := sl_shape hk
 obtain ⟨gA, bA, rfl⟩ := hk.addr (by decide)
 refine does_of (l := [.agg ⟨stC s⟩, .slice (some ⟨gA, bA, none⟩) 64 c, .agg ⟨w32s x⟩]) Tryz.func83 (by kernel_rfl) rfl Tryz.ntmps83 rfl rfl (by kernel_rfl) ?_
 have hp := Hp.refl w0 []
 refine GW_seq ?_
 refine GW_region ?_
 refine GL_box (wn_none rfl) rfl rfl rfl rfl hp ?_
 intro g w hp
 refine GL_box (wn_none rfl) rfl rfl rfl rfl hp ?_
 intro g2 w hp
 refine GL_alloc (wn_none rfl) rfl rfl tz113 rfl hp ?_
 intro g3 w hp
 refine GL_nil ?_
 refine GW_seq ?_
 refine GW_region ?_
 refine GL_rd (wn_none rfl) rfl (rd_indexA (j := 0) rfl rfl rfl Tryz.underlying113 ts64 rfl (by omega) _ rfl) ?_
 refine GL_rd (wn_none rfl) rfl (rd_load rfl rfl Tryz.underlying64 rfl ((cell_of_cells (hp.get 2 rfl) _).trans rfl)) ?_
 refine GL_rd (v := .int _ _) (wn_none rfl) rfl (rd_assign rfl rfl) ?_
 refine GL_nil ?_
 refine GW_seq ?_
 refine GW_region ?_
 refine GL_rd (wn_none rfl) rfl (rd_indexA (j := 1) rfl rfl rfl Tryz.underlying113 ts64 rfl (by omega) _ rfl) ?_
 refine GL_rd (wn_none rfl) rfl (rd_load rfl rfl Tryz.underlying64 rfl ((cell_of_cells (hp.get 2 rfl) _).trans rfl)) ?_
 refine GL_rd (v := .int _ _) (wn_none rfl) rfl (rd_assign rfl rfl) ?_
 refine GL_nil ?_
 refine GW_seq ?_
 refine GW_region ?_
 refine GL_rd (wn_none rfl) rfl (rd_indexA (j := 2) rfl rfl rfl Tryz.underlying113 ts64 rfl (by omega) _ rfl) ?_
 refine GL_rd (wn_none rfl) rfl (rd_load rfl rfl Tryz.underlying64 rfl ((cell_of_cells (hp.get 2 rfl) _).trans rfl)) ?_
 refine GL_rd (v := .int _ _) (wn_none rfl) rfl (rd_assign rfl rfl) ?_
 refine GL_nil ?_
 refine GW_seq ?_
 refine GW_region ?_
 refine GL_rd (wn_none rfl) rfl (rd_indexA (j := 3) rfl rfl rfl Tryz.underlying113 ts64 rfl (by omega) _ rfl) ?_
 refine GL_rd (wn_none rfl) rfl (rd_load rfl rfl Tryz.underlying64 rfl ((cell_of_cells (hp.get 2 rfl) _).trans rfl)) ?_
 refine GL_rd (v := .int _ _) (wn_none rfl) rfl (rd_assign rfl rfl) ?_
 refine GL_nil ?_
 refine GW_seq ?_
 refine GW_region ?_
 refine GL_rd (wn_none rfl) rfl (rd_indexA (j := 4) rfl rfl rfl Tryz.underlying113 ts64 rfl (by omega) _ rfl) ?_
 refine GL_rd (wn_none rfl) rfl (rd_load rfl rfl Tryz.underlying64 rfl ((cell_of_cells (hp.get 2 rfl) _).trans rfl)) ?_
 refine GL_rd (v := .int _ _) (wn_none rfl) rfl (rd_assign rfl rfl) ?_
 refine GL_nil ?_
 refine GW_seq ?_
 refine GW_region ?_
 refine GL_rd (wn_none rfl) rfl (rd_indexA (j := 5) rfl rfl rfl Tryz.underlying113 ts64 rfl (by omega) _ rfl) ?_
 refine GL_rd (wn_none rfl) rfl (rd_load rfl rfl Tryz.underlying64 rfl ((cell_of_cells (hp.get 2 rfl) _).trans rfl)) ?_
 refine GL_rd (v := .int _ _) (wn_none rfl) rfl (rd_assign rfl rfl) ?_
 refine GL_nil ?_
 refine GW_seq ?_
 refine GW_region ?_
 refine GL_rd (wn_none rfl) rfl (rd_indexA (j := 6) rfl rfl rfl Tryz.underlying113 ts64 rfl (by omega) _ rfl) ?_
 refine GL_rd (wn_none rfl) rfl (rd_load rfl rfl Tryz.underlying64 rfl ((cell_of_cells (hp.get 2 rfl) _).trans rfl)) ?_
 refine GL_rd (v := .int _ _) (wn_none rfl) rfl (rd_assign rfl rfl) ?_
 refine GL_nil ?_
 refine GW_seq ?_
 refine GW_region ?_
 refine GL_rd (wn_none rfl) rfl (rd_indexA (j := 7) rfl rfl rfl Tryz.underlying113 ts64 rfl (by omega) _ rfl) ?_
 refine GL_rd (wn_none rfl) rfl (rd_load rfl rfl Tryz.underlying64 rfl ((cell_of_cells (hp.get 2 rfl) _).trans rfl)) ?_
 refine GL_rd (v := .int _ _) (wn_none rfl) rfl (rd_assign rfl rfl) ?_
 refine GL_nil ?_
 refine GW_seq ?_
 refine GW_seq ?_
 refine GW_region ?_
 refine GL_rd (v := .int _ _) (wn_none rfl) rfl (rd_assign rfl rfl) ?_
 refine GL_nil ?_
 refine GW_block ?_
 refine GW_loop ?_
 refine Lp_ind (α := Nat) (fun a_0 f_0 w' => match a_0 with | i => ∃ fz, f_0 = (upd (upd (upd (upd (upd (upd (upd (upd (upd (upd (upd (upd (upd fz 1 (.slice (some ⟨gA, bA, none⟩) 64 c)) 3 (.pointer (some ⟨g, 0, none⟩))) 5 (.pointer (some ⟨g2, 0, none⟩))) 6 (.pointer (some ⟨g3, 0, none⟩))) 7 (.int .u32 (((roundsB s x i).a).toNat : Int))) 8 (.int .u32 (((roundsB s x i).b).toNat : Int))) 9 (.int .u32 (((roundsB s x i).c).toNat : Int))) 10 (.int .u32 (((roundsB s x i).d).toNat : Int))) 11 (.int .u32 (((roundsB s x i).e).toNat : Int))) 12 (.int .u32 (((roundsB s x i).f).toNat : Int))) 13 (.int .u32 (((roundsB s x i).g).toNat : Int))) 14 (.int .u32 (((roundsB s x i).h).toNat : Int))) 15 (.int .i64 (i : Int))) ∧ Hp w0 [] w' [cells g3 113 (List.replicate 8 (.int .u32 0)), cells g2 115 (w32s x), cells g 113 (stC s)] ∧ (i ≤ 64)) (fun a_0 => match a_0 with | i => 64 - i) ?_ 0 _ _ ?_
 ·rintro i f wz ⟨fz, rfl, hp, hi0⟩ ihL0
  refine Lp_round ?_
  refine GW_seq ?_
  refine GW_seq ?_
  refine GW_region ?_
  refine GL_rd (v := .int _ _) (wn_none rfl) rfl (rd_move rfl rfl) ?_
  refine GL_rd (wn_none rfl) rfl (rd_bin rfl rfl rfl bo_lss) ?_
  refine GL_nil ?_
  refine GW_cond rfl (fun hb => ?_) (fun hb => ?_)
  ·(try simp only [decide_eq_true_eq, decide_eq_false_iff_not, Bool.not_eq_true', Bool.not_eq_false', Bool.not_eq_eq_eq_not, Bool.not_true, Bool.not_false, Int.not_lt, Int.not_le] at hb)
   refine GW_skip ?_
   refine GW_seq ?_
   refine GW_block ?_
   refine GW_seq ?_
   refine GW_drawnK 29 (.one 0 true (.one 1 true (.one 3 true (.one 6 true (.one 10 true (.one 11 true (.one 12 true (.one 13 true (.one 14 true (.one 15 true (.one 16 true (.one 17 true (.one 19 true (.one 20 true (.one 21 true (.one 22 true (.one 24 true (.one 25 true (.one 26 true (.one 2 false (.one 4 false (.one 5 true (.one 7 false (.one 8 true (.one 9 true (.one 18 true (.one 23 true (.one 27 true (.one 28 true .nil))))))))))))))))))))))))))))) mixed (by kernel_rfl) hp (fun _ h => h) fun w hp => ?_
   have hpS := hp
   refine GO_rdT (v := .int _ _) rfl (wn_none rfl) rfl (fun w => (rd_move rfl rfl)) ?_
   refine GO_rdT (v := .int _ _) rfl (wn_none rfl) rfl (fun w => (rd_move rfl rfl)) ?_
   refine GO_rdT (v := .int _ _) rfl (wn_none rfl) rfl (fun w => (rd_move rfl rfl)) ?_
   refine GO_rdT (v := .int _ _) rfl (wn_none rfl) rfl (fun w => (rd_move rfl rfl)) ?_
   refine GO_rdT (v := .int _ _) rfl (wn_none rfl) rfl (fun w => (rd_move rfl rfl)) ?_
   refine GO_rdT (v := .int _ _) rfl (wn_none rfl) rfl (fun w => (rd_move rfl rfl)) ?_
   refine GO_rd rfl rfl (wn_none rfl) rfl hpS (fun w hp => (rd_bin rfl rfl rfl (bo_andV _ _))) ?_
   refine GO_rdT (v := .int _ _) rfl (wn_none rfl) rfl (fun w => (rd_move rfl rfl)) ?_
   refine GO_rd rfl rfl (wn_none rfl) rfl hpS (fun w hp => (rd_bin rfl rfl rfl (bo_notV _))) ?_
   refine GO_rdT (v := .int _ _) rfl (wn_none rfl) rfl (fun w => (rd_move rfl rfl)) ?_
   refine GO_rd rfl rfl (wn_none rfl) rfl hpS (fun w hp => (rd_bin rfl rfl rfl (bo_andV _ _))) ?_
   refine GO_rd rfl rfl (wn_none rfl) rfl hpS (fun w hp => (rd_bin rfl rfl rfl (bo_xorV _ _))) ?_
   refine GO_rdT (v := .slice _ _ _) rfl (wn_none rfl) rfl (fun w => (rd_move rfl rfl)) ?_
   refine GO_rdT (v := .int _ _) rfl (wn_none rfl) rfl (fun w => (rd_move rfl rfl)) ?_
   refine GO_rdT rfl (wn_none rfl) rfl (fun w => (rd_indexS (j := i) rfl rfl rfl Tryz.underlying111 ts64 rfl (by omega) _ rfl)) ?_
   refine GO_rd rfl rfl (wn_none rfl) rfl hpS (fun w hp => (rd_load rfl rfl Tryz.underlying64 rfl ((hk.keep hp.mod).get _ _ (by rw [Nat.mul_one]; exact w32s_get (l := kTab) (by rw [kTab_length]; omega))))) ?_
   refine GO_rdT (v := .int _ _) rfl (wn_none rfl) rfl (fun w => (rd_move rfl rfl)) ?_
   refine GO_rdT rfl (wn_none rfl) rfl (fun w => (rd_indexA (j := i) rfl rfl rfl Tryz.underlying115 ts64 rfl (by omega) _ rfl)) ?_
   refine GO_rd rfl rfl (wn_none rfl) rfl hpS (fun w hp => (rd_load rfl rfl Tryz.underlying64 rfl ((cell_of_cells (hp.get 1 rfl) _).trans (w32s_get1 (l := x) (i := i) (by omega))))) ?_
   refine GO_of_GL rfl ?_
   refine GL_call (wn_none rfl) rfl rfl (ref_right (roundsB s x i).e 6 _ (by decide)) rfl ?_
   rintro _ w ⟨rfl, hk⟩
   have hp := hp.comp hk
   have hpS2 := hp
   refine GL_nil ⟨fun _ => hpS2, ?_⟩
   refine GO_of_GL rfl ?_
   refine GL_call (wn_none rfl) rfl rfl (ref_right (roundsB s x i).e 11 _ (by decide)) rfl ?_
   rintro _ w ⟨rfl, hk⟩
   have hp := hp.comp hk
   have hpS3 := hp
   refine GL_nil ⟨fun _ => hpS3, ?_⟩
   refine GO_rd rfl rfl (wn_none rfl) rfl hpS3 (fun w hp => (rd_bin rfl rfl rfl (bo_xorV _ _))) ?_
   refine GO_of_GL rfl ?_
   refine GL_call (wn_none rfl) rfl rfl (ref_right (roundsB s x i).e 25 _ (by decide)) rfl ?_
   rintro _ w ⟨rfl, hk⟩
   have hp := hp.comp hk
   have hpS4 := hp
   refine GL_nil ⟨fun _ => hpS4, ?_⟩
   refine GO_rd rfl rfl (wn_none rfl) rfl hpS4 (fun w hp => (rd_bin rfl rfl rfl (bo_xorV _ _))) ?_
   refine GO_rd rfl rfl (wn_none rfl) rfl hpS4 (fun w hp => (rd_bin rfl rfl rfl (bo_addV _ _))) ?_
   refine GO_rd rfl rfl (wn_none rfl) rfl hpS4 (fun w hp => (rd_bin rfl rfl rfl (bo_addV _ _))) ?_
   refine GO_rd rfl rfl (wn_none rfl) rfl hpS4 (fun w hp => (rd_bin rfl rfl rfl (bo_addV _ _))) ?_
   refine GO_rd rfl rfl (wn_none rfl) rfl hpS4 (fun w hp => (rd_bin rfl rfl rfl (bo_addV _ _))) ?_
   refine GO_rdT (v := .int .u32 ((tB (roundsB s x i) (kTab.getD i 0) (x.getD i 0)).toNat : Int)) rfl (wn_none rfl) rfl (fun w => (rd_assign rfl rfl)) ?_
   refine GO_nil ?_
   refine GW_seq ?_
   refine GW_region ?_
   refine GL_rd (v := .int _ _) (wn_none rfl) rfl (rd_move rfl rfl) ?_
   refine GL_call (wn_none rfl) rfl rfl (ref_right (roundsB s x i).a 2 _ (by decide)) rfl ?_
   rintro _ w ⟨rfl, hk⟩
   have hp := hp.comp hk
   refine GL_rd (v := .int _ _) (wn_none rfl) rfl (rd_move rfl rfl) ?_
   refine GL_call (wn_none rfl) rfl rfl (ref_right (roundsB s x i).a 13 _ (by decide)) rfl ?_
   rintro _ w ⟨rfl, hk⟩
   have hp := hp.comp hk
   refine GL_rd (wn_none rfl) rfl (rd_bin rfl rfl rfl (bo_xorV _ _)) ?_
   refine GL_rd (v := .int _ _) (wn_none rfl) rfl (rd_move rfl rfl) ?_
   refine GL_call (wn_none rfl) rfl rfl (ref_right (roundsB s x i).a 22 _ (by decide)) rfl ?_
   rintro _ w ⟨rfl, hk⟩
   have hp := hp.comp hk
   refine GL_rd (wn_none rfl) rfl (rd_bin rfl rfl rfl (bo_xorV _ _)) ?_
   refine GL_rd (v := .int _ _) (wn_none rfl) rfl (rd_move rfl rfl) ?_
   refine GL_rd (v := .int _ _) (wn_none rfl) rfl (rd_move rfl rfl) ?_
   refine GL_rd (wn_none rfl) rfl (rd_bin rfl rfl rfl (bo_andV _ _)) ?_
   refine GL_rd (v := .int _ _) (wn_none rfl) rfl (rd_move rfl rfl) ?_
   refine GL_rd (v := .int _ _) (wn_none rfl) rfl (rd_move rfl rfl) ?_
   refine GL_rd (wn_none rfl) rfl (rd_bin rfl rfl rfl (bo_andV _ _)) ?_
   refine GL_rd (wn_none rfl) rfl (rd_bin rfl rfl rfl (bo_xorV _ _)) ?_
   refine GL_rd (v := .int _ _) (wn_none rfl) rfl (rd_move rfl rfl) ?_
   refine GL_rd (v := .int _ _) (wn_none rfl) rfl (rd_move rfl rfl) ?_
   refine GL_rd (wn_none rfl) rfl (rd_bin rfl rfl rfl (bo_andV _ _)) ?_
   refine GL_rd (wn_none rfl) rfl (rd_bin rfl rfl rfl (bo_xorV _ _)) ?_
   refine GL_rd (wn_none rfl) rfl (rd_bin rfl rfl rfl (bo_addV _ _)) ?_
   refine GL_rd (v := .int .u32 ((uB (roundsB s x i)).toNat : Int)) (wn_none rfl) rfl (rd_assign rfl rfl) ?_
   refine GL_nil ?_
   refine GW_seq ?_
   refine GW_region ?_
   refine GL_rd (v := .int _ _) (wn_none rfl) rfl (rd_move rfl rfl) ?_
   refine GL_rd (v := .int _ _) (wn_none rfl) rfl (rd_assign rfl rfl) ?_
   refine GL_nil ?_
   refine GW_seq ?_
   refine GW_region ?_
   refine GL_rd (v := .int _ _) (wn_none rfl) rfl (rd_move rfl rfl) ?_
   refine GL_rd (v := .int _ _) (wn_none rfl) rfl (rd_assign rfl rfl) ?_
   refine GL_nil ?_
   refine GW_seq ?_
   refine GW_region ?_
   refine GL_rd (v := .int _ _) (wn_none rfl) rfl (rd_move rfl rfl) ?_
   refine GL_rd (v := .int _ _) (wn_none rfl) rfl (rd_assign rfl rfl) ?_
   refine GL_nil ?_
   refine GW_seq ?_
   refine GW_region ?_
   refine GL_rd (v := .int _ _) (wn_none rfl) rfl (rd_move rfl rfl) ?_
   refine GL_rd (v := .int _ _) (wn_none rfl) rfl (rd_move rfl rfl) ?_
   refine GL_rd (wn_none rfl) rfl (rd_bin rfl rfl rfl (bo_addV _ _)) ?_
   refine GL_rd (v := .int _ _) (wn_none rfl) rfl (rd_assign rfl rfl) ?_
   refine GL_nil ?_
   refine GW_seq ?_
   refine GW_region ?_
   refine GL_rd (v := .int _ _) (wn_none rfl) rfl (rd_move rfl rfl) ?_
   refine GL_rd (v := .int _ _) (wn_none rfl) rfl (rd_assign rfl rfl) ?_
   refine GL_nil ?_
   refine GW_seq ?_
   refine GW_region ?_
   refine GL_rd (v := .int _ _) (wn_none rfl) rfl (rd_move rfl rfl) ?_
   refine GL_rd (v := .int _ _) (wn_none rfl) rfl (rd_assign rfl rfl) ?_
   refine GL_nil ?_
   refine GW_seq ?_
   refine GW_region ?_
   refine GL_rd (v := .int _ _) (wn_none rfl) rfl (rd_move rfl rfl) ?_
   refine GL_rd (v := .int _ _) (wn_none rfl) rfl (rd_assign rfl rfl) ?_
   refine GL_nil ?_
   refine GW_region ?_
   refine GL_rd (v := .int _ _) (wn_none rfl) rfl (rd_move rfl rfl) ?_
   refine GL_rd (v := .int _ _) (wn_none rfl) rfl (rd_move rfl rfl) ?_
   refine GL_rd (wn_none rfl) rfl (rd_bin rfl rfl rfl (bo_addV _ _)) ?_
   refine GL_rd (v := .int _ _) (wn_none rfl) rfl (rd_assign rfl rfl) ?_
   refine GL_nil ?_
   refine GW_region ?_
   refine GL_rd (v := .int _ _) (wn_none rfl) rfl (rd_move rfl rfl) ?_
   refine GL_rd (wn_none rfl) rfl (rd_bin rfl rfl rfl (bo_add64 (by omega))) ?_
   refine GL_rd (v := .int _ _) (wn_none rfl) rfl (rd_assign rfl rfl) ?_
   refine GL_nil ?_
   exact ihL0 (i + 1) _ _ (by simp only []; omega) ⟨_, slots13 rfl rfl rfl rfl rfl rfl rfl rfl rfl rfl rfl rfl rfl, hp, by omega⟩
  ·(try simp only [decide_eq_true_eq, decide_eq_false_iff_not, Bool.not_eq_true', Bool.not_eq_false', Bool.not_eq_eq_eq_not, Bool.not_true, Bool.not_false, Int.not_lt, Int.not_le] at hb)
   obtain rfl : i = 64 := by omega
   refine GW_exit ?_
   refine GW_seq ?_
   refine GW_region ?_
   refine GL_rd (wn_none rfl) rfl (rd_indexA (j := 0) rfl rfl rfl Tryz.underlying113 ts64 rfl (by omega) _ rfl) ?_
   refine GL_rd (wn_none rfl) rfl (rd_load rfl rfl Tryz.underlying64 rfl ((cell_of_cells (hp.get 2 rfl) _).trans rfl)) ?_
   refine GL_rd (v := .int _ _) (wn_none rfl) rfl (rd_move rfl rfl) ?_
   refine GL_rd (wn_none rfl) rfl (rd_bin rfl rfl rfl (bo_addV _ _)) ?_
   refine GL_rd (wn_none rfl) rfl (rd_indexA (j := 1) rfl rfl rfl Tryz.underlying113 ts64 rfl (by omega) _ rfl) ?_
   refine GL_rd (wn_none rfl) rfl (rd_load rfl rfl Tryz.underlying64 rfl ((cell_of_cells (hp.get 2 rfl) _).trans rfl)) ?_
   refine GL_rd (v := .int _ _) (wn_none rfl) rfl (rd_move rfl rfl) ?_
   refine GL_rd (wn_none rfl) rfl (rd_bin rfl rfl rfl (bo_addV _ _)) ?_
   refine GL_rd (wn_none rfl) rfl (rd_indexA (j := 2) rfl rfl rfl Tryz.underlying113 ts64 rfl (by omega) _ rfl) ?_
   refine GL_rd (wn_none rfl) rfl (rd_load rfl rfl Tryz.underlying64 rfl ((cell_of_cells (hp.get 2 rfl) _).trans rfl)) ?_
   refine GL_rd (v := .int _ _) (wn_none rfl) rfl (rd_move rfl rfl) ?_
   refine GL_rd (wn_none rfl) rfl (rd_bin rfl rfl rfl (bo_addV _ _)) ?_
   refine GL_rd (wn_none rfl) rfl (rd_indexA (j := 3) rfl rfl rfl Tryz.underlying113 ts64 rfl (by omega) _ rfl) ?_
   refine GL_rd (wn_none rfl) rfl (rd_load rfl rfl Tryz.underlying64 rfl ((cell_of_cells (hp.get 2 rfl) _).trans rfl)) ?_
   refine GL_rd (v := .int _ _) (wn_none rfl) rfl (rd_move rfl rfl) ?_
   refine GL_rd (wn_none rfl) rfl (rd_bin rfl rfl rfl (bo_addV _ _)) ?_
   refine GL_rd (wn_none rfl) rfl (rd_indexA (j := 4) rfl rfl rfl Tryz.underlying113 ts64 rfl (by omega) _ rfl) ?_
   refine GL_rd (wn_none rfl) rfl (rd_load rfl rfl Tryz.underlying64 rfl ((cell_of_cells (hp.get 2 rfl) _).trans rfl)) ?_
   refine GL_rd (v := .int _ _) (wn_none rfl) rfl (rd_move rfl rfl) ?_
   refine GL_rd (wn_none rfl) rfl (rd_bin rfl rfl rfl (bo_addV _ _)) ?_
   refine GL_rd (wn_none rfl) rfl (rd_indexA (j := 5) rfl rfl rfl Tryz.underlying113 ts64 rfl (by omega) _ rfl) ?_
   refine GL_rd (wn_none rfl) rfl (rd_load rfl rfl Tryz.underlying64 rfl ((cell_of_cells (hp.get 2 rfl) _).trans rfl)) ?_
   refine GL_rd (v := .int _ _) (wn_none rfl) rfl (rd_move rfl rfl) ?_
   refine GL_rd (wn_none rfl) rfl (rd_bin rfl rfl rfl (bo_addV _ _)) ?_
   refine GL_rd (wn_none rfl) rfl (rd_indexA (j := 6) rfl rfl rfl Tryz.underlying113 ts64 rfl (by omega) _ rfl) ?_
   refine GL_rd (wn_none rfl) rfl (rd_load rfl rfl Tryz.underlying64 rfl ((cell_of_cells (hp.get 2 rfl) _).trans rfl)) ?_
   refine GL_rd (v := .int _ _) (wn_none rfl) rfl (rd_move rfl rfl) ?_
   refine GL_rd (wn_none rfl) rfl (rd_bin rfl rfl rfl (bo_addV _ _)) ?_
   refine GL_rd (wn_none rfl) rfl (rd_indexA (j := 7) rfl rfl rfl Tryz.underlying113 ts64 rfl (by omega) _ rfl) ?_
   refine GL_rd (wn_none rfl) rfl (rd_load rfl rfl Tryz.underlying64 rfl ((cell_of_cells (hp.get 2 rfl) _).trans rfl)) ?_
   refine GL_rd (v := .int _ _) (wn_none rfl) rfl (rd_move rfl rfl) ?_
   refine GL_rd (wn_none rfl) rfl (rd_bin rfl rfl rfl (bo_addV _ _)) ?_
   refine GL_rd (v := .agg ⟨stC (addB s (roundsB s x 64))⟩) (wn_none rfl) rfl (rd_buildG (l := [(0, u32C (s.a + (roundsB s x 64).a)), (1, u32C (s.b + (roundsB s x 64).b)), (2, u32C (s.c + (roundsB s x 64).c)), (3, u32C (s.d + (roundsB s x 64).d)), (4, u32C (s.e + (roundsB s x 64).e)), (5, u32C (s.f + (roundsB s x 64).f)), (6, u32C (s.g + (roundsB s x 64).g)), (7, u32C (s.h + (roundsB s x 64).h))]) rfl tz113 Tryz.underlying113 ts64 rfl (fill8 _ _ _ _ _ _ _ _)) ?_
   refine GL_store (i := 0) (wn_none rfl) rfl rfl rfl rfl ts113 rfl (stC_length _) (stC_one _) hp rfl (Nat.le_of_ble_eq_true rfl) (splice_all _ _ (by rw [stC_length]; rfl)) ?_
   intro w hp
   refine GL_nil ?_
   refine GW_ret ?_
   exact ⟨_, res1 Tryz.results83 (rv_cell rfl rfl Tryz.underlying113 rfl ts113 (stC_length _) (hp.get 0 rfl)), rfl, hp.mods⟩
 ·refine ⟨_, slots13 rfl rfl rfl rfl rfl rfl rfl rfl rfl rfl rfl rfl rfl, hp, by decide⟩
set_option maxHeartbeats 1000000 in
theorem ref_Sum (sv : Value) (m : Nat) (l : List UInt8) (w0 : World) (hs : Sl w0 sv 1 m (bys l)) (hm : m ≤ 4294967296) : Does Tryz.prog 52 #[sv] w0 fun v w' => v = .agg ⟨bys (sumB l)⟩ ∧ Hp w0 [] w' [] := by
 obtain ⟨A, c, rfl⟩ := sl_shape hs
 have hml := hs.blen
 have hmle := hs.le
 have hpm : (padB l).length % 64 = 0 := endB_mod _ _
 have hpl : (padB l).length = m + 1 + padZ m + 8 := by rw [padB, endB_length, hml]
 have hpz := padZ_lt m
 refine does_of (l := [.slice A m c]) Tryz.func52 (by kernel_rfl) rfl Tryz.ntmps52 rfl rfl (by kernel_rfl) ?_
 have hp := Hp.refl w0 []
 refine GW_seq ?_
 refine GW_region ?_
 refine GL_alloc (wn_none rfl) rfl rfl tz30 rfl hp ?_
 intro g w hp
 refine GL_nil ?_
 refine GW_seq ?_
 refine GW_region ?_
 refine GL_call (wn_none rfl) rfl rfl (ref_digTable _) rfl ?_
 intro vt w hk
 have hp := hp.comp hk
 refine GL_rd (v := vt) (wn_none rfl) rfl (rd_assign rfl rfl) ?_
 refine GL_nil ?_
 refine GW_seq ?_
 refine GW_region ?_
 refine GL_rd (wn_none rfl) rfl (rd_buildA (L := (stC ivB)) rfl tz113 Tryz.underlying113 ts64 (by kernel_rfl)) ?_
 refine GL_alloc (wn_none rfl) rfl rfl tz113 rfl hp ?_
 intro g2 w hp
 refine GL_store (i := 0) (wn_none rfl) rfl rfl rfl rfl ts113 rfl (stC_length _) (stC_one _) hp rfl (Nat.le_of_ble_eq_true rfl) (splice_all _ _ (by rw [stC_length]; rfl)) ?_
 intro w hp
 refine GL_nil ?_
 refine GW_seq ?_
 refine GW_region ?_
 refine GL_rd (v := .slice _ _ _) (wn_none rfl) rfl (rd_move rfl rfl) ?_
 refine GL_call (wn_none rfl) rfl rfl (ref_padded _ _ _ _ (hs.keep hp.mod) hm) rfl ?_
 intro vp w hk
 have hp := hp.comp hk
 obtain ⟨Ap, cp, rfl⟩ := row_shape (hp.get 0 rfl)
 refine GL_rd (v := .slice _ _ _) (wn_none rfl) rfl (rd_assign rfl rfl) ?_
 refine GL_nil ?_
 refine GW_seq ?_
 refine GW_seq ?_
 refine GW_region ?_
 refine GL_rd (v := .int _ _) (wn_none rfl) rfl (rd_assign rfl rfl) ?_
 refine GL_nil ?_
 refine GW_block ?_
 refine GW_loop ?_
 refine Lp_ind (α := Nat) (fun a_0 f_0 w' => match a_0 with | k => ∃ fz, f_0 = (upd (upd (upd (upd (upd fz 2 (.pointer (some ⟨g, 0, none⟩))) 3 (vt)) 4 (.pointer (some ⟨g2, 0, none⟩))) 5 (.slice Ap (padB l).length cp)) 6 (.int .i64 ((64 * k : Nat) : Int))) ∧ Hp w0 [] w' [.row 5 1 (.slice Ap (padB l).length cp) (padB l).length (bys (padB l)), cells g2 113 (stC (foldB ivB (padB l) k)), .row 64 1 vt 64 (w32s kTab), cells g 30 (List.replicate 32 (.int .u8 0))] ∧ (64 * k ≤ (padB l).length)) (fun a_0 => match a_0 with | k => (padB l).length - 64 * k) ?_ 0 _ _ ?_
 ·rintro k f wz ⟨fz, rfl, hp, hk0⟩ ihL0
  refine Lp_round ?_
  refine GW_seq ?_
  refine GW_seq ?_
  refine GW_region ?_
  refine GL_rd (v := .int _ _) (wn_none rfl) rfl (rd_move rfl rfl) ?_
  refine GL_rd (v := .slice _ _ _) (wn_none rfl) rfl (rd_move rfl rfl) ?_
  refine GL_rd (wn_none rfl) rfl (rd_len rfl rfl Tryz.underlying35) ?_
  refine GL_rd (wn_none rfl) rfl (rd_bin rfl rfl rfl bo_lss) ?_
  refine GL_nil ?_
  refine GW_cond rfl (fun hb => ?_) (fun hb => ?_)
  ·(try simp only [decide_eq_true_eq, decide_eq_false_iff_not, Bool.not_eq_true', Bool.not_eq_false', Bool.not_eq_eq_eq_not, Bool.not_true, Bool.not_false, Int.not_lt, Int.not_le] at hb)
   refine GW_skip ?_
   refine GW_seq ?_
   refine GW_block ?_
   refine GW_drawnK 6 (.one 0 true (.one 1 true (.one 2 true (.one 3 true (.one 4 false (.one 5 false (.one 6 false .nil))))))) mixed (by kernel_rfl) hp (fun _ h => h) fun w hp => ?_
   have hpS := hp
   refine GO_rd rfl rfl (wn_none rfl) rfl hpS (fun w hp => (rd_loadN (L := stC (foldB ivB (padB l) k)) rfl rfl Tryz.underlying113 rfl ts113 (stC_length _) (fun j u hj => by rw [Nat.zero_add]; exact (cell_of_cells (hp.get 1 rfl) j).trans hj))) ?_
   refine GO_rdT (v := vt) rfl (wn_none rfl) rfl (fun w => (rd_move rfl rfl)) ?_
   refine GO_rdT (v := .slice _ _ _) rfl (wn_none rfl) rfl (fun w => (rd_move rfl rfl)) ?_
   refine GO_rdT (v := .int _ _) rfl (wn_none rfl) rfl (fun w => (rd_move rfl rfl)) ?_
   refine GO_of_GL rfl ?_
   refine GL_call (wn_none rfl) rfl rfl (ref_words _ _ (64 * k) (padB l) _ (Sl.row (hp.get 0 rfl)) (by omega)) rfl ?_
   rintro _ w ⟨rfl, hk⟩
   have hp := hp.comp hk
   have hpS2 := hp
   refine GL_nil ⟨fun _ => hpS2, ?_⟩
   refine GO_of_GL rfl ?_
   refine GL_call (wn_none rfl) rfl rfl (ref_mixed (foldB ivB (padB l) k) vt _ _ (Sl.row (hp.get 2 rfl)) (schedB_length _ _)) rfl ?_
   rintro _ w ⟨rfl, hk⟩
   have hp := hp.comp hk
   have hpS3 := hp
   refine GL_nil ⟨fun _ => hpS3, ?_⟩
   refine GO_of_GL rfl ?_
   refine GL_store (i := 1) (wn_none rfl) rfl rfl rfl rfl ts113 rfl (stC_length _) (stC_one _) hp rfl (by rw [stC_length]; omega) (splice_all _ _ (by rw [stC_length, stC_length])) ?_
   intro w hp
   refine GL_nil ⟨fun h => absurd h (by decide), ?_⟩
   refine GO_nil ?_
   refine GW_region ?_
   refine GL_rd (v := .int _ _) (wn_none rfl) rfl (rd_move rfl rfl) ?_
   refine GL_rd (wn_none rfl) rfl (rd_bin rfl rfl rfl (bo_int (q := ((64 * (k + 1) : Nat) : Int)) (bo_add64 (by omega)) (by omega))) ?_
   refine GL_rd (v := .int _ _) (wn_none rfl) rfl (rd_assign rfl rfl) ?_
   refine GL_nil ?_
   exact ihL0 (k + 1) _ _ (by simp only []; omega) ⟨_, slots5 rfl rfl rfl rfl rfl, hp, by omega⟩
  ·(try simp only [decide_eq_true_eq, decide_eq_false_iff_not, Bool.not_eq_true', Bool.not_eq_false', Bool.not_eq_eq_eq_not, Bool.not_true, Bool.not_false, Int.not_lt, Int.not_le] at hb)
   refine GW_exit ?_
   refine GW_seq ?_
   refine GW_region ?_
   refine GL_alloc (wn_none rfl) rfl rfl tz30 rfl hp ?_
   intro g3 w hp
   refine GL_nil ?_
   refine GW_seq ?_
   refine GW_seq ?_
   refine GW_region ?_
   refine GL_rd (v := .int _ _) (wn_none rfl) rfl (rd_assign rfl rfl) ?_
   refine GL_nil ?_
   refine GW_block ?_
   refine GW_loop ?_
   refine Lp_ind (α := Nat) (fun a_0 f_0 w' => match a_0 with | i => ∃ fz, f_0 = (upd (upd (upd (upd fz 2 (.pointer (some ⟨g, 0, none⟩))) 4 (.pointer (some ⟨g2, 0, none⟩))) 7 (.pointer (some ⟨g3, 0, none⟩))) 8 (.int .i64 (i : Int))) ∧ Hp w0 [] w' [cells g3 30 (bys (outP (foldB ivB (padB l) ((padB l).length / 64)) i ++ List.replicate (32 - i) 0)), cells g2 113 (stC (foldB ivB (padB l) ((padB l).length / 64))), cells g 30 (List.replicate 32 (.int .u8 0))] ∧ (i ≤ 32)) (fun a_0 => match a_0 with | i => 32 - i) ?_ 0 _ _ ?_
   ·rintro i f wz ⟨fz, rfl, hp, hi0⟩ ihL1
    refine Lp_round ?_
    refine GW_seq ?_
    refine GW_seq ?_
    refine GW_region ?_
    refine GL_rd (v := .int _ _) (wn_none rfl) rfl (rd_move rfl rfl) ?_
    refine GL_rd (wn_none rfl) rfl (rd_bin rfl rfl rfl bo_lss) ?_
    refine GL_nil ?_
    refine GW_cond rfl (fun hb2 => ?_) (fun hb2 => ?_)
    ·(try simp only [decide_eq_true_eq, decide_eq_false_iff_not, Bool.not_eq_true', Bool.not_eq_false', Bool.not_eq_eq_eq_not, Bool.not_true, Bool.not_false, Int.not_lt, Int.not_le] at hb2)
     refine GW_skip ?_
     refine GW_seq ?_
     refine GW_block ?_
     refine GW_region ?_
     refine GL_rd (v := .int _ _) (wn_none rfl) rfl (rd_move rfl rfl) ?_
     refine GL_rd (v := .int _ _) (wn_none rfl) rfl (rd_move rfl rfl) ?_
     refine GL_rd (wn_none rfl) rfl (rd_bin rfl rfl rfl (bo_int (q := ((i / 4 : Nat) : Int)) (bo_quo64 (by omega) (by omega) (by omega)) (by omega))) ?_
     refine GL_rd (wn_none rfl) rfl (rd_indexA (j := (i / 4)) rfl rfl rfl Tryz.underlying113 ts64 rfl (by omega) _ rfl) ?_
     refine GL_rd (wn_none rfl) rfl (rd_load rfl rfl Tryz.underlying64 rfl ((cell_of_cells (hp.get 1 rfl) _).trans (w32s_get1 (l := W8.l (foldB ivB (padB l) ((padB l).length / 64))) (i := i / 4) (by rw [W8.len]; omega)))) ?_
     refine GL_rd (v := .int _ _) (wn_none rfl) rfl (rd_move rfl rfl) ?_
     refine GL_rd (wn_none rfl) rfl (rd_bin rfl rfl rfl (bo_rem64 (by omega) (by omega))) ?_
     refine GL_rd (wn_none rfl) rfl (rd_bin rfl rfl rfl (bo_mul64 (by omega))) ?_
     refine GL_rd (wn_none rfl) rfl (rd_bin rfl rfl rfl (bo_int (q := ((24 - 8 * (i % 4) : Nat) : Int)) (bo_sub64 (by omega)) (by omega))) ?_
     refine GL_rd (wn_none rfl) rfl (rd_convE (q := ((24 - 8 * (i % 4) : Nat) : Int)) rfl rfl Tryz.underlying88 Tryz.underlying3 (by simp) (IntWalk.u64_in _ (by omega))) ?_
     refine GL_rd (wn_none rfl) rfl (rd_bin rfl rfl rfl (bo_shr32 ((foldB ivB (padB l) ((padB l).length / 64)).l.getD (i / 4) 0) (24 - 8 * (i % 4)) (by omega))) ?_
     refine GL_rd (wn_none rfl) rfl (conv_u8 rfl rfl Tryz.underlying5 Tryz.underlying64 (by simp)) ?_
     refine GL_rd (wn_none rfl) rfl (rd_indexA (j := i) rfl rfl rfl Tryz.underlying30 ts5 rfl (by omega) _ rfl) ?_
     refine GL_store (i := 0) (wn_none rfl) rfl rfl rfl rfl ts5 rfl rfl (one1 rfl) hp rfl (by rw [bys_length, List.length_append, outP_length, List.length_replicate]; omega) (out_put (by omega) rfl) ?_
     intro w hp
     refine GL_nil ?_
     refine GW_region ?_
     refine GL_rd (v := .int _ _) (wn_none rfl) rfl (rd_move rfl rfl) ?_
     refine GL_rd (wn_none rfl) rfl (rd_bin rfl rfl rfl (bo_add64 (by omega))) ?_
     refine GL_rd (v := .int _ _) (wn_none rfl) rfl (rd_assign rfl rfl) ?_
     refine GL_nil ?_
     exact ihL1 (i + 1) _ _ (by simp only []; omega) ⟨_, slots4 rfl rfl rfl rfl, hp, by omega⟩
    ·(try simp only [decide_eq_true_eq, decide_eq_false_iff_not, Bool.not_eq_true', Bool.not_eq_false', Bool.not_eq_eq_eq_not, Bool.not_true, Bool.not_false, Int.not_lt, Int.not_le] at hb2)
     obtain rfl : i = 32 := by omega
     rw [Nat.sub_self, List.replicate_zero, List.append_nil] at hp
     refine GW_exit ?_
     refine GW_seq ?_
     refine GW_region ?_
     refine GL_rd (wn_none rfl) rfl (rd_loadN (L := bys (sumB l)) rfl rfl Tryz.underlying30 rfl ts30 (by rw [bys_length, sumB_length]) (fun j u hj => by rw [Nat.zero_add]; exact (cell_of_cells (hp.get 0 rfl) j).trans hj)) ?_
     refine GL_store (i := 2) (wn_none rfl) rfl rfl rfl rfl ts30 rfl (by rw [bys_length, sumB_length]) (bys_one _) hp rfl (Nat.le_of_ble_eq_true rfl) (splice_all _ _ (by rw [bys_length, sumB_length]; rfl)) ?_
     intro w hp
     refine GL_nil ?_
     refine GW_ret ?_
     exact ⟨_, res1 Tryz.results52 (rv_cell rfl rfl Tryz.underlying30 rfl ts30 (by rw [bys_length, sumB_length]) (hp.get 2 rfl)), rfl, hp.mods⟩
   ·have hke : k = (padB l).length / 64 := by omega
    subst hke
    have hp := ((((hp.front 4 rfl).front 3 rfl).front 2 rfl).take 3)
    refine ⟨_, slots4 rfl rfl rfl rfl, hp, Nat.zero_le _⟩
 ·refine ⟨_, slots5 rfl rfl rfl rfl rfl, hp, Nat.zero_le _⟩
end Go.Proofs.YtpagpmioopaciaaGreat
