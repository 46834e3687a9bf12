/- Walks of functions of the program. -/
import Derived.Test.YtpagpmioopaciaaGreatPFBuL
import Derived.Test.YtpagpmioopaciaaGreatPFBuP
set_option linter.unusedVariables false
set_option linter.unusedSimpArgs false
namespace Go.Proofs.YtpagpmioopaciaaGreat
open Go.Mo Go.RowKit
set_option maxRecDepth 100000 in
set_option maxHeartbeats 2000000 in
theorem law_bworks (w0 : World) : Does Tryz.prog 5 #[] w0 fun v w' => v = .bool true ∧ Hp w0 [] w' [] := by
 refine does_of (l := []) Tryz.func5 (by kernel_rfl) rfl Tryz.ntmps5 rfl rfl (by kernel_rfl) ?_
 have hp := Hp.refl w0 []
 refine GW_seq ?_
 refine GW_region ?_
 refine GL_rd (v := .bool _) (wn_none rfl) rfl (rd_assign rfl rfl) ?_
 refine GL_nil ?_
 refine GW_seq ?_
 refine GW_region ?_
 refine GL_lit (L := (bys [97, 98, 99])) (wn_none rfl) rfl rfl Tryz.underlying35 ts5 tz5 rfl (by kernel_rfl) rfl rfl hp ?_
 intro g w hp
 refine GL_convB (i := 0) (wn_none rfl) rfl rfl rfl Tryz.underlying35 Tryz.underlying5 hp rfl ?_
 intro w hp
 refine GL_lit (L := [.slice (some ⟨g, 0, none⟩) 3 3]) (wn_none rfl) rfl rfl Tryz.underlying22 ts35 tz35 rfl (by kernel_rfl) rfl rfl hp ?_
 intro g2 w hp
 refine GL_rd (wn_none rfl) rfl (rd_buildS (L := (recC bWR)) rfl tz46 pl46 (by kernel_rfl)) ?_
 refine GL_lit1 (L := _) (wn_none rfl) rfl rfl rfl rfl Tryz.underlying23 ts46 tz46 (by kernel_rfl) (recC_len _) hp ?_
 intro g3 w hp
 refine GL_rd (wn_none rfl) rfl (rd_buildS (L := [.string ⟨#[116, 97, 120]⟩, .int .i64 5, .string ⟨#[110]⟩, .slice (some ⟨g2, 0, none⟩) 1 1, .slice (some ⟨g3, 0, none⟩) 1 1]) rfl tz28 pl28 (by kernel_rfl)) ?_
 refine GL_alloc (wn_none rfl) rfl rfl tz28 rfl hp ?_
 intro g4 w hp
 refine GL_store (i := 0) (wn_none rfl) rfl rfl rfl rfl ts28 rfl rfl (oneC rfl (oneC rfl (oneC rfl (oneC rfl (oneC rfl one0))))) hp rfl (by first | exact Nat.le_of_ble_eq_true rfl | simp [bys_length, *]) rfl ?_
 intro w hp
 refine GL_nil ?_
 refine GW_seq ?_
 refine GW_region ?_
 refine GL_rd (wn_none rfl) rfl (rd_loadC rfl rfl Tryz.underlying28 rfl ts28 (hp.get 0 rfl) (by first | (rw [bys_length]; first | exact a32_len _) | rfl | simp [bys_length, *])) ?_
 refine GL_call (wn_none rfl) rfl rfl (bu_Put (bW (.slice (some ⟨g, 0, none⟩) 3 3)) (.slice (some ⟨g2, 0, none⟩) 1 1) (.slice (some ⟨g3, 0, none⟩) 1 1) _ ⟨Sl.row (hp.get 2 rfl), fun x hx => by rw [List.mem_singleton.1 hx]; exact Sl.blk (hp.get 3 rfl) 1 _ rfl (by simp [maxLen]), one_sl (Sl.row (hp.get 1 rfl))⟩ (bW_sm _)) rfl ?_
 rintro _ w ⟨pv, rfl, hk⟩
 have hp := hp.comp hk
 obtain ⟨hl20, hlm⟩ := bu_len (bW_k (.slice (some ⟨g, 0, none⟩) 3 3))
 obtain ⟨gp, cp, rfl, hcp⟩ := row_addr (hp.get 0 rfl) (by omega)
 rw [bW_k]
 refine GL_rd (v := .tuple _) (wn_none rfl) rfl (rd_move rfl rfl) ?_
 refine GL_rd (v := .slice _ _ _) (wn_none rfl) rfl (rd_extract rfl rfl rfl) ?_
 refine GL_rd (v := .int _ _) (wn_none rfl) rfl (rd_extract rfl rfl rfl) ?_
 refine GL_rd (v := .slice _ _ _) (wn_none rfl) rfl (rd_assign rfl rfl) ?_
 refine GL_rd (v := .int _ _) (wn_none rfl) rfl (rd_assign rfl rfl) ?_
 refine GL_nil ?_
 refine GW_seq ?_
 refine GW_region ?_
 refine GL_rd (v := .slice _ _ _) (wn_none rfl) rfl (rd_move rfl rfl) ?_
 refine GL_call (wn_none rfl) rfl rfl (bu_Get _ (buBytes (bW (.slice (some ⟨g, 0, none⟩) 3 3))) _ (Sl.row (hp.get 0 rfl))) rfl ?_
 rintro _ w ⟨La, ca, Ha, rfl, hTa, hEa, hFa, hk⟩
 have hp := hp.comp hk
 obtain ⟨rfl, B, tv, av, rfl, ho1, ho2, hBb, hBs, rfl⟩ := hTa.yes (getB_put (bW_k _) hlm)
 have hsm := bare_eq hBb
 refine GL_rd (v := .tuple _) (wn_none rfl) rfl (rd_move rfl rfl) ?_
 refine GL_rd (v := .agg ⟨_⟩) (wn_none rfl) rfl (rd_extract rfl rfl rfl) ?_
 refine GL_rd (v := .int _ _) (wn_none rfl) rfl (rd_extract rfl rfl rfl) ?_
 refine GL_alloc (wn_none rfl) rfl rfl tz28 rfl hp ?_
 intro g5 w hp
 refine GL_store (i := 0) (wn_none rfl) rfl rfl rfl rfl ts28 rfl rfl (oneC rfl (oneC rfl (oneC rfl (oneC ho1 (oneC ho2 one0))))) hp rfl (by first | exact Nat.le_of_ble_eq_true rfl | simp [bys_length, *]) rfl ?_
 intro w hp
 refine GL_rd (v := .int _ _) (wn_none rfl) rfl (rd_assign rfl rfl) ?_
 refine GL_nil ?_
 refine GW_seq ?_
 refine GW_seq ?_
 refine GW_region ?_
 refine GL_rd (v := .slice _ _ _) (wn_none rfl) rfl (rd_move rfl rfl) ?_
 refine GL_rd (wn_none rfl) rfl (rd_len rfl rfl Tryz.underlying35) ?_
 refine GL_rd (wn_none rfl) rfl (rd_bin rfl rfl rfl bo_lss) ?_
 refine GL_nil ?_
 refine GW_cond rfl (fun hb => ?_) (fun hb => ?_)
 ·(try simp only [decide_eq_true_eq, decide_eq_false_iff_not, Bool.not_eq_true', Bool.not_eq_false', Bool.not_eq_eq_eq_not, Bool.not_true, Bool.not_false, Int.not_lt, Int.not_le] at hb)
  exact absurd hb (by omega)
 ·(try simp only [decide_eq_true_eq, decide_eq_false_iff_not, Bool.not_eq_true', Bool.not_eq_false', Bool.not_eq_eq_eq_not, Bool.not_true, Bool.not_false, Int.not_lt, Int.not_le] at hb)
  refine GW_skip ?_
  refine GW_seq ?_
  refine GW_region ?_
  refine GL_rd (v := .slice _ _ _) (wn_none rfl) rfl (rd_move rfl rfl) ?_
  refine GL_rd (v := .slice _ _ _) (wn_none rfl) rfl (rd_move rfl rfl) ?_
  refine GL_rd (wn_none rfl) rfl (rd_indexS (j := 10) rfl rfl rfl Tryz.underlying35 ts5 rfl (by omega) _ rfl) ?_
  refine GL_rd (wn_none rfl) rfl (rd_load rfl rfl Tryz.underlying5 rfl (Sl.byte (Sl.row (hp.get 4 rfl)) 10 (by omega))) ?_
  refine GL_rd (wn_none rfl) rfl (rd_bin rfl rfl rfl (bo_xor8 _ 1)) ?_
  refine GL_rd (wn_none rfl) rfl (rd_indexS (j := 10) rfl rfl rfl Tryz.underlying35 ts5 rfl (by omega) _ rfl) ?_
  refine GL_storeR (i := 4) (wn_none rfl) rfl rfl rfl rfl ts5 rfl rfl (one1 rfl) hp rfl rfl (by rw [bys_length]; omega) (flip_store (j := 80) (by omega)) ?_
  intro w hp
  refine GL_nil ?_
  refine GW_seq ?_
  refine GW_region ?_
  have hff : holdsL (flipB (buBytes (bW (.slice (some ⟨g, 0, none⟩) 3 3))) 80) = false := by rw [← flips_one (buBytes (bW (.slice (some ⟨g, 0, none⟩) 3 3))) 80 31]; exact flips_seen (by omega) (by decide) (by decide) (by rw [buBytes_yes (bW_k _)]; exact holds_seal _)
  refine GL_rd (v := .slice _ _ _) (wn_none rfl) rfl (rd_move rfl rfl) ?_
  refine GL_call (wn_none rfl) rfl rfl (bu_Get _ (flipB (buBytes (bW (.slice (some ⟨g, 0, none⟩) 3 3))) 80) _ ((flipB_len (buBytes (bW (.slice (some ⟨g, 0, none⟩) 3 3))) 80).symm ▸ Sl.row (hp.get 4 rfl))) rfl ?_
  rintro _ w ⟨Lb, cb, Hb, rfl, hTb, hEb, hFb, hk⟩
  have hp := hp.comp hk
  obtain rfl : cb = 5 := hEb (by rw [flipB_len]; exact hlm) hff
  obtain ⟨rfl, _, rfl⟩ := hTb.no (by decide)
  refine GL_rd (v := .tuple _) (wn_none rfl) rfl (rd_move rfl rfl) ?_
  refine GL_rd (v := .agg ⟨_⟩) (wn_none rfl) rfl (rd_extract rfl rfl rfl) ?_
  refine GL_rd (v := .int _ _) (wn_none rfl) rfl (rd_extract rfl rfl rfl) ?_
  refine GL_alloc (wn_none rfl) rfl rfl tz28 rfl hp ?_
  intro g6 w hp
  refine GL_store (i := 0) (wn_none rfl) rfl rfl rfl rfl ts28 rfl rfl (by decide) hp rfl (by first | exact Nat.le_of_ble_eq_true rfl | simp [bys_length, *]) rfl ?_
  intro w hp
  refine GL_rd (v := .int _ _) (wn_none rfl) rfl (rd_assign rfl rfl) ?_
  refine GL_nil ?_
  refine GW_seq ?_
  refine GW_region ?_
  refine GL_rd (wn_none rfl) rfl (rd_loadC rfl rfl Tryz.underlying28 rfl ts28 (hp.get 6 rfl) (by first | (rw [bys_length]; first | exact a32_len _) | rfl | simp [bys_length, *])) ?_
  refine GL_call (wn_none rfl) rfl rfl (bu_Seal (bW (.slice (some ⟨g, 0, none⟩) 3 3)) (.slice (some ⟨g2, 0, none⟩) 1 1) (.slice (some ⟨g3, 0, none⟩) 1 1) _ ⟨Sl.row (hp.get 8 rfl), fun x hx => by rw [List.mem_singleton.1 hx]; exact Sl.blk (hp.get 9 rfl) 1 _ rfl (by simp [maxLen]), one_sl (Sl.row (hp.get 7 rfl))⟩ (bW_sm _)) rfl ?_
  rintro _ w ⟨rfl, hk⟩
  have hp := hp.comp hk
  rw [bW_k]
  refine GL_rd (v := .tuple _) (wn_none rfl) rfl (rd_move rfl rfl) ?_
  refine GL_rd (v := .agg ⟨_⟩) (wn_none rfl) rfl (rd_extract rfl rfl rfl) ?_
  refine GL_rd (v := .int _ _) (wn_none rfl) rfl (rd_extract rfl rfl rfl) ?_
  refine GL_alloc (wn_none rfl) rfl rfl tz30 rfl hp ?_
  intro g7 w hp
  refine GL_store (i := 0) (wn_none rfl) rfl rfl rfl rfl ts30 rfl (by rw [bys_length]; exact (buSeal _).2) (bys_one _) hp rfl (Nat.le_of_ble_eq_true rfl) (splice_all _ _ (by rw [bys_length]; exact (buSeal _).2.trans rfl)) ?_
  intro w hp
  refine GL_rd (v := .int _ _) (wn_none rfl) rfl (rd_assign rfl rfl) ?_
  refine GL_nil ?_
  refine GW_seq ?_
  refine GW_region ?_
  refine GL_rd (wn_none rfl) rfl (rd_buildA (L := (bys (List.replicate 32 0))) rfl tz30 Tryz.underlying30 ts5 (by kernel_rfl)) ?_
  refine GL_call (wn_none rfl) rfl rfl (bu_Of8 _ 5 _) rfl ?_
  rintro _ w ⟨rfl, hk⟩
  have hp := hp.comp hk
  refine GL_rd (v := .tuple _) (wn_none rfl) rfl (rd_move rfl rfl) ?_
  refine GL_rd (v := .agg ⟨_⟩) (wn_none rfl) rfl (rd_extract rfl rfl rfl) ?_
  refine GL_rd (v := .int _ _) (wn_none rfl) rfl (rd_extract rfl rfl rfl) ?_
  refine GL_alloc (wn_none rfl) rfl rfl tz28 rfl hp ?_
  intro g8 w hp
  refine GL_store (i := 0) (wn_none rfl) rfl rfl rfl rfl ts28 rfl rfl (by decide) hp rfl (by first | exact Nat.le_of_ble_eq_true rfl | simp [bys_length, *]) rfl ?_
  intro w hp
  refine GL_rd (v := .int _ _) (wn_none rfl) rfl (rd_assign rfl rfl) ?_
  refine GL_nil ?_
  refine GW_seq ?_
  refine GW_drawnK 41 (.one 0 true (.one 1 true (.one 2 true (.one 3 true (.one 4 true (.one 5 true (.one 6 true (.one 7 true (.one 8 true (.one 9 false (.one 10 true (.one 11 true (.one 12 true (.one 13 true (.one 14 true (.one 15 true (.one 16 true (.one 17 true (.one 18 true (.one 19 true (.one 20 true (.one 21 true (.one 22 false (.one 23 true (.one 24 true (.one 25 true (.one 26 true (.one 27 true (.one 28 true (.one 29 true (.one 30 true (.one 31 false (.one 32 true (.one 33 true (.one 34 true (.one 35 true (.one 36 true (.one 37 false (.one 38 true (.one 39 true (.one 40 true .nil))))))))))))))))))))))))))))))))))))))))) mixed (by kernel_rfl) hp (fun _ h => h) fun w hp => ?_
  have hpS := hp
  refine GO_rdT (v := .int _ _) rfl (wn_none rfl) rfl (fun w => (rd_move rfl rfl)) ?_
  refine GO_rd rfl rfl (wn_none rfl) rfl hpS (fun w hp => (rd_bin rfl rfl rfl (bo_eqT rfl))) ?_
  refine GO_rdT (v := .bool _) rfl (wn_none rfl) rfl (fun w => (rd_move rfl rfl)) ?_
  refine GO_rdT (v := .int _ _) rfl (wn_on rfl rfl rfl rfl) rfl (fun w => (rd_move rfl rfl)) ?_
  refine GO_rd rfl rfl (wn_on rfl rfl rfl rfl) rfl hpS (fun w hp => (rd_bin rfl rfl rfl (bo_eqT rfl))) ?_
  refine GO_rdT (v := .bool _) rfl (wn_none rfl) rfl (fun w => (rd_pickT rfl rfl rfl)) ?_
  refine GO_rdT (v := .bool _) rfl (wn_none rfl) rfl (fun w => (rd_move rfl rfl)) ?_
  refine GO_rd rfl rfl (wn_on rfl rfl rfl rfl) rfl hpS (fun w hp => (rd_loadC rfl rfl Tryz.underlying28 rfl ts28 (hp.get 8 rfl) (by first | (rw [bys_length]; first | exact a32_len _) | rfl | simp [bys_length, *]))) ?_
  refine GO_rd rfl rfl (wn_on rfl rfl rfl rfl) rfl hpS (fun w hp => (rd_loadC rfl rfl Tryz.underlying28 rfl ts28 (hp.get 3 rfl) (by first | (rw [bys_length]; first | exact a32_len _) | rfl | simp [bys_length, *]))) ?_
  refine GO_of_GL rfl ?_
  refine GL_call (wn_on rfl rfl rfl rfl) rfl rfl (bu_Same (bW (.slice (some ⟨g, 0, none⟩) 3 3)) B (.slice (some ⟨g2, 0, none⟩) 1 1) (.slice (some ⟨g3, 0, none⟩) 1 1) tv av _ ⟨Sl.row (hp.get 10 rfl), fun x hx => by rw [List.mem_singleton.1 hx]; exact Sl.blk (hp.get 11 rfl) 1 _ rfl (by simp [maxLen]), one_sl (Sl.row (hp.get 9 rfl))⟩ ⟨Sl.row (hp.get 4 rfl), rowsZ_sl (hp.get 5 rfl), Sl.row (hp.get 6 rfl)⟩) rfl ?_
  rintro _ w ⟨rfl, hk⟩
  have hp := hp.comp hk
  rw [decide_eq_true (sameQ_iff.2 hsm.symm)]
  have hpS2 := hp
  refine GL_nil ⟨fun _ => hpS2, ?_⟩
  refine GO_rdT (v := .bool _) rfl (wn_none rfl) rfl (fun w => (rd_pickT rfl rfl rfl)) ?_
  refine GO_rdT (v := .bool _) rfl (wn_none rfl) rfl (fun w => (rd_move rfl rfl)) ?_
  refine GO_rdT (v := .int _ _) rfl (wn_on rfl rfl rfl rfl) rfl (fun w => (rd_move rfl rfl)) ?_
  refine GO_rd rfl rfl (wn_on rfl rfl rfl rfl) rfl hpS2 (fun w hp => (rd_bin rfl rfl rfl (bo_eqT rfl))) ?_
  refine GO_rdT (v := .bool _) rfl (wn_none rfl) rfl (fun w => (rd_pickT rfl rfl rfl)) ?_
  refine GO_rdT (v := .bool _) rfl (wn_none rfl) rfl (fun w => (rd_move rfl rfl)) ?_
  refine GO_rdT (v := .int _ _) rfl (wn_on rfl rfl rfl rfl) rfl (fun w => (rd_move rfl rfl)) ?_
  refine GO_rd rfl rfl (wn_on rfl rfl rfl rfl) rfl hpS2 (fun w hp => (rd_bin rfl rfl rfl (bo_eqT rfl))) ?_
  refine GO_rdT (v := .bool _) rfl (wn_none rfl) rfl (fun w => (rd_pickT rfl rfl rfl)) ?_
  refine GO_rdT (v := .bool _) rfl (wn_none rfl) rfl (fun w => (rd_move rfl rfl)) ?_
  refine GO_rd rfl rfl (wn_on rfl rfl rfl rfl) rfl hpS2 (fun w hp => (rd_loadC rfl rfl Tryz.underlying30 rfl ts30 (hp.get 1 rfl) (by rw [bys_length]; exact (buSeal _).2))) ?_
  refine GO_rd rfl rfl (wn_on rfl rfl rfl rfl) rfl hpS2 (fun w hp => (rd_loadC rfl rfl Tryz.underlying28 rfl ts28 (hp.get 8 rfl) (by first | (rw [bys_length]; first | exact a32_len _) | rfl | simp [bys_length, *]))) ?_
  refine GO_of_GL rfl ?_
  refine GL_call (wn_on rfl rfl rfl rfl) rfl rfl (bu_Address (bW (.slice (some ⟨g, 0, none⟩) 3 3)) (.slice (some ⟨g2, 0, none⟩) 1 1) (.slice (some ⟨g3, 0, none⟩) 1 1) _ ⟨Sl.row (hp.get 10 rfl), fun x hx => by rw [List.mem_singleton.1 hx]; exact Sl.blk (hp.get 11 rfl) 1 _ rfl (by simp [maxLen]), one_sl (Sl.row (hp.get 9 rfl))⟩ (bW_sm _)) rfl ?_
  rintro _ w ⟨rfl, hk⟩
  have hp := hp.comp hk
  have hpS3 := hp
  refine GL_nil ⟨fun _ => hpS3, ?_⟩
  refine GO_rd rfl rfl (wn_on rfl rfl rfl rfl) rfl hpS3 (fun w hp => (rd_bin rfl rfl rfl (bo_boolE (bo_arrB Tryz.underlying30 Tryz.underlying5 ts5 (by kernel_rfl) (buSeal _).2 (buAdr _).2).2 (by rw [decide_eq_false (bW_sa _)])))) ?_
  refine GO_rdT (v := .bool _) rfl (wn_none rfl) rfl (fun w => (rd_pickT rfl rfl rfl)) ?_
  refine GO_rdT (v := .bool _) rfl (wn_none rfl) rfl (fun w => (rd_move rfl rfl)) ?_
  refine GO_rdT (v := .int _ _) rfl (wn_on rfl rfl rfl rfl) rfl (fun w => (rd_move rfl rfl)) ?_
  refine GO_rd rfl rfl (wn_on rfl rfl rfl rfl) rfl hpS3 (fun w hp => (rd_bin rfl rfl rfl (bo_eqT rfl))) ?_
  refine GO_rdT (v := .bool _) rfl (wn_none rfl) rfl (fun w => (rd_pickT rfl rfl rfl)) ?_
  refine GO_rdT (v := .bool _) rfl (wn_none rfl) rfl (fun w => (rd_move rfl rfl)) ?_
  refine GO_rd rfl rfl (wn_on rfl rfl rfl rfl) rfl hpS3 (fun w hp => (rd_buildS (L := buZ) rfl tz28 pl28 (by kernel_rfl))) ?_
  refine GO_of_GL rfl ?_
  refine GL_call (wn_on rfl rfl rfl rfl) rfl rfl (bu_Check bu0 (.slice none 0 0) (.slice none 0 0) _ (bu0_at _) bu0_sm) rfl ?_
  rintro _ w ⟨rfl, hk⟩
  have hp := hp.comp hk
  rw [bu0_k]
  have hpS4 := hp
  refine GL_nil ⟨fun _ => hpS4, ?_⟩
  refine GO_rd rfl rfl (wn_on rfl rfl rfl rfl) rfl hpS4 (fun w hp => (rd_bin rfl rfl rfl (bo_eqT rfl))) ?_
  refine GO_rdT (v := .bool _) rfl (wn_none rfl) rfl (fun w => (rd_pickT rfl rfl rfl)) ?_
  refine GO_rdT (v := .bool _) rfl (wn_none rfl) rfl (fun w => (rd_move rfl rfl)) ?_
  refine GO_rd rfl rfl (wn_on rfl rfl rfl rfl) rfl hpS4 (fun w hp => (rd_loadC rfl rfl Tryz.underlying28 rfl ts28 (hp.get 8 rfl) (by first | (rw [bys_length]; first | exact a32_len _) | rfl | simp [bys_length, *]))) ?_
  refine GO_rd rfl rfl (wn_on rfl rfl rfl rfl) rfl hpS4 (fun w hp => (rd_buildS (L := buZ) rfl tz28 pl28 (by kernel_rfl))) ?_
  refine GO_of_GL rfl ?_
  refine GL_call (wn_on rfl rfl rfl rfl) rfl rfl (bu_Same (bW (.slice (some ⟨g, 0, none⟩) 3 3)) bu0 (.slice (some ⟨g2, 0, none⟩) 1 1) (.slice (some ⟨g3, 0, none⟩) 1 1) (.slice none 0 0) (.slice none 0 0) _ ⟨Sl.row (hp.get 10 rfl), fun x hx => by rw [List.mem_singleton.1 hx]; exact Sl.blk (hp.get 11 rfl) 1 _ rfl (by simp [maxLen]), one_sl (Sl.row (hp.get 9 rfl))⟩ (bu0_at _)) rfl ?_
  rintro _ w ⟨rfl, hk⟩
  have hp := hp.comp hk
  rw [decide_eq_false (bW_ne0 _)]
  have hpS5 := hp
  refine GL_nil ⟨fun _ => hpS5, ?_⟩
  refine GO_rd rfl rfl (wn_on rfl rfl rfl rfl) rfl hpS5 (fun w hp => (rd_not rfl rfl)) ?_
  refine GO_rdT (v := .bool _) rfl (wn_none rfl) rfl (fun w => (rd_pickT rfl rfl rfl)) ?_
  refine GO_rdT (v := .bool _) rfl (wn_none rfl) rfl (fun w => (rd_assign rfl rfl)) ?_
  refine GO_nil ?_
  refine GW_ret ?_
  exact ⟨_, res1 Tryz.results5 (rv_tmp (v := .bool _) rfl rfl), rfl, hp.mods⟩
end Go.Proofs.YtpagpmioopaciaaGreat
