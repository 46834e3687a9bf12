/- Walks of functions of the program. -/
import Derived.Test.YtjbbknjhgdmdkaaFLeaf
set_option linter.unusedVariables false
set_option linter.unusedSimpArgs false
namespace Go.Proofs.Ytjbbknjhgdmdkaa
open Go.Mo Go.RowKit
theorem leaf_works (w0 : World) : Does Try.prog 43 #[] w0 fun v w' => v = .bool true ∧ Hp w0 [] w' [] := by
 refine does_of (l := []) Try.func43 (by kernel_rfl) rfl Try.ntmps43 rfl rfl ?_
 have hp := Hp.refl w0 []
 refine GW_seq ?_
 refine GW_region ?_
 refine GL_rd (v := .bool _) (wn_none rfl) rfl (rd_assign rfl rfl) ?_
 refine GL_nil ?_
 refine GW_seq ?_
 refine GW_region ?_
 refine GL_rd (wn_none rfl) rfl (rd_buildA (L := bys addr5) rfl tz70 Try.underlying70 ts5 (by kernel_rfl)) ?_
 refine GL_lit (L := ([4, 2] : List Int).map (Value.int .i64)) (wn_none rfl) rfl rfl Try.underlying57 ts3 tz3 rfl (by kernel_rfl) rfl rfl hp ?_
 intro g w hp
 refine GL_rd (wn_none rfl) rfl (rd_buildS (L := (textC addr5 300 (.slice (some ⟨g, 0, none⟩) 2 2) 1)) rfl tz72 pl72 (by kernel_rfl)) ?_
 refine GL_alloc (wn_none rfl) rfl rfl tz72 rfl hp ?_
 intro g2 w hp
 refine GL_store (i := 0) (wn_none rfl) rfl rfl rfl rfl ts72 rfl (textC_length addr5_length _ _ _) (textC_one rfl) hp rfl (by decide) (splice_all _ _ (by rw [textC_length addr5_length _ _ _]; rfl)) ?_
 intro w hp
 refine GL_nil ?_
 refine GW_seq ?_
 refine GW_region ?_
 refine GL_rd (wn_none rfl) rfl (rd_loadC rfl rfl Try.underlying72 rfl ts72 (hp.get 0 rfl) (textC_length addr5_length _ _ _)) ?_
 refine GL_call (wn_none rfl) rfl rfl (leaf_Put addr5 300 _ 1 2 ([4, 2] : List Int) _ addr5_length (Sl.row (hp.get 1 rfl)) (by decide)) rfl ?_
 rintro _ w ⟨rfl, hk⟩
 have hp := hp.comp hk
 refine GL_rd (v := .tuple _) (wn_none rfl) rfl (rd_move rfl rfl) ?_
 refine GL_rd (v := .agg ⟨_⟩) (wn_none rfl) rfl (rd_extract rfl rfl rfl) ?_
 refine GL_rd (v := .int _ _) (wn_none rfl) rfl (rd_extract rfl rfl rfl) ?_
 refine GL_alloc (wn_none rfl) rfl rfl tz67 rfl hp ?_
 intro g3 w hp
 refine GL_store (i := 0) (wn_none rfl) rfl rfl rfl rfl ts67 rfl (by rw [bys_length, leafS_length]) (bys_one _) hp rfl (by rw [List.length_replicate]; omega) (splice_all _ _ (by rw [bys_length, leafS_length, List.length_replicate])) ?_
 intro w hp
 refine GL_rd (v := .int _ _) (wn_none rfl) rfl (rd_assign rfl rfl) ?_
 refine GL_nil ?_
 refine GW_seq ?_
 refine GW_region ?_
 refine GL_rd (wn_none rfl) rfl (rd_loadC rfl rfl Try.underlying67 rfl ts67 (hp.get 0 rfl) (by rw [bys_length, leafS_length])) ?_
 refine GL_call (wn_none rfl) rfl rfl (leaf_Get (leafS addr5 300 ([4, 2] : List Int) 1) 9 _ (leafS_length _ _ _ _)) rfl ?_
 rintro _ w ⟨svu9, rfl, hk⟩
 have hp := hp.comp hk
 have hy9 := leaf_back_yes addr5_length (m := 9) (show leafC 300 ([4, 2] : List Int) 1 200 = 0 by decide) (by decide)
 rw [hy9.1, hy9.2.1, hy9.2.2.1, hy9.2.2.2.2.1, hy9.2.2.2.2.2]
 rw [hy9.2.2.2.1] at hp
 obtain ⟨Au9, cu9, rfl⟩ := row_shape (hp.get 0 rfl)
 refine GL_rd (v := .tuple _) (wn_none rfl) rfl (rd_move rfl rfl) ?_
 refine GL_rd (v := .agg ⟨_⟩) (wn_none rfl) rfl (rd_extract rfl rfl rfl) ?_
 refine GL_rd (v := .bool _) (wn_none rfl) rfl (rd_extract rfl rfl rfl) ?_
 refine GL_rd (v := .int _ _) (wn_none rfl) rfl (rd_extract rfl rfl rfl) ?_
 refine GL_alloc (wn_none rfl) rfl rfl tz72 rfl hp ?_
 intro g4 w hp
 refine GL_store (i := 0) (wn_none rfl) rfl rfl rfl rfl ts72 rfl (textC_length addr5_length _ _ _) (textC_one rfl) hp rfl (by decide) (splice_all _ _ (by rw [textC_length addr5_length _ _ _]; rfl)) ?_
 intro w hp
 refine GL_rd (v := .bool _) (wn_none rfl) rfl (rd_assign rfl rfl) ?_
 refine GL_rd (v := .int _ _) (wn_none rfl) rfl (rd_assign rfl rfl) ?_
 refine GL_nil ?_
 refine GW_seq ?_
 refine GW_region ?_
 refine GL_rd (wn_none rfl) rfl (rd_buildA (L := bys (List.replicate 256 0)) rfl tz67 Try.underlying67 ts5 (by kernel_rfl)) ?_
 refine GL_call (wn_none rfl) rfl rfl (leaf_Get (List.replicate 256 0) 9 _ List.length_replicate) rfl ?_
 rintro _ w ⟨svz9, rfl, hk⟩
 have hp := hp.comp hk
 have hz9 := leafGd_zero 9
 rw [(lg_no hz9).1, (lg_no hz9).2.1, (lg_no hz9).2.2.1, hz9, (lgE_z rfl).1]
 obtain ⟨Az9, cz9, rfl⟩ := row_shape (hp.get 0 rfl)
 refine GL_rd (v := .tuple _) (wn_none rfl) rfl (rd_move rfl rfl) ?_
 refine GL_rd (v := .agg ⟨_⟩) (wn_none rfl) rfl (rd_extract rfl rfl rfl) ?_
 refine GL_rd (v := .bool _) (wn_none rfl) rfl (rd_extract rfl rfl rfl) ?_
 refine GL_rd (v := .int _ _) (wn_none rfl) rfl (rd_extract rfl rfl rfl) ?_
 refine GL_alloc (wn_none rfl) rfl rfl tz72 rfl hp ?_
 intro g5 w hp
 refine GL_store (i := 0) (wn_none rfl) rfl rfl rfl rfl ts72 rfl (textC_length List.length_replicate _ _ _) (textC_one rfl) hp rfl (by decide) (splice_all _ _ (by rw [textC_length List.length_replicate _ _ _]; rfl)) ?_
 intro w hp
 refine GL_rd (v := .bool _) (wn_none rfl) rfl (rd_assign rfl rfl) ?_
 refine GL_rd (v := .int _ _) (wn_none rfl) rfl (rd_assign rfl rfl) ?_
 refine GL_nil ?_
 refine GW_seq ?_
 refine GW_region ?_
 refine GL_rd (wn_none rfl) rfl (rd_loadC rfl rfl Try.underlying67 rfl ts67 (hp.get 4 rfl) (by rw [bys_length, leafS_length])) ?_
 refine GL_call (wn_none rfl) rfl rfl (leaf_Get (leafS addr5 300 ([4, 2] : List Int) 1) 4 _ (leafS_length _ _ _ _)) rfl ?_
 rintro _ w ⟨svn4, rfl, hk⟩
 have hp := hp.comp hk
 have hn4 := leaf_back_no addr5_length (m := 4) (show leafC 300 ([4, 2] : List Int) 1 200 = 0 by decide) (by decide)
 rw [(lg_no hn4.1).1, (lg_no hn4.1).2.1, (lg_no hn4.1).2.2.1, hn4.1, hn4.2]
 obtain ⟨An4, cn4, rfl⟩ := row_shape (hp.get 0 rfl)
 refine GL_rd (v := .tuple _) (wn_none rfl) rfl (rd_move rfl rfl) ?_
 refine GL_rd (v := .agg ⟨_⟩) (wn_none rfl) rfl (rd_extract rfl rfl rfl) ?_
 refine GL_rd (v := .bool _) (wn_none rfl) rfl (rd_extract rfl rfl rfl) ?_
 refine GL_rd (v := .int _ _) (wn_none rfl) rfl (rd_extract rfl rfl rfl) ?_
 refine GL_alloc (wn_none rfl) rfl rfl tz72 rfl hp ?_
 intro g6 w hp
 refine GL_store (i := 0) (wn_none rfl) rfl rfl rfl rfl ts72 rfl (textC_length List.length_replicate _ _ _) (textC_one rfl) hp rfl (by decide) (splice_all _ _ (by rw [textC_length List.length_replicate _ _ _]; rfl)) ?_
 intro w hp
 refine GL_rd (v := .bool _) (wn_none rfl) rfl (rd_assign rfl rfl) ?_
 refine GL_rd (v := .int _ _) (wn_none rfl) rfl (rd_assign rfl rfl) ?_
 refine GL_nil ?_
 refine GW_seq ?_
 refine GW_region ?_
 refine GL_rd (wn_none rfl) rfl (rd_loadC rfl rfl Try.underlying72 rfl ts72 (hp.get 7 rfl) (textC_length addr5_length _ _ _)) ?_
 refine GL_call (wn_none rfl) rfl rfl (leaf_Moved addr5 300 _ 1 2 ([4, 2] : List Int) 2 7 _ addr5_length (Sl.row (hp.get 8 rfl)) (by decide) (by decide)) rfl ?_
 rintro _ w ⟨gm, rfl, hk⟩
 have hp := hp.comp hk
 refine GL_rd (v := .tuple _) (wn_none rfl) rfl (rd_move rfl rfl) ?_
 refine GL_rd (v := .agg ⟨_⟩) (wn_none rfl) rfl (rd_extract rfl rfl rfl) ?_
 refine GL_rd (v := .bool _) (wn_none rfl) rfl (rd_extract rfl rfl rfl) ?_
 refine GL_alloc (wn_none rfl) rfl rfl tz72 rfl hp ?_
 intro g7 w hp
 refine GL_store (i := 0) (wn_none rfl) rfl rfl rfl rfl ts72 rfl (textC_length addr5_length _ _ _) (textC_one rfl) hp rfl (by decide) (splice_all _ _ (by rw [textC_length addr5_length _ _ _]; rfl)) ?_
 intro w hp
 refine GL_rd (v := .bool _) (wn_none rfl) rfl (rd_assign rfl rfl) ?_
 refine GL_nil ?_
 refine GW_seq ?_
 refine GW_region ?_
 refine GL_rd (wn_none rfl) rfl (rd_loadC rfl rfl Try.underlying72 rfl ts72 (hp.get 9 rfl) (textC_length addr5_length _ _ _)) ?_
 refine GL_call (wn_none rfl) rfl rfl (leaf_Copy addr5 300 _ 1 2 ([4, 2] : List Int) _ addr5_length (Sl.row (hp.get 10 rfl)) (by decide) (by decide)) rfl ?_
 rintro _ w ⟨gc, rfl, hk⟩
 have hp := hp.comp hk
 refine GL_alloc (wn_none rfl) rfl rfl tz72 rfl hp ?_
 intro g8 w hp
 refine GL_store (i := 0) (wn_none rfl) rfl rfl rfl rfl ts72 rfl (textC_length addr5_length _ _ _) (textC_one rfl) hp rfl (by decide) (splice_all _ _ (by rw [textC_length addr5_length _ _ _]; rfl)) ?_
 intro w hp
 refine GL_nil ?_
 refine GW_seq ?_
 refine GW_region ?_
 refine GL_rd (v := .int _ _) (wn_none rfl) rfl (rd_move rfl rfl) ?_
 refine GL_rd (wn_none rfl) rfl (rd_bin rfl rfl rfl bo_eql) ?_
 refine GL_rd (v := .bool _) (wn_none rfl) rfl (rd_move rfl rfl) ?_
 refine GL_split (t := 51) (b := _) rfl ?_ ?_
 ·intro hb; (try simp only [decide_eq_true_eq, decide_eq_false_iff_not, Bool.not_eq_true', Bool.not_eq_false', Bool.not_eq_eq_eq_not, Bool.not_true, Bool.not_false, Int.not_lt, Int.not_le] at hb)
  refine GL_rd (v := .bool _) (wn_on rfl rfl rfl rfl) rfl (rd_move rfl rfl) ?_
  refine GL_rd (v := .bool _) (wn_none rfl) rfl (rd_pickT rfl rfl rfl) ?_
  refine GL_rd (v := .bool _) (wn_none rfl) rfl (rd_move rfl rfl) ?_
  refine GL_rd (v := .int _ _) (wn_on rfl rfl rfl rfl) rfl (rd_move rfl rfl) ?_
  refine GL_rd (wn_on rfl rfl rfl rfl) rfl (rd_bin rfl rfl rfl bo_eql) ?_
  refine GL_rd (v := .bool _) (wn_none rfl) rfl (rd_pickT rfl rfl rfl) ?_
  refine GL_rd (v := .bool _) (wn_none rfl) rfl (rd_move rfl rfl) ?_
  refine GL_split (t := 58) (b := _) rfl ?_ ?_
  ·intro hb2; (try simp only [decide_eq_true_eq, decide_eq_false_iff_not, Bool.not_eq_true', Bool.not_eq_false', Bool.not_eq_eq_eq_not, Bool.not_true, Bool.not_false, Int.not_lt, Int.not_le] at hb2)
   refine GL_rd (wn_on rfl rfl rfl rfl) rfl (rd_loadC rfl rfl Try.underlying72 rfl ts72 (hp.get 11 rfl) (textC_length addr5_length _ _ _)) ?_
   refine GL_rd (wn_on rfl rfl rfl rfl) rfl (rd_loadC rfl rfl Try.underlying72 rfl ts72 (hp.get 8 rfl) (textC_length addr5_length _ _ _)) ?_
   refine GL_call (wn_on rfl rfl rfl rfl) rfl rfl (leaf_Same addr5 300 _ 1 2 ([4, 2] : List Int) addr5 300 _ 1 2 ([4, 2] : List Int) _ addr5_length (Sl.row (hp.get 12 rfl)) (by decide) addr5_length (Sl.row (hp.get 9 rfl)) (by decide) (by unfold I64s; decide) (by decide) (by unfold I64s; decide) (by decide)) rfl ?_
   rintro _ w ⟨rfl, hk⟩
   have hp := hp.comp hk
   refine GL_rd (v := .bool _) (wn_none rfl) rfl (rd_pickT rfl rfl rfl) ?_
   refine GL_rd (v := .bool _) (wn_none rfl) rfl (rd_move rfl rfl) ?_
   refine GL_split (t := 63) (b := _) rfl ?_ ?_
   ·intro hb3; (try simp only [decide_eq_true_eq, decide_eq_false_iff_not, Bool.not_eq_true', Bool.not_eq_false', Bool.not_eq_eq_eq_not, Bool.not_true, Bool.not_false, Int.not_lt, Int.not_le] at hb3)
    refine GL_rd (v := .bool _) (wn_on rfl rfl rfl rfl) rfl (rd_move rfl rfl) ?_
    refine GL_rd (wn_on rfl rfl rfl rfl) rfl (rd_not rfl rfl) ?_
    refine GL_rd (v := .bool _) (wn_none rfl) rfl (rd_pickT rfl rfl rfl) ?_
    refine GL_rd (v := .bool _) (wn_none rfl) rfl (rd_move rfl rfl) ?_
    refine GL_rd (v := .int _ _) (wn_on rfl rfl rfl rfl) rfl (rd_move rfl rfl) ?_
    refine GL_rd (wn_on rfl rfl rfl rfl) rfl (rd_bin rfl rfl rfl bo_eql) ?_
    refine GL_rd (v := .bool _) (wn_none rfl) rfl (rd_pickT rfl rfl rfl) ?_
    refine GL_rd (v := .bool _) (wn_none rfl) rfl (rd_move rfl rfl) ?_
    refine GL_split (t := 71) (b := _) rfl ?_ ?_
    ·intro hb4; (try simp only [decide_eq_true_eq, decide_eq_false_iff_not, Bool.not_eq_true', Bool.not_eq_false', Bool.not_eq_eq_eq_not, Bool.not_true, Bool.not_false, Int.not_lt, Int.not_le] at hb4)
     refine GL_rd (v := .int _ _) (wn_on rfl rfl rfl rfl) rfl (rd_move rfl rfl) ?_
     refine GL_rd (wn_on rfl rfl rfl rfl) rfl (rd_bin rfl rfl rfl bo_eql) ?_
     refine GL_rd (v := .bool _) (wn_none rfl) rfl (rd_pickT rfl rfl rfl) ?_
     refine GL_rd (v := .bool _) (wn_none rfl) rfl (rd_move rfl rfl) ?_
     refine GL_split (t := 75) (b := _) rfl ?_ ?_
     ·intro hb5; (try simp only [decide_eq_true_eq, decide_eq_false_iff_not, Bool.not_eq_true', Bool.not_eq_false', Bool.not_eq_eq_eq_not, Bool.not_true, Bool.not_false, Int.not_lt, Int.not_le] at hb5)
      refine GL_rd (v := .bool _) (wn_on rfl rfl rfl rfl) rfl (rd_move rfl rfl) ?_
      refine GL_rd (v := .bool _) (wn_none rfl) rfl (rd_pickT rfl rfl rfl) ?_
      refine GL_rd (v := .bool _) (wn_none rfl) rfl (rd_move rfl rfl) ?_
      refine GL_split (t := 78) (b := _) rfl ?_ ?_
      ·intro hb6; (try simp only [decide_eq_true_eq, decide_eq_false_iff_not, Bool.not_eq_true', Bool.not_eq_false', Bool.not_eq_eq_eq_not, Bool.not_true, Bool.not_false, Int.not_lt, Int.not_le] at hb6)
       refine GL_rd (wn_on rfl rfl rfl rfl) rfl (rd_field rfl rfl fa72_2 _ rfl) ?_
       refine GL_rd (v := .slice _ _ _) (wn_on rfl rfl rfl rfl) rfl (rd_load rfl rfl Try.underlying57 rfl ((cell_of_cells (hp.get 2 rfl) _).trans (txt33 addr5_length _ _ _))) ?_
       refine GL_rd (wn_on rfl rfl rfl rfl) rfl (rd_len rfl rfl Try.underlying57) ?_
       refine GL_rd (wn_on rfl rfl rfl rfl) rfl (rd_bin rfl rfl rfl bo_eql) ?_
       refine GL_rd (v := .bool _) (wn_none rfl) rfl (rd_pickT rfl rfl rfl) ?_
       refine GL_rd (v := .bool _) (wn_none rfl) rfl (rd_move rfl rfl) ?_
       refine GL_split (t := 84) (b := _) rfl ?_ ?_
       ·intro hb7; (try simp only [decide_eq_true_eq, decide_eq_false_iff_not, Bool.not_eq_true', Bool.not_eq_false', Bool.not_eq_eq_eq_not, Bool.not_true, Bool.not_false, Int.not_lt, Int.not_le] at hb7)
        refine GL_rd (wn_on rfl rfl rfl rfl) rfl (rd_field rfl rfl fa72_2 _ rfl) ?_
        refine GL_rd (v := .slice _ _ _) (wn_on rfl rfl rfl rfl) rfl (rd_load rfl rfl Try.underlying57 rfl ((cell_of_cells (hp.get 2 rfl) _).trans (txt33 addr5_length _ _ _))) ?_
        refine GL_rd (wn_on rfl rfl rfl rfl) rfl (rd_indexS (j := 1) rfl rfl rfl Try.underlying57 ts3 rfl (by decide) _ rfl) ?_
        refine GL_rd (wn_on rfl rfl rfl rfl) rfl (rd_load rfl rfl Try.underlying3 rfl ((Sl.row (hp.get 3 rfl)).get (1 * 1) (.int .i64 7) rfl)) ?_
        refine GL_rd (wn_on rfl rfl rfl rfl) rfl (rd_bin rfl rfl rfl bo_eql) ?_
        refine GL_rd (v := .bool _) (wn_none rfl) rfl (rd_pickT rfl rfl rfl) ?_
        refine GL_rd (v := .bool _) (wn_none rfl) rfl (rd_move rfl rfl) ?_
        refine GL_split (t := 91) (b := _) rfl ?_ ?_
        ·intro hb8; (try simp only [decide_eq_true_eq, decide_eq_false_iff_not, Bool.not_eq_true', Bool.not_eq_false', Bool.not_eq_eq_eq_not, Bool.not_true, Bool.not_false, Int.not_lt, Int.not_le] at hb8)
         refine GL_rd (wn_on rfl rfl rfl rfl) rfl (rd_field rfl rfl fa72_2 _ rfl) ?_
         refine GL_rd (v := .slice _ _ _) (wn_on rfl rfl rfl rfl) rfl (rd_load rfl rfl Try.underlying57 rfl ((cell_of_cells (hp.get 11 rfl) _).trans (txt33 addr5_length _ _ _))) ?_
         refine GL_rd (wn_on rfl rfl rfl rfl) rfl (rd_indexS (j := 1) rfl rfl rfl Try.underlying57 ts3 rfl (by decide) _ rfl) ?_
         refine GL_rd (wn_on rfl rfl rfl rfl) rfl (rd_load rfl rfl Try.underlying3 rfl ((Sl.row (hp.get 12 rfl)).get (1 * 1) (.int .i64 2) rfl)) ?_
         refine GL_rd (wn_on rfl rfl rfl rfl) rfl (rd_bin rfl rfl rfl bo_eql) ?_
         refine GL_rd (v := .bool _) (wn_none rfl) rfl (rd_pickT rfl rfl rfl) ?_
         refine GL_rd (v := .bool _) (wn_none rfl) rfl (rd_move rfl rfl) ?_
         refine GL_split (t := 98) (b := _) rfl ?_ ?_
         ·intro hb9; (try simp only [decide_eq_true_eq, decide_eq_false_iff_not, Bool.not_eq_true', Bool.not_eq_false', Bool.not_eq_eq_eq_not, Bool.not_true, Bool.not_false, Int.not_lt, Int.not_le] at hb9)
          refine GL_rd (wn_on rfl rfl rfl rfl) rfl (rd_loadC rfl rfl Try.underlying72 rfl ts72 (hp.get 0 rfl) (textC_length addr5_length _ _ _)) ?_
          refine GL_rd (wn_on rfl rfl rfl rfl) rfl (rd_loadC rfl rfl Try.underlying72 rfl ts72 (hp.get 11 rfl) (textC_length addr5_length _ _ _)) ?_
          refine GL_call (wn_on rfl rfl rfl rfl) rfl rfl (leaf_Same addr5 300 _ 1 2 ([4, 2] : List Int) addr5 300 _ 1 2 ([4, 2] : List Int) _ addr5_length (Sl.row (hp.get 1 rfl)) (by decide) addr5_length (Sl.row (hp.get 12 rfl)) (by decide) (by unfold I64s; decide) (by decide) (by unfold I64s; decide) (by decide)) rfl ?_
          rintro _ w ⟨rfl, hk⟩
          have hp := hp.comp hk
          refine GL_rd (v := .bool _) (wn_none rfl) rfl (rd_pickT rfl rfl rfl) ?_
          refine GL_rd (v := .bool _) (wn_none rfl) rfl (rd_move rfl rfl) ?_
          refine GL_split (t := 103) (b := _) rfl ?_ ?_
          ·intro hb10; (try simp only [decide_eq_true_eq, decide_eq_false_iff_not, Bool.not_eq_true', Bool.not_eq_false', Bool.not_eq_eq_eq_not, Bool.not_true, Bool.not_false, Int.not_lt, Int.not_le] at hb10)
           refine GL_rd (wn_on rfl rfl rfl rfl) rfl (rd_loadC rfl rfl Try.underlying72 rfl ts72 (hp.get 11 rfl) (textC_length addr5_length _ _ _)) ?_
           refine GL_call (wn_on rfl rfl rfl rfl) rfl rfl (leaf_Check addr5 300 _ 1 2 ([4, 2] : List Int) 4 _ addr5_length (Sl.row (hp.get 12 rfl)) (by decide)) rfl ?_
           rintro _ w ⟨rfl, hk⟩
           have hp := hp.comp hk
           refine GL_rd (wn_on rfl rfl rfl rfl) rfl (rd_bin rfl rfl rfl bo_eql) ?_
           refine GL_rd (v := .bool _) (wn_none rfl) rfl (rd_pickT rfl rfl rfl) ?_
           refine GL_rd (v := .bool _) (wn_none rfl) rfl (rd_assign rfl rfl) ?_
           refine GL_nil ?_
           refine GW_ret ?_
           exact ⟨_, res1 Try.results43 (rv_tmp (v := .bool _) rfl rfl), rfl, hp.mods⟩
          ·intro hb10; (try simp only [decide_eq_true_eq, decide_eq_false_iff_not, Bool.not_eq_true', Bool.not_eq_false', Bool.not_eq_eq_eq_not, Bool.not_true, Bool.not_false, Int.not_lt, Int.not_le] at hb10)
           all_goals first | exact absurd rfl hb10 | exact absurd trivial hb10 | exact absurd ((same_yes ⟨rfl, rfl, rfl, rfl⟩).symm.trans hb10) Bool.noConfusion | exact absurd hb10 (by decide) | exact absurd (by decide) hb10 | exact absurd hb10 (by simp)
         ·intro hb9; (try simp only [decide_eq_true_eq, decide_eq_false_iff_not, Bool.not_eq_true', Bool.not_eq_false', Bool.not_eq_eq_eq_not, Bool.not_true, Bool.not_false, Int.not_lt, Int.not_le] at hb9)
          all_goals first | exact absurd rfl hb9 | exact absurd trivial hb9 | exact absurd ((same_yes ⟨rfl, rfl, rfl, rfl⟩).symm.trans hb9) Bool.noConfusion | exact absurd hb9 (by decide) | exact absurd (by decide) hb9 | exact absurd hb9 (by simp)
        ·intro hb8; (try simp only [decide_eq_true_eq, decide_eq_false_iff_not, Bool.not_eq_true', Bool.not_eq_false', Bool.not_eq_eq_eq_not, Bool.not_true, Bool.not_false, Int.not_lt, Int.not_le] at hb8)
         all_goals first | exact absurd rfl hb8 | exact absurd trivial hb8 | exact absurd ((same_yes ⟨rfl, rfl, rfl, rfl⟩).symm.trans hb8) Bool.noConfusion | exact absurd hb8 (by decide) | exact absurd (by decide) hb8 | exact absurd hb8 (by simp)
       ·intro hb7; (try simp only [decide_eq_true_eq, decide_eq_false_iff_not, Bool.not_eq_true', Bool.not_eq_false', Bool.not_eq_eq_eq_not, Bool.not_true, Bool.not_false, Int.not_lt, Int.not_le] at hb7)
        all_goals first | exact absurd rfl hb7 | exact absurd trivial hb7 | exact absurd ((same_yes ⟨rfl, rfl, rfl, rfl⟩).symm.trans hb7) Bool.noConfusion | exact absurd hb7 (by decide) | exact absurd (by decide) hb7 | exact absurd hb7 (by simp)
      ·intro hb6; (try simp only [decide_eq_true_eq, decide_eq_false_iff_not, Bool.not_eq_true', Bool.not_eq_false', Bool.not_eq_eq_eq_not, Bool.not_true, Bool.not_false, Int.not_lt, Int.not_le] at hb6)
       all_goals first | exact absurd rfl hb6 | exact absurd trivial hb6 | exact absurd ((same_yes ⟨rfl, rfl, rfl, rfl⟩).symm.trans hb6) Bool.noConfusion | exact absurd hb6 (by decide) | exact absurd (by decide) hb6 | exact absurd hb6 (by simp)
     ·intro hb5; (try simp only [decide_eq_true_eq, decide_eq_false_iff_not, Bool.not_eq_true', Bool.not_eq_false', Bool.not_eq_eq_eq_not, Bool.not_true, Bool.not_false, Int.not_lt, Int.not_le] at hb5)
      all_goals first | exact absurd rfl hb5 | exact absurd trivial hb5 | exact absurd ((same_yes ⟨rfl, rfl, rfl, rfl⟩).symm.trans hb5) Bool.noConfusion | exact absurd hb5 (by decide) | exact absurd (by decide) hb5 | exact absurd hb5 (by simp)
    ·intro hb4; (try simp only [decide_eq_true_eq, decide_eq_false_iff_not, Bool.not_eq_true', Bool.not_eq_false', Bool.not_eq_eq_eq_not, Bool.not_true, Bool.not_false, Int.not_lt, Int.not_le] at hb4)
     all_goals first | exact absurd rfl hb4 | exact absurd trivial hb4 | exact absurd ((same_yes ⟨rfl, rfl, rfl, rfl⟩).symm.trans hb4) Bool.noConfusion | exact absurd hb4 (by decide) | exact absurd (by decide) hb4 | exact absurd hb4 (by simp)
   ·intro hb3; (try simp only [decide_eq_true_eq, decide_eq_false_iff_not, Bool.not_eq_true', Bool.not_eq_false', Bool.not_eq_eq_eq_not, Bool.not_true, Bool.not_false, Int.not_lt, Int.not_le] at hb3)
    all_goals first | exact absurd rfl hb3 | exact absurd trivial hb3 | exact absurd ((same_yes ⟨rfl, rfl, rfl, rfl⟩).symm.trans hb3) Bool.noConfusion | exact absurd hb3 (by decide) | exact absurd (by decide) hb3 | exact absurd hb3 (by simp)
  ·intro hb2; (try simp only [decide_eq_true_eq, decide_eq_false_iff_not, Bool.not_eq_true', Bool.not_eq_false', Bool.not_eq_eq_eq_not, Bool.not_true, Bool.not_false, Int.not_lt, Int.not_le] at hb2)
   all_goals first | exact absurd rfl hb2 | exact absurd trivial hb2 | exact absurd ((same_yes ⟨rfl, rfl, rfl, rfl⟩).symm.trans hb2) Bool.noConfusion | exact absurd hb2 (by decide) | exact absurd (by decide) hb2 | exact absurd hb2 (by simp)
 ·intro hb; (try simp only [decide_eq_true_eq, decide_eq_false_iff_not, Bool.not_eq_true', Bool.not_eq_false', Bool.not_eq_eq_eq_not, Bool.not_true, Bool.not_false, Int.not_lt, Int.not_le] at hb)
  all_goals first | exact absurd rfl hb | exact absurd trivial hb | exact absurd ((same_yes ⟨rfl, rfl, rfl, rfl⟩).symm.trans hb) Bool.noConfusion | exact absurd hb (by decide) | exact absurd (by decide) hb | exact absurd hb (by simp)

theorem law_LeafPuts (a1 : List UInt8) (s1 : Int) (sv1 : Value) (b1 : Int) (n1 : Nat) (l1 : List Int) (a2 : List UInt8) (s2 : Int) (sv2 : Value) (b2 : Int) (n2 : Nat) (l2 : List Int) (m from_ to_ : Int) (w0 : World) (ha1 : a1.length = 32) (hs1 : Sl w0 sv1 1 n1 (l1.map (Value.int .i64))) (hsz1 : -9223372036854775808 ≤ s1 ∧ s1 ≤ 9223372036854775807) (ha2 : a2.length = 32) (hs2 : Sl w0 sv2 1 n2 (l2.map (Value.int .i64))) (hsz2 : -9223372036854775808 ≤ s2 ∧ s2 ≤ 9223372036854775807) (hr1 : I64s l1) (hr2 : I64s l2) : Does Try.prog 7 #[.agg ⟨textC a1 s1 sv1 b1⟩, .agg ⟨textC a2 s2 sv2 b2⟩, .int .i64 m, .int .i64 from_, .int .i64 to_] w0 fun v w' => v = .bool true ∧ Hp w0 [] w' [] := by
 obtain ⟨A1, c1, rfl⟩ := sl_shape hs1
 have hnl1 : l1.length = n1 := by have := hs1.len; simpa using this
 have hmle1 := hs1.le
 obtain ⟨A2, c2, rfl⟩ := sl_shape hs2
 have hnl2 : l2.length = n2 := by have := hs2.len; simpa using this
 have hmle2 := hs2.le
 refine does_of (l := [.agg ⟨textC a1 s1 (.slice A1 n1 c1) b1⟩, .agg ⟨textC a2 s2 (.slice A2 n2 c2) b2⟩, .int .i64 m, .int .i64 from_, .int .i64 to_]) Try.func7 (by kernel_rfl) rfl Try.ntmps7 rfl rfl ?_
 have hp := Hp.refl w0 []
 refine GW_seq ?_
 refine GW_region ?_
 refine GL_box (wn_none rfl) rfl rfl rfl rfl hp ?_
 intro g w hp
 refine GL_box (wn_none rfl) rfl rfl rfl rfl hp ?_
 intro g2 w hp
 refine GL_rd (v := .bool _) (wn_none rfl) rfl (rd_assign rfl rfl) ?_
 refine GL_nil ?_
 refine GW_seq ?_
 refine GW_seq ?_
 refine GW_region ?_
 refine GL_rd (wn_none rfl) rfl (rd_loadC rfl rfl Try.underlying72 rfl ts72 (hp.get 1 rfl) (textC_length ha1 _ _ _)) ?_
 refine GL_call (wn_none rfl) rfl rfl (leaf_light a1 s1 _ b1 n1 l1 _ ha1 (hs1.keep hp.mod) hsz1) rfl ?_
 rintro _ w ⟨rfl, hk⟩
 have hp := hp.comp hk
 refine GL_rd (wn_none rfl) rfl (rd_not rfl rfl) ?_
 refine GL_rd (v := .bool _) (wn_none rfl) rfl (rd_move rfl rfl) ?_
 refine GL_split (t := 22) (b := _) rfl ?_ ?_
 ·intro hb; (try simp only [decide_eq_true_eq, decide_eq_false_iff_not, Bool.not_eq_true', Bool.not_eq_false', Bool.not_eq_eq_eq_not, Bool.not_true, Bool.not_false, Int.not_lt, Int.not_le] at hb)
  refine GL_pass (nw_off rfl rfl rfl rfl rfl) rfl ?_
  refine GL_pass (nw_off rfl rfl rfl rfl rfl) rfl ?_
  refine GL_pass (nw_off rfl rfl rfl rfl rfl) rfl ?_
  refine GL_rd (v := .bool _) (wn_none rfl) rfl (rd_pickT rfl rfl rfl) ?_
  refine GL_nil ?_
  refine GW_true rfl ?_
  refine GW_seq ?_
  refine GW_region ?_
  refine GL_call (wn_none rfl) rfl rfl (leaf_works _) rfl ?_
  rintro _ w ⟨rfl, hk⟩
  have hp := hp.comp hk
  refine GL_rd (v := .bool _) (wn_none rfl) rfl (rd_assign rfl rfl) ?_
  refine GL_nil ?_
  refine GW_ret ?_
  exact ⟨_, res1 Try.results7 (rv_tmp (v := .bool _) rfl rfl), rfl, hp.mods⟩
 ·intro hb; (try simp only [decide_eq_true_eq, decide_eq_false_iff_not, Bool.not_eq_true', Bool.not_eq_false', Bool.not_eq_eq_eq_not, Bool.not_true, Bool.not_false, Int.not_lt, Int.not_le] at hb)
  have hq1 := hb
  refine GL_rd (wn_on rfl rfl rfl rfl) rfl (rd_loadC rfl rfl Try.underlying72 rfl ts72 (hp.get 0 rfl) (textC_length ha2 _ _ _)) ?_
  refine GL_call (wn_on rfl rfl rfl rfl) rfl rfl (leaf_light a2 s2 _ b2 n2 l2 _ ha2 (hs2.keep hp.mod) hsz2) rfl ?_
  rintro _ w ⟨rfl, hk⟩
  have hp := hp.comp hk
  refine GL_rd (wn_on rfl rfl rfl rfl) rfl (rd_not rfl rfl) ?_
  refine GL_rd (v := .bool _) (wn_none rfl) rfl (rd_pickF rfl rfl rfl) ?_
  refine GL_nil ?_
  refine GW_cond rfl (fun hb2 => ?_) (fun hb2 => ?_)
  ·(try simp only [decide_eq_true_eq, decide_eq_false_iff_not, Bool.not_eq_true', Bool.not_eq_false', Bool.not_eq_eq_eq_not, Bool.not_true, Bool.not_false, Int.not_lt, Int.not_le] at hb2)
   refine GW_seq ?_
   refine GW_region ?_
   refine GL_call (wn_none rfl) rfl rfl (leaf_works _) rfl ?_
   rintro _ w ⟨rfl, hk⟩
   have hp := hp.comp hk
   refine GL_rd (v := .bool _) (wn_none rfl) rfl (rd_assign rfl rfl) ?_
   refine GL_nil ?_
   refine GW_ret ?_
   exact ⟨_, res1 Try.results7 (rv_tmp (v := .bool _) rfl rfl), rfl, hp.mods⟩
  ·(try simp only [decide_eq_true_eq, decide_eq_false_iff_not, Bool.not_eq_true', Bool.not_eq_false', Bool.not_eq_eq_eq_not, Bool.not_true, Bool.not_false, Int.not_lt, Int.not_le] at hb2)
   have hq2 := hb2
   refine GW_skip ?_
   refine GW_seq ?_
   refine GW_region ?_
   refine GL_rd (wn_none rfl) rfl (rd_loadC rfl rfl Try.underlying72 rfl ts72 (hp.get 1 rfl) (textC_length ha1 _ _ _)) ?_
   refine GL_call (wn_none rfl) rfl rfl (leaf_Put a1 s1 _ b1 n1 l1 _ ha1 (hs1.keep hp.mod) hsz1) rfl ?_
   rintro _ w ⟨rfl, hk⟩
   have hp := hp.comp hk
   refine GL_rd (v := .tuple _) (wn_none rfl) rfl (rd_move rfl rfl) ?_
   refine GL_rd (v := .agg ⟨_⟩) (wn_none rfl) rfl (rd_extract rfl rfl rfl) ?_
   refine GL_rd (v := .int _ _) (wn_none rfl) rfl (rd_extract rfl rfl rfl) ?_
   refine GL_alloc (wn_none rfl) rfl rfl tz67 rfl hp ?_
   intro g3 w hp
   refine GL_store (i := 0) (wn_none rfl) rfl rfl rfl rfl ts67 rfl (by rw [bys_length, leafS_length]) (bys_one _) hp rfl (by rw [List.length_replicate]; omega) (splice_all _ _ (by rw [bys_length, leafS_length, List.length_replicate])) ?_
   intro w hp
   refine GL_rd (v := .int _ _) (wn_none rfl) rfl (rd_assign rfl rfl) ?_
   refine GL_nil ?_
   refine GW_seq ?_
   refine GW_region ?_
   refine GL_rd (wn_none rfl) rfl (rd_loadC rfl rfl Try.underlying72 rfl ts72 (hp.get 2 rfl) (textC_length ha1 _ _ _)) ?_
   refine GL_call (wn_none rfl) rfl rfl (ref_leafPut a1 s1 _ b1 n1 l1 _ ha1 (hs1.keep hp.mod) hsz1) rfl ?_
   rintro _ w ⟨rfl, hk⟩
   have hp := hp.comp hk
   refine GL_rd (v := .tuple _) (wn_none rfl) rfl (rd_move rfl rfl) ?_
   refine GL_rd (v := .agg ⟨_⟩) (wn_none rfl) rfl (rd_extract rfl rfl rfl) ?_
   refine GL_rd (v := .int _ _) (wn_none rfl) rfl (rd_extract rfl rfl rfl) ?_
   refine GL_alloc (wn_none rfl) rfl rfl tz67 rfl hp ?_
   intro g4 w hp
   refine GL_store (i := 0) (wn_none rfl) rfl rfl rfl rfl ts67 rfl (by rw [bys_length, leafS_length]) (bys_one _) hp rfl (by rw [List.length_replicate]; omega) (splice_all _ _ (by rw [bys_length, leafS_length, List.length_replicate])) ?_
   intro w hp
   refine GL_rd (v := .int _ _) (wn_none rfl) rfl (rd_assign rfl rfl) ?_
   refine GL_nil ?_
   refine GW_seq ?_
   refine GW_region ?_
   refine GL_rd (wn_none rfl) rfl (rd_loadC rfl rfl Try.underlying72 rfl ts72 (hp.get 3 rfl) (textC_length ha1 _ _ _)) ?_
   refine GL_rd (v := .int _ _) (wn_none rfl) rfl (rd_move rfl rfl) ?_
   refine GL_rd (v := .int _ _) (wn_none rfl) rfl (rd_move rfl rfl) ?_
   refine GL_call (wn_none rfl) rfl rfl (leaf_Moved a1 s1 _ b1 n1 l1 from_ to_ _ ha1 (hs1.keep hp.mod) hsz1 (by omega)) rfl ?_
   rintro _ w ⟨gm, rfl, hk⟩
   have hp := hp.comp hk
   refine GL_rd (v := .tuple _) (wn_none rfl) rfl (rd_move rfl rfl) ?_
   refine GL_rd (v := .agg ⟨_⟩) (wn_none rfl) rfl (rd_extract rfl rfl rfl) ?_
   refine GL_rd (v := .bool _) (wn_none rfl) rfl (rd_extract rfl rfl rfl) ?_
   refine GL_alloc (wn_none rfl) rfl rfl tz72 rfl hp ?_
   intro g5 w hp
   refine GL_store (i := 0) (wn_none rfl) rfl rfl rfl rfl ts72 rfl (textC_length ha1 _ _ _) (textC_one rfl) hp rfl (by decide) (splice_all _ _ (by rw [textC_length ha1 _ _ _]; rfl)) ?_
   intro w hp
   refine GL_rd (v := .bool _) (wn_none rfl) rfl (rd_assign rfl rfl) ?_
   refine GL_nil ?_
   refine GW_seq ?_
   refine GW_region ?_
   refine GL_rd (wn_none rfl) rfl (rd_loadC rfl rfl Try.underlying72 rfl ts72 (hp.get 5 rfl) (textC_length ha1 _ _ _)) ?_
   refine GL_rd (v := .int _ _) (wn_none rfl) rfl (rd_move rfl rfl) ?_
   refine GL_rd (v := .int _ _) (wn_none rfl) rfl (rd_move rfl rfl) ?_
   refine GL_call (wn_none rfl) rfl rfl (ref_leafMoved a1 s1 _ b1 n1 l1 from_ to_ _ ha1 (hs1.keep hp.mod) hsz1 (by omega)) rfl ?_
   rintro _ w ⟨rm, rfl, hk⟩
   have hp := hp.comp hk
   obtain ⟨Arm, crm, rfl⟩ := row_shape (hp.get 0 rfl)
   refine GL_rd (v := .tuple _) (wn_none rfl) rfl (rd_move rfl rfl) ?_
   refine GL_rd (v := .agg ⟨_⟩) (wn_none rfl) rfl (rd_extract rfl rfl rfl) ?_
   refine GL_rd (v := .bool _) (wn_none rfl) rfl (rd_extract rfl rfl rfl) ?_
   refine GL_alloc (wn_none rfl) rfl rfl tz72 rfl hp ?_
   intro g6 w hp
   refine GL_store (i := 0) (wn_none rfl) rfl rfl rfl rfl ts72 rfl (textC_length ha1 _ _ _) (textC_one rfl) hp rfl (by decide) (splice_all _ _ (by rw [textC_length ha1 _ _ _]; rfl)) ?_
   intro w hp
   refine GL_rd (v := .bool _) (wn_none rfl) rfl (rd_assign rfl rfl) ?_
   refine GL_nil ?_
   refine GW_seq ?_
   refine GW_drawnK 46 (.one 0 true (.one 1 true (.one 3 true (.one 4 true (.one 2 false (.one 5 false (.one 6 true (.one 7 true (.one 8 true (.one 9 true (.one 10 true (.one 11 true (.one 12 true (.one 13 true (.one 14 true (.one 15 true (.one 16 true (.one 17 true (.one 18 true (.one 19 true (.one 21 true (.one 22 true (.one 20 false (.one 23 false (.one 24 true (.one 25 true (.one 26 true (.one 27 true (.one 29 true (.one 28 false (.one 30 false (.one 31 true (.one 32 true (.one 33 true (.one 34 true (.one 35 true (.one 36 true (.one 37 true (.one 38 true (.one 39 true (.one 40 false (.one 41 true (.one 42 true (.one 43 false (.one 44 true (.one 45 true .nil)))))))))))))))))))))))))))))))))))))))))))))) mixed (by kernel_rfl) hp (fun _ h => h) fun w hp => ?_
   have hpS := hp
   refine GO_rd rfl (wn_none rfl) rfl hpS (fun w hp => (rd_loadC rfl rfl Try.underlying72 rfl ts72 (hp.get 7 rfl) (textC_length ha1 _ _ _))) ?_
   refine GO_rd (v := .int _ _) rfl (wn_none rfl) rfl hpS (fun w hp => (rd_move rfl rfl)) ?_
   refine GO_rd rfl (wn_none rfl) rfl hpS (fun w hp => (rd_loadC rfl rfl Try.underlying72 rfl ts72 (hp.get 7 rfl) (textC_length ha1 _ _ _))) ?_
   refine GO_rd (v := .int _ _) rfl (wn_none rfl) rfl hpS (fun w hp => (rd_move rfl rfl)) ?_
   refine GO_of_GL rfl ?_
   refine GL_call (wn_none rfl) rfl rfl (leaf_Check a1 s1 _ b1 n1 l1 m _ ha1 (hs1.keep hp.mod) hsz1) rfl ?_
   rintro _ w ⟨rfl, hk⟩
   have hp := hp.comp hk
   have hpS2 := hp
   refine GL_nil ⟨fun _ => hpS2, ?_⟩
   refine GO_of_GL rfl ?_
   refine GL_call (wn_none rfl) rfl rfl (ref_leafCheck a1 s1 _ b1 n1 l1 m _ ha1 (hs1.keep hp.mod) hsz1) rfl ?_
   rintro _ w ⟨rfl, hk⟩
   have hp := hp.comp hk
   have hpS3 := hp
   refine GL_nil ⟨fun _ => hpS3, ?_⟩
   refine GO_rd rfl (wn_none rfl) rfl hpS3 (fun w hp => (rd_bin rfl rfl rfl bo_eql)) ?_
   refine GO_rd (v := .bool _) rfl (wn_none rfl) rfl hpS3 (fun w hp => (rd_move rfl rfl)) ?_
   refine GO_split (t := 59) (b := _) rfl ?_ ?_
   ·intro hb3; (try simp only [decide_eq_true_eq, decide_eq_false_iff_not, Bool.not_eq_true', Bool.not_eq_false', Bool.not_eq_eq_eq_not, Bool.not_true, Bool.not_false, Int.not_lt, Int.not_le] at hb3)
    refine GO_rd rfl (wn_on rfl rfl rfl rfl) rfl hpS3 (fun w hp => (rd_loadC rfl rfl Try.underlying67 rfl ts67 (hp.get 5 rfl) (by rw [bys_length, leafS_length]))) ?_
    refine GO_rd rfl (wn_on rfl rfl rfl rfl) rfl hpS3 (fun w hp => (rd_loadC rfl rfl Try.underlying67 rfl ts67 (hp.get 4 rfl) (by rw [bys_length, leafS_length]))) ?_
    refine GO_rd rfl (wn_on rfl rfl rfl rfl) rfl hpS3 (fun w hp => (rd_bin rfl rfl rfl (bo_arrB Try.underlying67 Try.underlying5 ts5 (by kernel_rfl) (leafS_length _ _ _ _) (leafS_length _ _ _ _)).1)) ?_
    refine GO_rd (v := .bool _) rfl (wn_none rfl) rfl hpS3 (fun w hp => (rd_pickT rfl rfl rfl)) ?_
    refine GO_rd (v := .bool _) rfl (wn_none rfl) rfl hpS3 (fun w hp => (rd_move rfl rfl)) ?_
    refine GO_split (t := 64) (b := _) rfl ?_ ?_
    ·intro hb4; (try simp only [decide_eq_true_eq, decide_eq_false_iff_not, Bool.not_eq_true', Bool.not_eq_false', Bool.not_eq_eq_eq_not, Bool.not_true, Bool.not_false, Int.not_lt, Int.not_le] at hb4)
     refine GO_rd (v := .int _ _) rfl (wn_on rfl rfl rfl rfl) rfl hpS3 (fun w hp => (rd_move rfl rfl)) ?_
     refine GO_rd (v := .int _ _) rfl (wn_on rfl rfl rfl rfl) rfl hpS3 (fun w hp => (rd_move rfl rfl)) ?_
     refine GO_rd rfl (wn_on rfl rfl rfl rfl) rfl hpS3 (fun w hp => (rd_bin rfl rfl rfl bo_eql)) ?_
     refine GO_rd (v := .bool _) rfl (wn_none rfl) rfl hpS3 (fun w hp => (rd_pickT rfl rfl rfl)) ?_
     refine GO_rd (v := .bool _) rfl (wn_none rfl) rfl hpS3 (fun w hp => (rd_move rfl rfl)) ?_
     refine GO_split (t := 69) (b := _) rfl ?_ ?_
     ·intro hb5; (try simp only [decide_eq_true_eq, decide_eq_false_iff_not, Bool.not_eq_true', Bool.not_eq_false', Bool.not_eq_eq_eq_not, Bool.not_true, Bool.not_false, Int.not_lt, Int.not_le] at hb5)
      refine GO_rd rfl (wn_on rfl rfl rfl rfl) rfl hpS3 (fun w hp => (rd_loadC rfl rfl Try.underlying72 rfl ts72 (hp.get 7 rfl) (textC_length ha1 _ _ _))) ?_
      refine GO_rd rfl (wn_on rfl rfl rfl rfl) rfl hpS3 (fun w hp => (rd_loadC rfl rfl Try.underlying72 rfl ts72 (hp.get 6 rfl) (textC_length ha2 _ _ _))) ?_
      refine GO_rd rfl (wn_on rfl rfl rfl rfl) rfl hpS3 (fun w hp => (rd_loadC rfl rfl Try.underlying72 rfl ts72 (hp.get 7 rfl) (textC_length ha1 _ _ _))) ?_
      refine GO_rd rfl (wn_on rfl rfl rfl rfl) rfl hpS3 (fun w hp => (rd_loadC rfl rfl Try.underlying72 rfl ts72 (hp.get 6 rfl) (textC_length ha2 _ _ _))) ?_
      refine GO_of_GL rfl ?_
      refine GL_call (wn_on rfl rfl rfl rfl) rfl rfl (leaf_Same a1 s1 _ b1 n1 l1 a2 s2 _ b2 n2 l2 _ ha1 (hs1.keep hp.mod) hsz1 ha2 (hs2.keep hp.mod) hsz2 hr1 (by omega) hr2 (by omega)) rfl ?_
      rintro _ w ⟨rfl, hk⟩
      have hp := hp.comp hk
      have hpS4 := hp
      refine GL_nil ⟨fun _ => hpS4, ?_⟩
      refine GO_of_GL rfl ?_
      refine GL_call (wn_on rfl rfl rfl rfl) rfl rfl (ref_leafSame a1 s1 _ b1 n1 l1 a2 s2 _ b2 n2 l2 _ ha1 (hs1.keep hp.mod) hsz1 ha2 (hs2.keep hp.mod) hsz2) rfl ?_
      rintro _ w ⟨rfl, hk⟩
      have hp := hp.comp hk
      have hpS5 := hp
      refine GL_nil ⟨fun _ => hpS5, ?_⟩
      refine GO_rd rfl (wn_on rfl rfl rfl rfl) rfl hpS5 (fun w hp => (rd_bin rfl rfl rfl (bo_beql Try.underlying4))) ?_
      refine GO_rd (v := .bool _) rfl (wn_none rfl) rfl hpS5 (fun w hp => (rd_pickT rfl rfl rfl)) ?_
      refine GO_rd (v := .bool _) rfl (wn_none rfl) rfl hpS5 (fun w hp => (rd_move rfl rfl)) ?_
      refine GO_split (t := 78) (b := _) rfl ?_ ?_
      ·intro hb6; (try simp only [decide_eq_true_eq, decide_eq_false_iff_not, Bool.not_eq_true', Bool.not_eq_false', Bool.not_eq_eq_eq_not, Bool.not_true, Bool.not_false, Int.not_lt, Int.not_le] at hb6)
       refine GO_rd rfl (wn_on rfl rfl rfl rfl) rfl hpS5 (fun w hp => (rd_loadC rfl rfl Try.underlying72 rfl ts72 (hp.get 7 rfl) (textC_length ha1 _ _ _))) ?_
       refine GO_rd rfl (wn_on rfl rfl rfl rfl) rfl hpS5 (fun w hp => (rd_loadC rfl rfl Try.underlying72 rfl ts72 (hp.get 7 rfl) (textC_length ha1 _ _ _))) ?_
       refine GO_of_GL rfl ?_
       refine GL_call (wn_on rfl rfl rfl rfl) rfl rfl (leaf_Copy a1 s1 _ b1 n1 l1 _ ha1 (hs1.keep hp.mod) hsz1 (by omega)) rfl ?_
       rintro _ w ⟨gc, rfl, hk⟩
       have hp := hp.comp hk
       have hpS6 := (hp.sub (.cons _ (.cons_cons _ (.cons_cons _ (.cons_cons _ (.cons_cons _ (.cons_cons _ (.cons_cons _ (.cons_cons _ (.cons_cons _ .slnil))))))))))
       refine GL_nil ⟨fun _ => hpS6, ?_⟩
       refine GO_of_GL rfl ?_
       refine GL_call (wn_on rfl rfl rfl rfl) rfl rfl (ref_leafSame a1 s1 _ b1 n1 l1 a1 s1 _ b1 n1 l1 _ ha1 (Sl.row (hp.get 0 rfl)) hsz1 ha1 (hs1.keep hp.mod) hsz1) rfl ?_
       rintro _ w ⟨rfl, hk⟩
       have hp := hp.comp hk
       have hpS7 := (hp.sub (.cons _ (.cons_cons _ (.cons_cons _ (.cons_cons _ (.cons_cons _ (.cons_cons _ (.cons_cons _ (.cons_cons _ (.cons_cons _ .slnil))))))))))
       refine GL_nil ⟨fun _ => hpS7, ?_⟩
       refine GO_rd (v := .bool _) rfl (wn_none rfl) rfl hpS7 (fun w hp => (rd_pickT rfl rfl rfl)) ?_
       refine GO_rd (v := .bool _) rfl (wn_none rfl) rfl hpS7 (fun w hp => (rd_move rfl rfl)) ?_
       refine GO_split (t := 84) (b := _) rfl ?_ ?_
       ·intro hb7; (try simp only [decide_eq_true_eq, decide_eq_false_iff_not, Bool.not_eq_true', Bool.not_eq_false', Bool.not_eq_eq_eq_not, Bool.not_true, Bool.not_false, Int.not_lt, Int.not_le] at hb7)
        refine GO_rd (v := .bool _) rfl (wn_on rfl rfl rfl rfl) rfl hpS7 (fun w hp => (rd_move rfl rfl)) ?_
        refine GO_rd (v := .bool _) rfl (wn_on rfl rfl rfl rfl) rfl hpS7 (fun w hp => (rd_move rfl rfl)) ?_
        refine GO_rd rfl (wn_on rfl rfl rfl rfl) rfl hpS7 (fun w hp => (rd_bin rfl rfl rfl (bo_beql Try.underlying4))) ?_
        refine GO_rd (v := .bool _) rfl (wn_none rfl) rfl hpS7 (fun w hp => (rd_pickT rfl rfl rfl)) ?_
        refine GO_rd (v := .bool _) rfl (wn_none rfl) rfl hpS7 (fun w hp => (rd_move rfl rfl)) ?_
        refine GO_split (t := 89) (b := _) rfl ?_ ?_
        ·intro hb8; (try simp only [decide_eq_true_eq, decide_eq_false_iff_not, Bool.not_eq_true', Bool.not_eq_false', Bool.not_eq_eq_eq_not, Bool.not_true, Bool.not_false, Int.not_lt, Int.not_le] at hb8)
         refine GO_rd rfl (wn_on rfl rfl rfl rfl) rfl hpS7 (fun w hp => (rd_loadC rfl rfl Try.underlying72 rfl ts72 (hp.get 2 rfl) (textC_length ha1 _ _ _))) ?_
         refine GO_rd rfl (wn_on rfl rfl rfl rfl) rfl hpS7 (fun w hp => (rd_loadC rfl rfl Try.underlying72 rfl ts72 (hp.get 0 rfl) (textC_length ha1 _ _ _))) ?_
         refine GO_of_GL rfl ?_
         refine GL_call (wn_on rfl rfl rfl rfl) rfl rfl (ref_leafSame a1 s1 _ b1 n1 (movedL from_ to_ l1) a1 s1 _ b1 n1 (movedL from_ to_ l1) _ ha1 (Sl.row (hp.get 4 rfl)) hsz1 ha1 (Sl.row (hp.get 2 rfl)) hsz1) rfl ?_
         rintro _ w ⟨rfl, hk⟩
         have hp := hp.comp hk
         have hpS8 := (hp.sub (.cons _ (.cons_cons _ (.cons_cons _ (.cons_cons _ (.cons_cons _ (.cons_cons _ (.cons_cons _ (.cons_cons _ (.cons_cons _ .slnil))))))))))
         refine GL_nil ⟨fun _ => hpS8, ?_⟩
         refine GO_rd (v := .bool _) rfl (wn_none rfl) rfl hpS8 (fun w hp => (rd_pickT rfl rfl rfl)) ?_
         refine GO_rd (v := .bool _) rfl (wn_none rfl) rfl hpS8 (fun w hp => (rd_move rfl rfl)) ?_
         refine GO_split (t := 94) (b := _) rfl ?_ ?_
         ·intro hb9; (try simp only [decide_eq_true_eq, decide_eq_false_iff_not, Bool.not_eq_true', Bool.not_eq_false', Bool.not_eq_eq_eq_not, Bool.not_true, Bool.not_false, Int.not_lt, Int.not_le] at hb9)
          refine GO_of_GL rfl ?_
          refine GL_call (wn_on rfl rfl rfl rfl) rfl rfl (leaf_works _) rfl ?_
          rintro _ w ⟨rfl, hk⟩
          have hp := hp.comp hk
          have hpS9 := (hp.sub (.cons _ (.cons_cons _ (.cons_cons _ (.cons_cons _ (.cons_cons _ (.cons_cons _ (.cons_cons _ (.cons_cons _ (.cons_cons _ .slnil))))))))))
          refine GL_nil ⟨fun _ => hpS9, ?_⟩
          refine GO_rd (v := .bool _) rfl (wn_none rfl) rfl hpS9 (fun w hp => (rd_pickT rfl rfl rfl)) ?_
          refine GO_rd (v := .bool _) rfl (wn_none rfl) rfl hpS9 (fun w hp => (rd_assign rfl rfl)) ?_
          refine GO_nil ?_
          refine GW_ret ?_
          exact ⟨_, res1 Try.results7 (rv_tmp (v := .bool _) rfl rfl), rfl, hp.mods⟩
         ·intro hb9; (try simp only [decide_eq_true_eq, decide_eq_false_iff_not, Bool.not_eq_true', Bool.not_eq_false', Bool.not_eq_eq_eq_not, Bool.not_true, Bool.not_false, Int.not_lt, Int.not_le] at hb9)
          all_goals first | exact absurd rfl hb9 | exact absurd trivial hb9 | exact absurd ((same_yes ⟨rfl, rfl, rfl, rfl⟩).symm.trans hb9) Bool.noConfusion | exact absurd hb9 (by decide) | exact absurd (by decide) hb9 | exact absurd hb9 (by simp)
        ·intro hb8; (try simp only [decide_eq_true_eq, decide_eq_false_iff_not, Bool.not_eq_true', Bool.not_eq_false', Bool.not_eq_eq_eq_not, Bool.not_true, Bool.not_false, Int.not_lt, Int.not_le] at hb8)
         all_goals first | exact absurd rfl hb8 | exact absurd trivial hb8 | exact absurd ((same_yes ⟨rfl, rfl, rfl, rfl⟩).symm.trans hb8) Bool.noConfusion | exact absurd hb8 (by decide) | exact absurd (by decide) hb8 | exact absurd hb8 (by simp)
       ·intro hb7; (try simp only [decide_eq_true_eq, decide_eq_false_iff_not, Bool.not_eq_true', Bool.not_eq_false', Bool.not_eq_eq_eq_not, Bool.not_true, Bool.not_false, Int.not_lt, Int.not_le] at hb7)
        all_goals first | exact absurd rfl hb7 | exact absurd trivial hb7 | exact absurd ((same_yes ⟨rfl, rfl, rfl, rfl⟩).symm.trans hb7) Bool.noConfusion | exact absurd hb7 (by decide) | exact absurd (by decide) hb7 | exact absurd hb7 (by simp)
      ·intro hb6; (try simp only [decide_eq_true_eq, decide_eq_false_iff_not, Bool.not_eq_true', Bool.not_eq_false', Bool.not_eq_eq_eq_not, Bool.not_true, Bool.not_false, Int.not_lt, Int.not_le] at hb6)
       all_goals first | exact absurd rfl hb6 | exact absurd trivial hb6 | exact absurd ((same_yes ⟨rfl, rfl, rfl, rfl⟩).symm.trans hb6) Bool.noConfusion | exact absurd hb6 (by decide) | exact absurd (by decide) hb6 | exact absurd hb6 (by simp)
     ·intro hb5; (try simp only [decide_eq_true_eq, decide_eq_false_iff_not, Bool.not_eq_true', Bool.not_eq_false', Bool.not_eq_eq_eq_not, Bool.not_true, Bool.not_false, Int.not_lt, Int.not_le] at hb5)
      all_goals first | exact absurd rfl hb5 | exact absurd trivial hb5 | exact absurd ((same_yes ⟨rfl, rfl, rfl, rfl⟩).symm.trans hb5) Bool.noConfusion | exact absurd hb5 (by decide) | exact absurd (by decide) hb5 | exact absurd hb5 (by simp)
    ·intro hb4; (try simp only [decide_eq_true_eq, decide_eq_false_iff_not, Bool.not_eq_true', Bool.not_eq_false', Bool.not_eq_eq_eq_not, Bool.not_true, Bool.not_false, Int.not_lt, Int.not_le] at hb4)
     all_goals first | exact absurd rfl hb4 | exact absurd trivial hb4 | exact absurd ((same_yes ⟨rfl, rfl, rfl, rfl⟩).symm.trans hb4) Bool.noConfusion | exact absurd hb4 (by decide) | exact absurd (by decide) hb4 | exact absurd hb4 (by simp)
   ·intro hb3; (try simp only [decide_eq_true_eq, decide_eq_false_iff_not, Bool.not_eq_true', Bool.not_eq_false', Bool.not_eq_eq_eq_not, Bool.not_true, Bool.not_false, Int.not_lt, Int.not_le] at hb3)
    all_goals first | exact absurd rfl hb3 | exact absurd trivial hb3 | exact absurd ((same_yes ⟨rfl, rfl, rfl, rfl⟩).symm.trans hb3) Bool.noConfusion | exact absurd hb3 (by decide) | exact absurd (by decide) hb3 | exact absurd hb3 (by simp)

theorem law_LeafBack (a : List UInt8) (s : Int) (sv : Value) (b : Int) (n : Nat) (l : List Int) (x : List UInt8) (m : Int) (w0 : World) (ha : a.length = 32) (hs : Sl w0 sv 1 n (l.map (Value.int .i64))) (hsz : -9223372036854775808 ≤ s ∧ s ≤ 9223372036854775807) (hx : x.length = 256) : Does Try.prog 8 #[.agg ⟨textC a s sv b⟩, .agg ⟨bys x⟩, .int .i64 m] w0 fun v w' => v = .bool true ∧ Hp w0 [] w' [] := by
 obtain ⟨A, c, rfl⟩ := sl_shape hs
 have hnl : l.length = n := by have := hs.len; simpa using this
 have hmle := hs.le
 refine does_of (l := [.agg ⟨textC a s (.slice A n c) b⟩, .agg ⟨bys x⟩, .int .i64 m]) Try.func8 (by kernel_rfl) rfl Try.ntmps8 rfl rfl ?_
 have hp := Hp.refl w0 []
 have hlA : (lgA x m).length = 32 := by unfold lgA; split; exact lfA_length hx; exact List.length_replicate
 have hlS : -9223372036854775808 ≤ lgS x m ∧ lgS x m ≤ 9223372036854775807 := by have := lfS_lt x; unfold lgS; split <;> omega
 refine GW_seq ?_
 refine GW_region ?_
 refine GL_box (wn_none rfl) rfl rfl rfl rfl hp ?_
 intro g w hp
 refine GL_box (wn_none rfl) rfl rfl rfl rfl hp ?_
 intro g2 w hp
 refine GL_rd (v := .bool _) (wn_none rfl) rfl (rd_assign rfl rfl) ?_
 refine GL_nil ?_
 refine GW_seq ?_
 refine GW_seq ?_
 refine GW_region ?_
 refine GL_rd (wn_none rfl) rfl (rd_loadC rfl rfl Try.underlying72 rfl ts72 (hp.get 1 rfl) (textC_length ha _ _ _)) ?_
 refine GL_call (wn_none rfl) rfl rfl (leaf_light a s _ b n l _ ha (hs.keep hp.mod) hsz) rfl ?_
 rintro _ w ⟨rfl, hk⟩
 have hp := hp.comp hk
 refine GL_rd (wn_none rfl) rfl (rd_not rfl rfl) ?_
 refine GL_nil ?_
 refine GW_cond rfl (fun hb => ?_) (fun hb => ?_)
 ·(try simp only [decide_eq_true_eq, decide_eq_false_iff_not, Bool.not_eq_true', Bool.not_eq_false', Bool.not_eq_eq_eq_not, Bool.not_true, Bool.not_false, Int.not_lt, Int.not_le] at hb)
  refine GW_seq ?_
  refine GW_region ?_
  refine GL_call (wn_none rfl) rfl rfl (leaf_works _) rfl ?_
  rintro _ w ⟨rfl, hk⟩
  have hp := hp.comp hk
  refine GL_rd (v := .bool _) (wn_none rfl) rfl (rd_assign rfl rfl) ?_
  refine GL_nil ?_
  refine GW_ret ?_
  exact ⟨_, res1 Try.results8 (rv_tmp (v := .bool _) rfl rfl), rfl, hp.mods⟩
 ·(try simp only [decide_eq_true_eq, decide_eq_false_iff_not, Bool.not_eq_true', Bool.not_eq_false', Bool.not_eq_eq_eq_not, Bool.not_true, Bool.not_false, Int.not_lt, Int.not_le] at hb)
  refine GW_skip ?_
  refine GW_seq ?_
  refine GW_region ?_
  refine GL_rd (wn_none rfl) rfl (rd_loadC rfl rfl Try.underlying72 rfl ts72 (hp.get 1 rfl) (textC_length ha _ _ _)) ?_
  refine GL_call (wn_none rfl) rfl rfl (leaf_Put a s _ b n l _ ha (hs.keep hp.mod) hsz) rfl ?_
  rintro _ w ⟨rfl, hk⟩
  have hp := hp.comp hk
  refine GL_rd (v := .tuple _) (wn_none rfl) rfl (rd_move rfl rfl) ?_
  refine GL_rd (v := .agg ⟨_⟩) (wn_none rfl) rfl (rd_extract rfl rfl rfl) ?_
  refine GL_rd (v := .int _ _) (wn_none rfl) rfl (rd_extract rfl rfl rfl) ?_
  refine GL_alloc (wn_none rfl) rfl rfl tz67 rfl hp ?_
  intro g3 w hp
  refine GL_store (i := 0) (wn_none rfl) rfl rfl rfl rfl ts67 rfl (by rw [bys_length, leafS_length]) (bys_one _) hp rfl (by rw [List.length_replicate]; omega) (splice_all _ _ (by rw [bys_length, leafS_length, List.length_replicate])) ?_
  intro w hp
  refine GL_rd (v := .int _ _) (wn_none rfl) rfl (rd_assign rfl rfl) ?_
  refine GL_nil ?_
  refine GW_seq ?_
  refine GW_seq ?_
  refine GW_region ?_
  refine GL_rd (v := .int _ _) (wn_none rfl) rfl (rd_move rfl rfl) ?_
  refine GL_rd (wn_none rfl) rfl (rd_bin rfl rfl rfl bo_eql) ?_
  refine GL_nil ?_
  refine GW_cond rfl (fun hb2 => ?_) (fun hb2 => ?_)
  ·(try simp only [decide_eq_true_eq, decide_eq_false_iff_not, Bool.not_eq_true', Bool.not_eq_false', Bool.not_eq_eq_eq_not, Bool.not_true, Bool.not_false, Int.not_lt, Int.not_le] at hb2)
   have hok := hb2
   refine GW_seq ?_
   refine GW_region ?_
   refine GL_rd (wn_none rfl) rfl (rd_loadC rfl rfl Try.underlying67 rfl ts67 (hp.get 0 rfl) (by rw [bys_length, leafS_length])) ?_
   refine GL_call (wn_none rfl) rfl rfl (leaf_Get (leafS a s l b) 200 _ (leafS_length _ _ _ _)) rfl ?_
   rintro _ w ⟨svu2, rfl, hk⟩
   have hp := hp.comp hk
   have hy2 := leaf_back_yes ha (m := 200) hok hok
   rw [hy2.1, hy2.2.1, hy2.2.2.1, hy2.2.2.2.2.1, hy2.2.2.2.2.2]
   rw [hy2.2.2.2.1] at hp
   obtain ⟨Au2, cu2, rfl⟩ := row_shape (hp.get 0 rfl)
   refine GL_rd (v := .tuple _) (wn_none rfl) rfl (rd_move rfl rfl) ?_
   refine GL_rd (v := .agg ⟨_⟩) (wn_none rfl) rfl (rd_extract rfl rfl rfl) ?_
   refine GL_rd (v := .bool _) (wn_none rfl) rfl (rd_extract rfl rfl rfl) ?_
   refine GL_rd (v := .int _ _) (wn_none rfl) rfl (rd_extract rfl rfl rfl) ?_
   refine GL_alloc (wn_none rfl) rfl rfl tz72 rfl hp ?_
   intro g4 w hp
   refine GL_store (i := 0) (wn_none rfl) rfl rfl rfl rfl ts72 rfl (textC_length ha _ _ _) (textC_one rfl) hp rfl (by decide) (splice_all _ _ (by rw [textC_length ha _ _ _]; rfl)) ?_
   intro w hp
   refine GL_rd (v := .bool _) (wn_none rfl) rfl (rd_assign rfl rfl) ?_
   refine GL_rd (v := .int _ _) (wn_none rfl) rfl (rd_assign rfl rfl) ?_
   refine GL_nil ?_
   refine GW_seq ?_
   refine GW_region ?_
   refine GL_rd (v := .bool _) (wn_none rfl) rfl (rd_move rfl rfl) ?_
   refine GL_rd (wn_none rfl) rfl (rd_not rfl rfl) ?_
   refine GL_rd (v := .bool _) (wn_none rfl) rfl (rd_move rfl rfl) ?_
   refine GL_rd (v := .int _ _) (wn_on rfl rfl rfl rfl) rfl (rd_move rfl rfl) ?_
   refine GL_rd (wn_on rfl rfl rfl rfl) rfl (rd_bin rfl rfl rfl bo_neq) ?_
   refine GL_rd (v := .bool _) (wn_none rfl) rfl (rd_pickF rfl rfl rfl) ?_
   refine GL_rd (v := .bool _) (wn_none rfl) rfl (rd_move rfl rfl) ?_
   refine GL_split (t := 41) (b := _) rfl ?_ ?_
   ·intro hb3; (try simp only [decide_eq_true_eq, decide_eq_false_iff_not, Bool.not_eq_true', Bool.not_eq_false', Bool.not_eq_eq_eq_not, Bool.not_true, Bool.not_false, Int.not_lt, Int.not_le] at hb3)
    all_goals first | exact absurd trivial hb3 | exact absurd rfl hb3 | exact absurd hb3 (by decide)
   ·intro hb3; (try simp only [decide_eq_true_eq, decide_eq_false_iff_not, Bool.not_eq_true', Bool.not_eq_false', Bool.not_eq_eq_eq_not, Bool.not_true, Bool.not_false, Int.not_lt, Int.not_le] at hb3)
    refine GL_rd (wn_on rfl rfl rfl rfl) rfl (rd_loadC rfl rfl Try.underlying72 rfl ts72 (hp.get 0 rfl) (textC_length ha _ _ _)) ?_
    refine GL_rd (wn_on rfl rfl rfl rfl) rfl (rd_loadC rfl rfl Try.underlying72 rfl ts72 (hp.get 4 rfl) (textC_length ha _ _ _)) ?_
    refine GL_call (wn_on rfl rfl rfl rfl) rfl rfl (ref_leafSame a s _ b l.length l a s _ b n l _ ha (Sl.row (hp.get 1 rfl)) hsz ha (hs.keep hp.mod) hsz) rfl ?_
    rintro _ w ⟨rfl, hk⟩
    have hp := hp.comp hk
    refine GL_rd (wn_on rfl rfl rfl rfl) rfl (rd_not rfl rfl) ?_
    refine GL_rd (v := .bool _) (wn_none rfl) rfl (rd_pickF rfl rfl rfl) ?_
    refine GL_nil ?_
    refine GW_cond rfl (fun hb4 => ?_) (fun hb4 => ?_)
    ·(try simp only [decide_eq_true_eq, decide_eq_false_iff_not, Bool.not_eq_true', Bool.not_eq_false', Bool.not_eq_eq_eq_not, Bool.not_true, Bool.not_false, Int.not_lt, Int.not_le] at hb4)
     all_goals first | exact absurd rfl hb4 | exact absurd trivial hb4 | exact absurd ((same_yes ⟨rfl, rfl, rfl, rfl⟩).symm.trans hb4) Bool.noConfusion | exact absurd hb4 (by decide) | exact absurd (by decide) hb4 | exact absurd hb4 (by simp)
    ·(try simp only [decide_eq_true_eq, decide_eq_false_iff_not, Bool.not_eq_true', Bool.not_eq_false', Bool.not_eq_eq_eq_not, Bool.not_true, Bool.not_false, Int.not_lt, Int.not_le] at hb4)
     refine GW_skip ?_
     refine GW_seq ?_
     refine GW_region ?_
     refine GL_rd (wn_none rfl) rfl (rd_loadC rfl rfl Try.underlying67 rfl ts67 (hp.get 3 rfl) (by rw [bys_length, hx])) ?_
     refine GL_rd (v := .int _ _) (wn_none rfl) rfl (rd_move rfl rfl) ?_
     refine GL_call (wn_none rfl) rfl rfl (leaf_Get x m _ hx) rfl ?_
     rintro _ w ⟨svu3, rfl, hk⟩
     have hp := hp.comp hk
     obtain ⟨Au3, cu3, rfl⟩ := row_shape (hp.get 0 rfl)
     refine GL_rd (v := .tuple _) (wn_none rfl) rfl (rd_move rfl rfl) ?_
     refine GL_rd (v := .agg ⟨_⟩) (wn_none rfl) rfl (rd_extract rfl rfl rfl) ?_
     refine GL_rd (v := .bool _) (wn_none rfl) rfl (rd_extract rfl rfl rfl) ?_
     refine GL_rd (v := .int _ _) (wn_none rfl) rfl (rd_extract rfl rfl rfl) ?_
     refine GL_alloc (wn_none rfl) rfl rfl tz72 rfl hp ?_
     intro g5 w hp
     refine GL_store (i := 0) (wn_none rfl) rfl rfl rfl rfl ts72 rfl (textC_length hlA _ _ _) (textC_one rfl) hp rfl (by decide) (splice_all _ _ (by rw [textC_length hlA _ _ _]; rfl)) ?_
     intro w hp
     refine GL_rd (v := .bool _) (wn_none rfl) rfl (rd_assign rfl rfl) ?_
     refine GL_rd (v := .int _ _) (wn_none rfl) rfl (rd_assign rfl rfl) ?_
     refine GL_nil ?_
     refine GW_seq ?_
     refine GW_region ?_
     refine GL_rd (wn_none rfl) rfl (rd_loadC rfl rfl Try.underlying67 rfl ts67 (hp.get 5 rfl) (by rw [bys_length, hx])) ?_
     refine GL_rd (v := .int _ _) (wn_none rfl) rfl (rd_move rfl rfl) ?_
     refine GL_call (wn_none rfl) rfl rfl (ref_leafGet x m _ hx) rfl ?_
     rintro _ w ⟨svv3, rfl, hk⟩
     have hp := hp.comp hk
     obtain ⟨Av3, cv3, rfl⟩ := row_shape (hp.get 0 rfl)
     refine GL_rd (v := .tuple _) (wn_none rfl) rfl (rd_move rfl rfl) ?_
     refine GL_rd (v := .agg ⟨_⟩) (wn_none rfl) rfl (rd_extract rfl rfl rfl) ?_
     refine GL_rd (v := .bool _) (wn_none rfl) rfl (rd_extract rfl rfl rfl) ?_
     refine GL_rd (v := .bool _) (wn_none rfl) rfl (rd_extract rfl rfl rfl) ?_
     refine GL_alloc (wn_none rfl) rfl rfl tz72 rfl hp ?_
     intro g6 w hp
     refine GL_store (i := 0) (wn_none rfl) rfl rfl rfl rfl ts72 rfl (textC_length hlA _ _ _) (textC_one rfl) hp rfl (by decide) (splice_all _ _ (by rw [textC_length hlA _ _ _]; rfl)) ?_
     intro w hp
     refine GL_rd (v := .bool _) (wn_none rfl) rfl (rd_assign rfl rfl) ?_
     refine GL_rd (v := .bool _) (wn_none rfl) rfl (rd_assign rfl rfl) ?_
     refine GL_nil ?_
     refine GW_seq ?_
     refine GW_region ?_
     refine GL_rd (v := .bool _) (wn_none rfl) rfl (rd_move rfl rfl) ?_
     refine GL_rd (v := .bool _) (wn_none rfl) rfl (rd_move rfl rfl) ?_
     refine GL_rd (wn_none rfl) rfl (rd_bin rfl rfl rfl (bo_beql Try.underlying4)) ?_
     refine GL_rd (v := .bool _) (wn_none rfl) rfl (rd_move rfl rfl) ?_
     refine GL_split (t := 64) (b := _) rfl ?_ ?_
     ·intro hb5; (try simp only [decide_eq_true_eq, decide_eq_false_iff_not, Bool.not_eq_true', Bool.not_eq_false', Bool.not_eq_eq_eq_not, Bool.not_true, Bool.not_false, Int.not_lt, Int.not_le] at hb5)
      refine GL_rd (wn_on rfl rfl rfl rfl) rfl (rd_loadC rfl rfl Try.underlying72 rfl ts72 (hp.get 2 rfl) (textC_length hlA _ _ _)) ?_
      refine GL_rd (wn_on rfl rfl rfl rfl) rfl (rd_loadC rfl rfl Try.underlying72 rfl ts72 (hp.get 0 rfl) (textC_length hlA _ _ _)) ?_
      refine GL_call (wn_on rfl rfl rfl rfl) rfl rfl (ref_leafSame (lgA x m) (lgS x m) _ (lgB x m) _ (lgL x m) (lgA x m) (lgS x m) _ (lgB x m) _ (lgL x m) _ hlA (Sl.row (hp.get 3 rfl)) hlS hlA (Sl.row (hp.get 1 rfl)) hlS) rfl ?_
      rintro _ w ⟨rfl, hk⟩
      have hp := hp.comp hk
      refine GL_rd (v := .bool _) (wn_none rfl) rfl (rd_pickT rfl rfl rfl) ?_
      refine GL_rd (v := .bool _) (wn_none rfl) rfl (rd_move rfl rfl) ?_
      refine GL_split (t := 69) (b := _) rfl ?_ ?_
      ·intro hb6; (try simp only [decide_eq_true_eq, decide_eq_false_iff_not, Bool.not_eq_true', Bool.not_eq_false', Bool.not_eq_eq_eq_not, Bool.not_true, Bool.not_false, Int.not_lt, Int.not_le] at hb6)
       refine GL_rd (v := .int _ _) (wn_on rfl rfl rfl rfl) rfl (rd_move rfl rfl) ?_
       refine GL_rd (wn_on rfl rfl rfl rfl) rfl (rd_bin rfl rfl rfl bo_eql) ?_
       refine GL_rd (v := .bool _) (wn_on rfl rfl rfl rfl) rfl (rd_move rfl rfl) ?_
       refine GL_rd (wn_on rfl rfl rfl rfl) rfl (rd_bin rfl rfl rfl (bo_beql Try.underlying4)) ?_
       refine GL_rd (v := .bool _) (wn_none rfl) rfl (rd_pickT rfl rfl rfl) ?_
       refine GL_rd (v := .bool _) (wn_none rfl) rfl (rd_move rfl rfl) ?_
       refine GL_split (t := 75) (b := _) rfl ?_ ?_
       ·intro hb7; (try simp only [decide_eq_true_eq, decide_eq_false_iff_not, Bool.not_eq_true', Bool.not_eq_false', Bool.not_eq_eq_eq_not, Bool.not_true, Bool.not_false, Int.not_lt, Int.not_le] at hb7)
        refine GL_rd (v := .bool _) (wn_on rfl rfl rfl rfl) rfl (rd_move rfl rfl) ?_
        refine GL_rd (v := .bool _) (wn_on rfl rfl rfl rfl) rfl (rd_move rfl rfl) ?_
        refine GL_split (t := 77) (b := _) rfl ?_ ?_
        ·intro hb8; (try simp only [decide_eq_true_eq, decide_eq_false_iff_not, Bool.not_eq_true', Bool.not_eq_false', Bool.not_eq_eq_eq_not, Bool.not_true, Bool.not_false, Int.not_lt, Int.not_le] at hb8)
         refine GL_pass (nw_off rfl rfl rfl rfl rfl) rfl ?_
         refine GL_pass (nw_off rfl rfl rfl rfl rfl) rfl ?_
         refine GL_rd (v := .bool _) (wn_on rfl rfl rfl rfl) rfl (rd_pickT rfl rfl rfl) ?_
         refine GL_rd (v := .bool _) (wn_none rfl) rfl (rd_pickT rfl rfl rfl) ?_
         refine GL_rd (v := .bool _) (wn_none rfl) rfl (rd_move rfl rfl) ?_
         refine GL_call (wn_on rfl rfl rfl rfl) rfl rfl (leaf_works _) rfl ?_
         rintro _ w ⟨rfl, hk⟩
         have hp := hp.comp hk
         refine GL_rd (v := .bool _) (wn_none rfl) rfl (rd_pickT rfl rfl rfl) ?_
         refine GL_rd (v := .bool _) (wn_none rfl) rfl (rd_assign rfl rfl) ?_
         refine GL_nil ?_
         refine GW_ret ?_
         exact ⟨_, res1 Try.results8 (rv_tmp (v := .bool _) rfl rfl), rfl, hp.mods⟩
        ·intro hb8; (try simp only [decide_eq_true_eq, decide_eq_false_iff_not, Bool.not_eq_true', Bool.not_eq_false', Bool.not_eq_eq_eq_not, Bool.not_true, Bool.not_false, Int.not_lt, Int.not_le] at hb8)
         have hO := hb8
         refine GL_rd (v := .int _ _) (wn_on rfl rfl rfl rfl) rfl (rd_move rfl rfl) ?_
         refine GL_rd (wn_on rfl rfl rfl rfl) rfl (rd_bin rfl rfl rfl bo_eql) ?_
         refine GL_rd (v := .bool _) (wn_on rfl rfl rfl rfl) rfl (rd_pickF rfl rfl rfl) ?_
         refine GL_rd (v := .bool _) (wn_none rfl) rfl (rd_pickT rfl rfl rfl) ?_
         refine GL_rd (v := .bool _) (wn_none rfl) rfl (rd_move rfl rfl) ?_
         refine GL_split (t := 82) (b := _) rfl ?_ ?_
         ·intro hb9; (try simp only [decide_eq_true_eq, decide_eq_false_iff_not, Bool.not_eq_true', Bool.not_eq_false', Bool.not_eq_eq_eq_not, Bool.not_true, Bool.not_false, Int.not_lt, Int.not_le] at hb9)
          refine GL_call (wn_on rfl rfl rfl rfl) rfl rfl (leaf_works _) rfl ?_
          rintro _ w ⟨rfl, hk⟩
          have hp := hp.comp hk
          refine GL_rd (v := .bool _) (wn_none rfl) rfl (rd_pickT rfl rfl rfl) ?_
          refine GL_rd (v := .bool _) (wn_none rfl) rfl (rd_assign rfl rfl) ?_
          refine GL_nil ?_
          refine GW_ret ?_
          exact ⟨_, res1 Try.results8 (rv_tmp (v := .bool _) rfl rfl), rfl, hp.mods⟩
         ·intro hb9; (try simp only [decide_eq_true_eq, decide_eq_false_iff_not, Bool.not_eq_true', Bool.not_eq_false', Bool.not_eq_eq_eq_not, Bool.not_true, Bool.not_false, Int.not_lt, Int.not_le] at hb9)
          exact absurd (by unfold lgE; rw [hO]; rfl) hb9
       ·intro hb7; (try simp only [decide_eq_true_eq, decide_eq_false_iff_not, Bool.not_eq_true', Bool.not_eq_false', Bool.not_eq_eq_eq_not, Bool.not_true, Bool.not_false, Int.not_lt, Int.not_le] at hb7)
        exact absurd hb7 (by rw [lgE_ok]; simp)
      ·intro hb6; (try simp only [decide_eq_true_eq, decide_eq_false_iff_not, Bool.not_eq_true', Bool.not_eq_false', Bool.not_eq_eq_eq_not, Bool.not_true, Bool.not_false, Int.not_lt, Int.not_le] at hb6)
       all_goals first | exact absurd rfl hb6 | exact absurd trivial hb6 | exact absurd ((same_yes ⟨rfl, rfl, rfl, rfl⟩).symm.trans hb6) Bool.noConfusion | exact absurd hb6 (by decide) | exact absurd (by decide) hb6 | exact absurd hb6 (by simp)
     ·intro hb5; (try simp only [decide_eq_true_eq, decide_eq_false_iff_not, Bool.not_eq_true', Bool.not_eq_false', Bool.not_eq_eq_eq_not, Bool.not_true, Bool.not_false, Int.not_lt, Int.not_le] at hb5)
      all_goals first | exact absurd rfl hb5 | exact absurd trivial hb5 | exact absurd ((same_yes ⟨rfl, rfl, rfl, rfl⟩).symm.trans hb5) Bool.noConfusion | exact absurd hb5 (by decide) | exact absurd (by decide) hb5 | exact absurd hb5 (by simp)
  ·(try simp only [decide_eq_true_eq, decide_eq_false_iff_not, Bool.not_eq_true', Bool.not_eq_false', Bool.not_eq_eq_eq_not, Bool.not_true, Bool.not_false, Int.not_lt, Int.not_le] at hb2)
   refine GW_skip ?_
   refine GW_seq ?_
   refine GW_region ?_
   refine GL_rd (wn_none rfl) rfl (rd_loadC rfl rfl Try.underlying67 rfl ts67 (hp.get 1 rfl) (by rw [bys_length, hx])) ?_
   refine GL_rd (v := .int _ _) (wn_none rfl) rfl (rd_move rfl rfl) ?_
   refine GL_call (wn_none rfl) rfl rfl (leaf_Get x m _ hx) rfl ?_
   rintro _ w ⟨svu3, rfl, hk⟩
   have hp := hp.comp hk
   obtain ⟨Au3, cu3, rfl⟩ := row_shape (hp.get 0 rfl)
   refine GL_rd (v := .tuple _) (wn_none rfl) rfl (rd_move rfl rfl) ?_
   refine GL_rd (v := .agg ⟨_⟩) (wn_none rfl) rfl (rd_extract rfl rfl rfl) ?_
   refine GL_rd (v := .bool _) (wn_none rfl) rfl (rd_extract rfl rfl rfl) ?_
   refine GL_rd (v := .int _ _) (wn_none rfl) rfl (rd_extract rfl rfl rfl) ?_
   refine GL_alloc (wn_none rfl) rfl rfl tz72 rfl hp ?_
   intro g7 w hp
   refine GL_store (i := 0) (wn_none rfl) rfl rfl rfl rfl ts72 rfl (textC_length hlA _ _ _) (textC_one rfl) hp rfl (by decide) (splice_all _ _ (by rw [textC_length hlA _ _ _]; rfl)) ?_
   intro w hp
   refine GL_rd (v := .bool _) (wn_none rfl) rfl (rd_assign rfl rfl) ?_
   refine GL_rd (v := .int _ _) (wn_none rfl) rfl (rd_assign rfl rfl) ?_
   refine GL_nil ?_
   refine GW_seq ?_
   refine GW_region ?_
   refine GL_rd (wn_none rfl) rfl (rd_loadC rfl rfl Try.underlying67 rfl ts67 (hp.get 3 rfl) (by rw [bys_length, hx])) ?_
   refine GL_rd (v := .int _ _) (wn_none rfl) rfl (rd_move rfl rfl) ?_
   refine GL_call (wn_none rfl) rfl rfl (ref_leafGet x m _ hx) rfl ?_
   rintro _ w ⟨svv3, rfl, hk⟩
   have hp := hp.comp hk
   obtain ⟨Av3, cv3, rfl⟩ := row_shape (hp.get 0 rfl)
   refine GL_rd (v := .tuple _) (wn_none rfl) rfl (rd_move rfl rfl) ?_
   refine GL_rd (v := .agg ⟨_⟩) (wn_none rfl) rfl (rd_extract rfl rfl rfl) ?_
   refine GL_rd (v := .bool _) (wn_none rfl) rfl (rd_extract rfl rfl rfl) ?_
   refine GL_rd (v := .bool _) (wn_none rfl) rfl (rd_extract rfl rfl rfl) ?_
   refine GL_alloc (wn_none rfl) rfl rfl tz72 rfl hp ?_
   intro g8 w hp
   refine GL_store (i := 0) (wn_none rfl) rfl rfl rfl rfl ts72 rfl (textC_length hlA _ _ _) (textC_one rfl) hp rfl (by decide) (splice_all _ _ (by rw [textC_length hlA _ _ _]; rfl)) ?_
   intro w hp
   refine GL_rd (v := .bool _) (wn_none rfl) rfl (rd_assign rfl rfl) ?_
   refine GL_rd (v := .bool _) (wn_none rfl) rfl (rd_assign rfl rfl) ?_
   refine GL_nil ?_
   refine GW_seq ?_
   refine GW_region ?_
   refine GL_rd (v := .bool _) (wn_none rfl) rfl (rd_move rfl rfl) ?_
   refine GL_rd (v := .bool _) (wn_none rfl) rfl (rd_move rfl rfl) ?_
   refine GL_rd (wn_none rfl) rfl (rd_bin rfl rfl rfl (bo_beql Try.underlying4)) ?_
   refine GL_rd (v := .bool _) (wn_none rfl) rfl (rd_move rfl rfl) ?_
   refine GL_split (t := 64) (b := _) rfl ?_ ?_
   ·intro hb10; (try simp only [decide_eq_true_eq, decide_eq_false_iff_not, Bool.not_eq_true', Bool.not_eq_false', Bool.not_eq_eq_eq_not, Bool.not_true, Bool.not_false, Int.not_lt, Int.not_le] at hb10)
    refine GL_rd (wn_on rfl rfl rfl rfl) rfl (rd_loadC rfl rfl Try.underlying72 rfl ts72 (hp.get 2 rfl) (textC_length hlA _ _ _)) ?_
    refine GL_rd (wn_on rfl rfl rfl rfl) rfl (rd_loadC rfl rfl Try.underlying72 rfl ts72 (hp.get 0 rfl) (textC_length hlA _ _ _)) ?_
    refine GL_call (wn_on rfl rfl rfl rfl) rfl rfl (ref_leafSame (lgA x m) (lgS x m) _ (lgB x m) _ (lgL x m) (lgA x m) (lgS x m) _ (lgB x m) _ (lgL x m) _ hlA (Sl.row (hp.get 3 rfl)) hlS hlA (Sl.row (hp.get 1 rfl)) hlS) rfl ?_
    rintro _ w ⟨rfl, hk⟩
    have hp := hp.comp hk
    refine GL_rd (v := .bool _) (wn_none rfl) rfl (rd_pickT rfl rfl rfl) ?_
    refine GL_rd (v := .bool _) (wn_none rfl) rfl (rd_move rfl rfl) ?_
    refine GL_split (t := 69) (b := _) rfl ?_ ?_
    ·intro hb11; (try simp only [decide_eq_true_eq, decide_eq_false_iff_not, Bool.not_eq_true', Bool.not_eq_false', Bool.not_eq_eq_eq_not, Bool.not_true, Bool.not_false, Int.not_lt, Int.not_le] at hb11)
     refine GL_rd (v := .int _ _) (wn_on rfl rfl rfl rfl) rfl (rd_move rfl rfl) ?_
     refine GL_rd (wn_on rfl rfl rfl rfl) rfl (rd_bin rfl rfl rfl bo_eql) ?_
     refine GL_rd (v := .bool _) (wn_on rfl rfl rfl rfl) rfl (rd_move rfl rfl) ?_
     refine GL_rd (wn_on rfl rfl rfl rfl) rfl (rd_bin rfl rfl rfl (bo_beql Try.underlying4)) ?_
     refine GL_rd (v := .bool _) (wn_none rfl) rfl (rd_pickT rfl rfl rfl) ?_
     refine GL_rd (v := .bool _) (wn_none rfl) rfl (rd_move rfl rfl) ?_
     refine GL_split (t := 75) (b := _) rfl ?_ ?_
     ·intro hb12; (try simp only [decide_eq_true_eq, decide_eq_false_iff_not, Bool.not_eq_true', Bool.not_eq_false', Bool.not_eq_eq_eq_not, Bool.not_true, Bool.not_false, Int.not_lt, Int.not_le] at hb12)
      refine GL_rd (v := .bool _) (wn_on rfl rfl rfl rfl) rfl (rd_move rfl rfl) ?_
      refine GL_rd (v := .bool _) (wn_on rfl rfl rfl rfl) rfl (rd_move rfl rfl) ?_
      refine GL_split (t := 77) (b := _) rfl ?_ ?_
      ·intro hb13; (try simp only [decide_eq_true_eq, decide_eq_false_iff_not, Bool.not_eq_true', Bool.not_eq_false', Bool.not_eq_eq_eq_not, Bool.not_true, Bool.not_false, Int.not_lt, Int.not_le] at hb13)
       refine GL_pass (nw_off rfl rfl rfl rfl rfl) rfl ?_
       refine GL_pass (nw_off rfl rfl rfl rfl rfl) rfl ?_
       refine GL_rd (v := .bool _) (wn_on rfl rfl rfl rfl) rfl (rd_pickT rfl rfl rfl) ?_
       refine GL_rd (v := .bool _) (wn_none rfl) rfl (rd_pickT rfl rfl rfl) ?_
       refine GL_rd (v := .bool _) (wn_none rfl) rfl (rd_move rfl rfl) ?_
       refine GL_call (wn_on rfl rfl rfl rfl) rfl rfl (leaf_works _) rfl ?_
       rintro _ w ⟨rfl, hk⟩
       have hp := hp.comp hk
       refine GL_rd (v := .bool _) (wn_none rfl) rfl (rd_pickT rfl rfl rfl) ?_
       refine GL_rd (v := .bool _) (wn_none rfl) rfl (rd_assign rfl rfl) ?_
       refine GL_nil ?_
       refine GW_ret ?_
       exact ⟨_, res1 Try.results8 (rv_tmp (v := .bool _) rfl rfl), rfl, hp.mods⟩
      ·intro hb13; (try simp only [decide_eq_true_eq, decide_eq_false_iff_not, Bool.not_eq_true', Bool.not_eq_false', Bool.not_eq_eq_eq_not, Bool.not_true, Bool.not_false, Int.not_lt, Int.not_le] at hb13)
       have hO := hb13
       refine GL_rd (v := .int _ _) (wn_on rfl rfl rfl rfl) rfl (rd_move rfl rfl) ?_
       refine GL_rd (wn_on rfl rfl rfl rfl) rfl (rd_bin rfl rfl rfl bo_eql) ?_
       refine GL_rd (v := .bool _) (wn_on rfl rfl rfl rfl) rfl (rd_pickF rfl rfl rfl) ?_
       refine GL_rd (v := .bool _) (wn_none rfl) rfl (rd_pickT rfl rfl rfl) ?_
       refine GL_rd (v := .bool _) (wn_none rfl) rfl (rd_move rfl rfl) ?_
       refine GL_split (t := 82) (b := _) rfl ?_ ?_
       ·intro hb14; (try simp only [decide_eq_true_eq, decide_eq_false_iff_not, Bool.not_eq_true', Bool.not_eq_false', Bool.not_eq_eq_eq_not, Bool.not_true, Bool.not_false, Int.not_lt, Int.not_le] at hb14)
        refine GL_call (wn_on rfl rfl rfl rfl) rfl rfl (leaf_works _) rfl ?_
        rintro _ w ⟨rfl, hk⟩
        have hp := hp.comp hk
        refine GL_rd (v := .bool _) (wn_none rfl) rfl (rd_pickT rfl rfl rfl) ?_
        refine GL_rd (v := .bool _) (wn_none rfl) rfl (rd_assign rfl rfl) ?_
        refine GL_nil ?_
        refine GW_ret ?_
        exact ⟨_, res1 Try.results8 (rv_tmp (v := .bool _) rfl rfl), rfl, hp.mods⟩
       ·intro hb14; (try simp only [decide_eq_true_eq, decide_eq_false_iff_not, Bool.not_eq_true', Bool.not_eq_false', Bool.not_eq_eq_eq_not, Bool.not_true, Bool.not_false, Int.not_lt, Int.not_le] at hb14)
        exact absurd (by unfold lgE; rw [hO]; rfl) hb14
     ·intro hb12; (try simp only [decide_eq_true_eq, decide_eq_false_iff_not, Bool.not_eq_true', Bool.not_eq_false', Bool.not_eq_eq_eq_not, Bool.not_true, Bool.not_false, Int.not_lt, Int.not_le] at hb12)
      exact absurd hb12 (by rw [lgE_ok]; simp)
    ·intro hb11; (try simp only [decide_eq_true_eq, decide_eq_false_iff_not, Bool.not_eq_true', Bool.not_eq_false', Bool.not_eq_eq_eq_not, Bool.not_true, Bool.not_false, Int.not_lt, Int.not_le] at hb11)
     all_goals first | exact absurd rfl hb11 | exact absurd trivial hb11 | exact absurd ((same_yes ⟨rfl, rfl, rfl, rfl⟩).symm.trans hb11) Bool.noConfusion | exact absurd hb11 (by decide) | exact absurd (by decide) hb11 | exact absurd hb11 (by simp)
   ·intro hb10; (try simp only [decide_eq_true_eq, decide_eq_false_iff_not, Bool.not_eq_true', Bool.not_eq_false', Bool.not_eq_eq_eq_not, Bool.not_true, Bool.not_false, Int.not_lt, Int.not_le] at hb10)
    all_goals first | exact absurd rfl hb10 | exact absurd trivial hb10 | exact absurd ((same_yes ⟨rfl, rfl, rfl, rfl⟩).symm.trans hb10) Bool.noConfusion | exact absurd hb10 (by decide) | exact absurd (by decide) hb10 | exact absurd hb10 (by simp)

theorem law_LeafOne (a1 : List UInt8) (s1 : Int) (sv1 : Value) (b1 : Int) (n1 : Nat) (l1 : List Int) (a2 : List UInt8) (s2 : Int) (sv2 : Value) (b2 : Int) (n2 : Nat) (l2 : List Int) (w0 : World) (ha1 : a1.length = 32) (hs1 : Sl w0 sv1 1 n1 (l1.map (Value.int .i64))) (hsz1 : -9223372036854775808 ≤ s1 ∧ s1 ≤ 9223372036854775807) (ha2 : a2.length = 32) (hs2 : Sl w0 sv2 1 n2 (l2.map (Value.int .i64))) (hsz2 : -9223372036854775808 ≤ s2 ∧ s2 ≤ 9223372036854775807) : Does Try.prog 9 #[.agg ⟨textC a1 s1 sv1 b1⟩, .agg ⟨textC a2 s2 sv2 b2⟩] w0 fun v w' => v = .bool true ∧ Hp w0 [] w' [] := by
 obtain ⟨A1, c1, rfl⟩ := sl_shape hs1
 have hnl1 : l1.length = n1 := by have := hs1.len; simpa using this
 have hmle1 := hs1.le
 obtain ⟨A2, c2, rfl⟩ := sl_shape hs2
 have hnl2 : l2.length = n2 := by have := hs2.len; simpa using this
 have hmle2 := hs2.le
 refine does_of (l := [.agg ⟨textC a1 s1 (.slice A1 n1 c1) b1⟩, .agg ⟨textC a2 s2 (.slice A2 n2 c2) b2⟩]) Try.func9 (by kernel_rfl) rfl Try.ntmps9 rfl rfl ?_
 have hp := Hp.refl w0 []
 refine GW_seq ?_
 refine GW_region ?_
 refine GL_box (wn_none rfl) rfl rfl rfl rfl hp ?_
 intro g w hp
 refine GL_box (wn_none rfl) rfl rfl rfl rfl hp ?_
 intro g2 w hp
 refine GL_rd (v := .bool _) (wn_none rfl) rfl (rd_assign rfl rfl) ?_
 refine GL_nil ?_
 refine GW_seq ?_
 refine GW_seq ?_
 refine GW_region ?_
 refine GL_rd (wn_none rfl) rfl (rd_loadC rfl rfl Try.underlying72 rfl ts72 (hp.get 1 rfl) (textC_length ha1 _ _ _)) ?_
 refine GL_call (wn_none rfl) rfl rfl (leaf_light a1 s1 _ b1 n1 l1 _ ha1 (hs1.keep hp.mod) hsz1) rfl ?_
 rintro _ w ⟨rfl, hk⟩
 have hp := hp.comp hk
 refine GL_rd (wn_none rfl) rfl (rd_not rfl rfl) ?_
 refine GL_rd (v := .bool _) (wn_none rfl) rfl (rd_move rfl rfl) ?_
 refine GL_split (t := 12) (b := _) rfl ?_ ?_
 ·intro hb; (try simp only [decide_eq_true_eq, decide_eq_false_iff_not, Bool.not_eq_true', Bool.not_eq_false', Bool.not_eq_eq_eq_not, Bool.not_true, Bool.not_false, Int.not_lt, Int.not_le] at hb)
  refine GL_pass (nw_off rfl rfl rfl rfl rfl) rfl ?_
  refine GL_pass (nw_off rfl rfl rfl rfl rfl) rfl ?_
  refine GL_pass (nw_off rfl rfl rfl rfl rfl) rfl ?_
  refine GL_rd (v := .bool _) (wn_none rfl) rfl (rd_pickT rfl rfl rfl) ?_
  refine GL_nil ?_
  refine GW_true rfl ?_
  refine GW_seq ?_
  refine GW_region ?_
  refine GL_call (wn_none rfl) rfl rfl (leaf_works _) rfl ?_
  rintro _ w ⟨rfl, hk⟩
  have hp := hp.comp hk
  refine GL_rd (v := .bool _) (wn_none rfl) rfl (rd_assign rfl rfl) ?_
  refine GL_nil ?_
  refine GW_ret ?_
  exact ⟨_, res1 Try.results9 (rv_tmp (v := .bool _) rfl rfl), rfl, hp.mods⟩
 ·intro hb; (try simp only [decide_eq_true_eq, decide_eq_false_iff_not, Bool.not_eq_true', Bool.not_eq_false', Bool.not_eq_eq_eq_not, Bool.not_true, Bool.not_false, Int.not_lt, Int.not_le] at hb)
  refine GL_rd (wn_on rfl rfl rfl rfl) rfl (rd_loadC rfl rfl Try.underlying72 rfl ts72 (hp.get 0 rfl) (textC_length ha2 _ _ _)) ?_
  refine GL_call (wn_on rfl rfl rfl rfl) rfl rfl (leaf_light a2 s2 _ b2 n2 l2 _ ha2 (hs2.keep hp.mod) hsz2) rfl ?_
  rintro _ w ⟨rfl, hk⟩
  have hp := hp.comp hk
  refine GL_rd (wn_on rfl rfl rfl rfl) rfl (rd_not rfl rfl) ?_
  refine GL_rd (v := .bool _) (wn_none rfl) rfl (rd_pickF rfl rfl rfl) ?_
  refine GL_nil ?_
  refine GW_cond rfl (fun hb2 => ?_) (fun hb2 => ?_)
  ·(try simp only [decide_eq_true_eq, decide_eq_false_iff_not, Bool.not_eq_true', Bool.not_eq_false', Bool.not_eq_eq_eq_not, Bool.not_true, Bool.not_false, Int.not_lt, Int.not_le] at hb2)
   refine GW_seq ?_
   refine GW_region ?_
   refine GL_call (wn_none rfl) rfl rfl (leaf_works _) rfl ?_
   rintro _ w ⟨rfl, hk⟩
   have hp := hp.comp hk
   refine GL_rd (v := .bool _) (wn_none rfl) rfl (rd_assign rfl rfl) ?_
   refine GL_nil ?_
   refine GW_ret ?_
   exact ⟨_, res1 Try.results9 (rv_tmp (v := .bool _) rfl rfl), rfl, hp.mods⟩
  ·(try simp only [decide_eq_true_eq, decide_eq_false_iff_not, Bool.not_eq_true', Bool.not_eq_false', Bool.not_eq_eq_eq_not, Bool.not_true, Bool.not_false, Int.not_lt, Int.not_le] at hb2)
   refine GW_skip ?_
   refine GW_seq ?_
   refine GW_region ?_
   refine GL_rd (wn_none rfl) rfl (rd_loadC rfl rfl Try.underlying72 rfl ts72 (hp.get 1 rfl) (textC_length ha1 _ _ _)) ?_
   refine GL_call (wn_none rfl) rfl rfl (leaf_Put a1 s1 _ b1 n1 l1 _ ha1 (hs1.keep hp.mod) hsz1) rfl ?_
   rintro _ w ⟨rfl, hk⟩
   have hp := hp.comp hk
   refine GL_rd (v := .tuple _) (wn_none rfl) rfl (rd_move rfl rfl) ?_
   refine GL_rd (v := .agg ⟨_⟩) (wn_none rfl) rfl (rd_extract rfl rfl rfl) ?_
   refine GL_rd (v := .int _ _) (wn_none rfl) rfl (rd_extract rfl rfl rfl) ?_
   refine GL_alloc (wn_none rfl) rfl rfl tz67 rfl hp ?_
   intro g3 w hp
   refine GL_store (i := 0) (wn_none rfl) rfl rfl rfl rfl ts67 rfl (by rw [bys_length, leafS_length]) (bys_one _) hp rfl (by rw [List.length_replicate]; omega) (splice_all _ _ (by rw [bys_length, leafS_length, List.length_replicate])) ?_
   intro w hp
   refine GL_rd (v := .int _ _) (wn_none rfl) rfl (rd_assign rfl rfl) ?_
   refine GL_nil ?_
   refine GW_seq ?_
   refine GW_region ?_
   refine GL_rd (wn_none rfl) rfl (rd_loadC rfl rfl Try.underlying72 rfl ts72 (hp.get 1 rfl) (textC_length ha2 _ _ _)) ?_
   refine GL_call (wn_none rfl) rfl rfl (leaf_Put a2 s2 _ b2 n2 l2 _ ha2 (hs2.keep hp.mod) hsz2) rfl ?_
   rintro _ w ⟨rfl, hk⟩
   have hp := hp.comp hk
   refine GL_rd (v := .tuple _) (wn_none rfl) rfl (rd_move rfl rfl) ?_
   refine GL_rd (v := .agg ⟨_⟩) (wn_none rfl) rfl (rd_extract rfl rfl rfl) ?_
   refine GL_rd (v := .int _ _) (wn_none rfl) rfl (rd_extract rfl rfl rfl) ?_
   refine GL_alloc (wn_none rfl) rfl rfl tz67 rfl hp ?_
   intro g4 w hp
   refine GL_store (i := 0) (wn_none rfl) rfl rfl rfl rfl ts67 rfl (by rw [bys_length, leafS_length]) (bys_one _) hp rfl (by rw [List.length_replicate]; omega) (splice_all _ _ (by rw [bys_length, leafS_length, List.length_replicate])) ?_
   intro w hp
   refine GL_rd (v := .int _ _) (wn_none rfl) rfl (rd_assign rfl rfl) ?_
   refine GL_nil ?_
   refine GW_seq ?_
   refine GW_seq ?_
   refine GW_region ?_
   refine GL_rd (v := .int _ _) (wn_none rfl) rfl (rd_move rfl rfl) ?_
   refine GL_rd (wn_none rfl) rfl (rd_bin rfl rfl rfl bo_neq) ?_
   refine GL_rd (v := .bool _) (wn_none rfl) rfl (rd_move rfl rfl) ?_
   refine GL_split (t := 30) (b := _) rfl ?_ ?_
   ·intro hb3; (try simp only [decide_eq_true_eq, decide_eq_false_iff_not, Bool.not_eq_true', Bool.not_eq_false', Bool.not_eq_eq_eq_not, Bool.not_true, Bool.not_false, Int.not_lt, Int.not_le] at hb3)
    refine GL_pass (nw_off rfl rfl rfl rfl rfl) rfl ?_
    refine GL_pass (nw_off rfl rfl rfl rfl rfl) rfl ?_
    refine GL_rd (v := .bool _) (wn_none rfl) rfl (rd_pickT rfl rfl rfl) ?_
    refine GL_nil ?_
    refine GW_true rfl ?_
    refine GW_seq ?_
    refine GW_region ?_
    refine GL_call (wn_none rfl) rfl rfl (leaf_works _) rfl ?_
    rintro _ w ⟨rfl, hk⟩
    have hp := hp.comp hk
    refine GL_rd (v := .bool _) (wn_none rfl) rfl (rd_assign rfl rfl) ?_
    refine GL_nil ?_
    refine GW_ret ?_
    exact ⟨_, res1 Try.results9 (rv_tmp (v := .bool _) rfl rfl), rfl, hp.mods⟩
   ·intro hb3; (try simp only [decide_eq_true_eq, decide_eq_false_iff_not, Bool.not_eq_true', Bool.not_eq_false', Bool.not_eq_eq_eq_not, Bool.not_true, Bool.not_false, Int.not_lt, Int.not_le] at hb3)
    have hk1 := hb3
    refine GL_rd (v := .int _ _) (wn_on rfl rfl rfl rfl) rfl (rd_move rfl rfl) ?_
    refine GL_rd (wn_on rfl rfl rfl rfl) rfl (rd_bin rfl rfl rfl bo_neq) ?_
    refine GL_rd (v := .bool _) (wn_none rfl) rfl (rd_pickF rfl rfl rfl) ?_
    refine GL_nil ?_
    refine GW_cond rfl (fun hb4 => ?_) (fun hb4 => ?_)
    ·(try simp only [decide_eq_true_eq, decide_eq_false_iff_not, Bool.not_eq_true', Bool.not_eq_false', Bool.not_eq_eq_eq_not, Bool.not_true, Bool.not_false, Int.not_lt, Int.not_le] at hb4)
     refine GW_seq ?_
     refine GW_region ?_
     refine GL_call (wn_none rfl) rfl rfl (leaf_works _) rfl ?_
     rintro _ w ⟨rfl, hk⟩
     have hp := hp.comp hk
     refine GL_rd (v := .bool _) (wn_none rfl) rfl (rd_assign rfl rfl) ?_
     refine GL_nil ?_
     refine GW_ret ?_
     exact ⟨_, res1 Try.results9 (rv_tmp (v := .bool _) rfl rfl), rfl, hp.mods⟩
    ·(try simp only [decide_eq_true_eq, decide_eq_false_iff_not, Bool.not_eq_true', Bool.not_eq_false', Bool.not_eq_eq_eq_not, Bool.not_true, Bool.not_false, Int.not_lt, Int.not_le] at hb4)
     have hk2 := hb4
     refine GW_skip ?_
     refine GW_seq ?_
     refine GW_drawnK 11 (.one 0 true (.one 1 true (.one 2 true (.one 3 true (.one 4 true (.one 5 false (.one 6 true (.one 7 true (.one 8 false (.one 9 true (.one 10 true .nil))))))))))) mixed (by kernel_rfl) hp (fun _ h => h) fun w hp => ?_
     have hpS := hp
     refine GO_rd rfl (wn_none rfl) rfl hpS (fun w hp => (rd_loadC rfl rfl Try.underlying67 rfl ts67 (hp.get 1 rfl) (by rw [bys_length, leafS_length]))) ?_
     refine GO_rd rfl (wn_none rfl) rfl hpS (fun w hp => (rd_loadC rfl rfl Try.underlying67 rfl ts67 (hp.get 0 rfl) (by rw [bys_length, leafS_length]))) ?_
     refine GO_rd rfl (wn_none rfl) rfl hpS (fun w hp => (rd_bin rfl rfl rfl (bo_arrB Try.underlying67 Try.underlying5 ts5 (by kernel_rfl) (leafS_length _ _ _ _) (leafS_length _ _ _ _)).1)) ?_
     refine GO_rd rfl (wn_none rfl) rfl hpS (fun w hp => (rd_loadC rfl rfl Try.underlying72 rfl ts72 (hp.get 3 rfl) (textC_length ha1 _ _ _))) ?_
     refine GO_rd rfl (wn_none rfl) rfl hpS (fun w hp => (rd_loadC rfl rfl Try.underlying72 rfl ts72 (hp.get 2 rfl) (textC_length ha2 _ _ _))) ?_
     refine GO_of_GL rfl ?_
     refine GL_call (wn_none rfl) rfl rfl (ref_leafSame a1 s1 _ b1 n1 l1 a2 s2 _ b2 n2 l2 _ ha1 (hs1.keep hp.mod) hsz1 ha2 (hs2.keep hp.mod) hsz2) rfl ?_
     rintro _ w ⟨rfl, hk⟩
     have hp := hp.comp hk
     have hpS2 := hp
     refine GL_nil ⟨fun _ => hpS2, ?_⟩
     refine GO_rd rfl (wn_none rfl) rfl hpS2 (fun w hp => (rd_bin rfl rfl rfl (bo_beql Try.underlying4))) ?_
     refine GO_rd (v := .bool _) rfl (wn_none rfl) rfl hpS2 (fun w hp => (rd_move rfl rfl)) ?_
     refine GO_split (t := 42) (b := _) rfl ?_ ?_
     ·intro hb5; (try simp only [decide_eq_true_eq, decide_eq_false_iff_not, Bool.not_eq_true', Bool.not_eq_false', Bool.not_eq_eq_eq_not, Bool.not_true, Bool.not_false, Int.not_lt, Int.not_le] at hb5)
      refine GO_of_GL rfl ?_
      refine GL_call (wn_on rfl rfl rfl rfl) rfl rfl (leaf_works _) rfl ?_
      rintro _ w ⟨rfl, hk⟩
      have hp := hp.comp hk
      have hpS3 := hp
      refine GL_nil ⟨fun _ => hpS3, ?_⟩
      refine GO_rd (v := .bool _) rfl (wn_none rfl) rfl hpS3 (fun w hp => (rd_pickT rfl rfl rfl)) ?_
      refine GO_rd (v := .bool _) rfl (wn_none rfl) rfl hpS3 (fun w hp => (rd_assign rfl rfl)) ?_
      refine GO_nil ?_
      refine GW_ret ?_
      exact ⟨_, res1 Try.results9 (rv_tmp (v := .bool _) rfl rfl), rfl, hp.mods⟩
     ·intro hb5; (try simp only [decide_eq_true_eq, decide_eq_false_iff_not, Bool.not_eq_true', Bool.not_eq_false', Bool.not_eq_eq_eq_not, Bool.not_true, Bool.not_false, Int.not_lt, Int.not_le] at hb5)
      exact absurd hb5 (by rw [leaf_same ha1 ha2 hk1 hk2]; simp)

end Go.Proofs.Ytjbbknjhgdmdkaa
