/- Walks of functions of the program. -/
import Derived.Test.YtblpmjbddpadcaaZFBin
import Derived.Test.YtblpmjbddpadcaaZBinG
set_option linter.unusedVariables false
set_option linter.unusedSimpArgs false
namespace Go.Proofs.Ytblpmjbddpadcaa
open Go.Mo Go.RowKit
theorem bi_Copy (c : Clp) (hv tv : Value) (mh mt : Nat) (w0 : World) (hH : Sl w0 hv 1 mh (c.holds.map Value.string)) (hT : Sl w0 tv 1 mt (c.texts.map (Value.int .i64))) (hm : mh ≤ 65535 ∧ mt ≤ 65535) : Does Try.prog 71 #[.agg ⟨clipC c hv tv⟩] w0 fun v w' => ∃ hv' tv', v = .agg ⟨clipC c hv' tv'⟩ ∧ Hp w0 [] w' [.row 3 1 tv' c.texts.length (c.texts.map (Value.int .i64)), .row 9 1 hv' c.holds.length (c.holds.map Value.string)] := by
 obtain ⟨A, ch, rfl⟩ := sl_shape hH
 obtain ⟨B, ct, rfl⟩ := sl_shape hT
 obtain rfl : mh = c.holds.length := by have := hH.len; rw [List.length_map] at this; omega
 obtain rfl : mt = c.texts.length := by have := hT.len; rw [List.length_map] at this; omega
 refine does_of (l := [.agg ⟨(clipC c (.slice A c.holds.length ch) (.slice B c.texts.length ct))⟩]) Try.func71 (by kernel_rfl) rfl Try.ntmps71 rfl rfl ?_
 have hp := Hp.refl w0 []
 refine GW_seq ?_
 refine GW_region ?_
 refine GL_box (wn_none rfl) rfl rfl rfl rfl hp ?_
 intro g w hp
 refine GL_alloc (wn_none rfl) rfl rfl tz83 rfl hp ?_
 intro g2 w hp
 refine GL_nil ?_
 refine GW_seq ?_
 refine GW_drawnK 7 (.one 0 true (.one 1 true (.one 3 true (.one 4 true (.one 2 false (.one 6 true (.one 5 false (.one 7 false (.one 8 false (.one 9 false .nil)))))))))) mixed (by kernel_rfl) hp (fun _ h => (h.sub (.cons _ (.cons_cons _ .slnil)))) fun w hp => ?_
 have hpS := (hp.sub (.cons _ (.cons_cons _ .slnil)))
 refine GO_rdT rfl (wn_none rfl) rfl (fun w => (rd_field rfl rfl fa83_5 _ rfl)) ?_
 refine GO_rd (v := .slice _ _ _) rfl rfl (wn_none rfl) rfl hpS (fun w hp => (rd_load rfl rfl Try.underlying40 rfl ((cell_of_cells (hp.get 0 rfl) _).trans (clip_holds _ _ _)))) ?_
 refine GO_rdT rfl (wn_none rfl) rfl (fun w => (rd_field rfl rfl fa83_7 _ rfl)) ?_
 refine GO_rd (v := .slice _ _ _) rfl rfl (wn_none rfl) rfl hpS (fun w hp => (rd_load rfl rfl Try.underlying32 rfl ((cell_of_cells (hp.get 0 rfl) _).trans (clip_texts _ _ _)))) ?_
 refine GO_of_GL rfl ?_
 refine GL_call (wn_none rfl) rfl rfl (sl_CloneS _ _ c.holds _ (hH.keep hp.mod) hm.1) rfl ?_
 intro vs w hk
 have hp := hp.comp hk
 obtain ⟨As, cs, rfl⟩ := row_shape (hp.get 0 rfl)
 have hpS2 := (hp.sub (.cons _ (.cons _ (.cons_cons _ .slnil))))
 refine GL_nil ⟨fun _ => hpS2, ?_⟩
 refine GO_rdT rfl (wn_none rfl) rfl (fun w => (rd_field rfl rfl fa83_5 _ rfl)) ?_
 refine GO_of_GL rfl ?_
 refine GL_call (wn_none rfl) rfl rfl (sl_CloneI _ _ c.texts _ (hT.keep hp.mod) hm.2) rfl ?_
 intro vt w hk
 have hp := hp.comp hk
 obtain ⟨At, ct2, rfl⟩ := row_shape (hp.get 0 rfl)
 have hpS3 := (hp.sub (.cons _ (.cons _ (.cons _ (.cons_cons _ .slnil)))))
 refine GL_nil ⟨fun _ => hpS3, ?_⟩
 refine GO_of_GL rfl ?_
 refine GL_store (i := 3) (wn_none rfl) rfl rfl rfl rfl ts40 rfl rfl (one1 rfl) hp rfl (by rw [clipC_len]; decide) (clip_setH _ _ _ _) ?_
 intro w hp
 refine GL_nil ⟨fun h => absurd h (by decide), ?_⟩
 refine GO_of_GL rfl ?_
 refine GL_rd (wn_none rfl) rfl (rd_field rfl rfl fa83_7 _ rfl) (GL_nil ⟨fun h => absurd h (by decide), ?_⟩)
 refine GO_of_GL rfl ?_
 refine GL_store (i := 3) (wn_none rfl) rfl rfl rfl rfl ts32 rfl rfl (one1 rfl) hp rfl (by rw [clipC_len]; decide) (clip_setT _ _ _ _) ?_
 intro w hp
 refine GL_nil ⟨fun h => absurd h (by decide), ?_⟩
 refine GO_nil ?_
 refine GW_seq ?_
 refine GW_region ?_
 refine GL_rd (wn_none rfl) rfl (rd_loadC rfl rfl Try.underlying83 rfl ts83 (hp.get 3 rfl) (clipC_len _ _ _)) ?_
 refine GL_store (i := 2) (wn_none rfl) rfl rfl rfl rfl ts83 rfl (clipC_len _ _ _) (clipC_one _ _ _ _ _ _ _) hp rfl (Nat.le_of_ble_eq_true rfl) (splice_all _ _ (by rw [clipC_len]; rfl)) ?_
 intro w hp
 refine GL_nil ?_
 refine GW_ret ?_
 refine ⟨_, res1 Try.results71 (rv_cell rfl rfl Try.underlying83 rfl ts83 (clipC_len _ _ _) (hp.get 2 rfl)), _, _, rfl, ?_⟩
 have hp := (((hp.front 1 rfl).front 1 rfl).take 2)
 exact hp
theorem ref_kSame (a b : Clp) (ha ta hb tb : Value) (w0 : World) (hA1 : Sl w0 ha 1 a.holds.length (a.holds.map Value.string)) (hA2 : Sl w0 ta 1 a.texts.length (a.texts.map (Value.int .i64))) (hB1 : Sl w0 hb 1 b.holds.length (b.holds.map Value.string)) (hB2 : Sl w0 tb 1 b.texts.length (b.texts.map (Value.int .i64))) : Does Try.prog 68 #[.agg ⟨clipC a ha ta⟩, .agg ⟨clipC b hb tb⟩] w0 fun v w' => ∃ r : Bool, v = .bool r ∧ (r = true ↔ a = b) ∧ Hp w0 [] w' [] := by
 obtain ⟨A1, c1, rfl⟩ := sl_shape hA1
 obtain ⟨A2, c2, rfl⟩ := sl_shape hA2
 obtain ⟨C1, d1, rfl⟩ := sl_shape hB1
 obtain ⟨C2, d2, rfl⟩ := sl_shape hB2
 have hle1 := hA1.le
 have hle2 := hA2.le
 refine does_of (l := [.agg ⟨clipC a (.slice A1 a.holds.length c1) (.slice A2 a.texts.length c2)⟩, .agg ⟨clipC b (.slice C1 b.holds.length d1) (.slice C2 b.texts.length d2)⟩]) Try.func68 (by kernel_rfl) rfl Try.ntmps68 rfl rfl ?_
 have hp := Hp.refl w0 []
 refine GW_seq ?_
 refine GW_region ?_
 refine GL_box (wn_none rfl) rfl rfl rfl rfl hp ?_
 intro g w hp
 refine GL_box (wn_none rfl) rfl rfl rfl rfl hp ?_
 intro g2 w hp
 refine GL_rd (v := .bool _) (wn_none rfl) rfl (rd_assign rfl rfl) ?_
 refine GL_nil ?_
 refine GW_seq ?_
 refine GW_seq ?_
 refine GW_region ?_
 refine GL_rd (wn_none rfl) rfl (rd_field rfl rfl fa83_0 _ rfl) ?_
 refine GL_rd (wn_none rfl) rfl (rd_loadN (L := bys a.addr.1) rfl rfl Try.underlying57 rfl ts57 (by rw [bys_length]; exact a.addr.2) (fun j u hj => by rw [Nat.zero_add]; exact (cell_of_cells (hp.get 1 rfl) j).trans (clip_addr hj))) ?_
 refine GL_rd (wn_none rfl) rfl (rd_field rfl rfl fa83_0 _ rfl) ?_
 refine GL_rd (wn_none rfl) rfl (rd_loadN (L := bys b.addr.1) rfl rfl Try.underlying57 rfl ts57 (by rw [bys_length]; exact b.addr.2) (fun j u hj => by rw [Nat.zero_add]; exact (cell_of_cells (hp.get 0 rfl) j).trans (clip_addr hj))) ?_
 refine GL_rd (wn_none rfl) rfl (rd_bin rfl rfl rfl (bo_arrB Try.underlying57 Try.underlying5 ts5 (by kernel_rfl) a.addr.2 b.addr.2).2) ?_
 refine GL_rd (v := .bool _) (wn_none rfl) rfl (rd_move rfl rfl) ?_
 refine GL_split (t := 12) (b := _) rfl ?_ ?_
 ·intro hb; (try simp only [decide_eq_true_eq, decide_eq_false_iff_not, Bool.not_eq_true', Bool.not_eq_false', Bool.not_eq_eq_eq_not, Bool.not_true, Bool.not_false, Int.not_lt, Int.not_le] at hb)
  have hno : ¬ a = b := fun e => hb (by rw [e])
  refine GL_pass (nw_off rfl rfl rfl rfl rfl) rfl ?_
  refine GL_pass (nw_off rfl rfl rfl rfl rfl) rfl ?_
  refine GL_pass (nw_off rfl rfl rfl rfl rfl) rfl ?_
  refine GL_pass (nw_off rfl rfl rfl rfl rfl) rfl ?_
  refine GL_pass (nw_off rfl rfl rfl rfl rfl) rfl ?_
  refine GL_rd (v := .bool _) (wn_none rfl) rfl (rd_pickT rfl rfl rfl) ?_
  refine GL_rd (v := .bool _) (wn_none rfl) rfl (rd_move rfl rfl) ?_
  refine GL_pass (nw_off rfl rfl rfl rfl rfl) rfl ?_
  refine GL_pass (nw_off rfl rfl rfl rfl rfl) rfl ?_
  refine GL_pass (nw_off rfl rfl rfl rfl rfl) rfl ?_
  refine GL_pass (nw_off rfl rfl rfl rfl rfl) rfl ?_
  refine GL_pass (nw_off rfl rfl rfl rfl rfl) rfl ?_
  refine GL_rd (v := .bool _) (wn_none rfl) rfl (rd_pickT rfl rfl rfl) ?_
  refine GL_rd (v := .bool _) (wn_none rfl) rfl (rd_move rfl rfl) ?_
  refine GL_pass (nw_off rfl rfl rfl rfl rfl) rfl ?_
  refine GL_pass (nw_off rfl rfl rfl rfl rfl) rfl ?_
  refine GL_pass (nw_off rfl rfl rfl rfl rfl) rfl ?_
  refine GL_pass (nw_off rfl rfl rfl rfl rfl) rfl ?_
  refine GL_pass (nw_off rfl rfl rfl rfl rfl) rfl ?_
  refine GL_rd (v := .bool _) (wn_none rfl) rfl (rd_pickT rfl rfl rfl) ?_
  refine GL_rd (v := .bool _) (wn_none rfl) rfl (rd_move rfl rfl) ?_
  refine GL_pass (nw_off rfl rfl rfl rfl rfl) rfl ?_
  refine GL_pass (nw_off rfl rfl rfl rfl rfl) rfl ?_
  refine GL_pass (nw_off rfl rfl rfl rfl rfl) rfl ?_
  refine GL_pass (nw_off rfl rfl rfl rfl rfl) rfl ?_
  refine GL_pass (nw_off rfl rfl rfl rfl rfl) rfl ?_
  refine GL_rd (v := .bool _) (wn_none rfl) rfl (rd_pickT rfl rfl rfl) ?_
  refine GL_rd (v := .bool _) (wn_none rfl) rfl (rd_move rfl rfl) ?_
  refine GL_pass (nw_off rfl rfl rfl rfl rfl) rfl ?_
  refine GL_pass (nw_off rfl rfl rfl rfl rfl) rfl ?_
  refine GL_pass (nw_off rfl rfl rfl rfl rfl) rfl ?_
  refine GL_pass (nw_off rfl rfl rfl rfl rfl) rfl ?_
  refine GL_pass (nw_off rfl rfl rfl rfl rfl) rfl ?_
  refine GL_rd (v := .bool _) (wn_none rfl) rfl (rd_pickT rfl rfl rfl) ?_
  refine GL_rd (v := .bool _) (wn_none rfl) rfl (rd_move rfl rfl) ?_
  refine GL_pass (nw_off rfl rfl rfl rfl rfl) rfl ?_
  refine GL_pass (nw_off rfl rfl rfl rfl rfl) rfl ?_
  refine GL_pass (nw_off rfl rfl rfl rfl rfl) rfl ?_
  refine GL_pass (nw_off rfl rfl rfl rfl rfl) rfl ?_
  refine GL_pass (nw_off rfl rfl rfl rfl rfl) rfl ?_
  refine GL_pass (nw_off rfl rfl rfl rfl rfl) rfl ?_
  refine GL_pass (nw_off rfl rfl rfl rfl rfl) rfl ?_
  refine GL_rd (v := .bool _) (wn_none rfl) rfl (rd_pickT rfl rfl rfl) ?_
  refine GL_rd (v := .bool _) (wn_none rfl) rfl (rd_move rfl rfl) ?_
  refine GL_pass (nw_off rfl rfl rfl rfl rfl) rfl ?_
  refine GL_pass (nw_off rfl rfl rfl rfl rfl) rfl ?_
  refine GL_pass (nw_off rfl rfl rfl rfl rfl) rfl ?_
  refine GL_pass (nw_off rfl rfl rfl rfl rfl) rfl ?_
  refine GL_pass (nw_off rfl rfl rfl rfl rfl) rfl ?_
  refine GL_pass (nw_off rfl rfl rfl rfl rfl) rfl ?_
  refine GL_pass (nw_off rfl rfl rfl rfl rfl) rfl ?_
  refine GL_rd (v := .bool _) (wn_none rfl) rfl (rd_pickT rfl rfl rfl) ?_
  refine GL_nil ?_
  refine GW_true rfl ?_
  refine GW_seq ?_
  refine GW_region ?_
  refine GL_rd (v := .bool _) (wn_none rfl) rfl (rd_assign rfl rfl) ?_
  refine GL_nil ?_
  refine GW_ret ?_
  exact ⟨_, res1 Try.results68 (rv_tmp (v := .bool _) rfl rfl), false, rfl, ⟨fun h => (by cases h), fun h => absurd h hno⟩, hp.mods⟩
 ·intro hb; (try simp only [decide_eq_true_eq, decide_eq_false_iff_not, Bool.not_eq_true', Bool.not_eq_false', Bool.not_eq_eq_eq_not, Bool.not_true, Bool.not_false, Int.not_lt, Int.not_le] at hb)
  have q12 := hb
  refine GL_rd (wn_on rfl rfl rfl rfl) rfl (rd_field rfl rfl fa83_1 _ rfl) ?_
  refine GL_rd (wn_on rfl rfl rfl rfl) rfl (rd_load rfl rfl Try.underlying3 rfl ((cell_of_cells (hp.get 1 rfl) _).trans (clip_cls _ _ _))) ?_
  refine GL_rd (wn_on rfl rfl rfl rfl) rfl (rd_field rfl rfl fa83_1 _ rfl) ?_
  refine GL_rd (wn_on rfl rfl rfl rfl) rfl (rd_load rfl rfl Try.underlying3 rfl ((cell_of_cells (hp.get 0 rfl) _).trans (clip_cls _ _ _))) ?_
  refine GL_rd (wn_on rfl rfl rfl rfl) rfl (rd_bin rfl rfl rfl bo_neq) ?_
  refine GL_rd (v := .bool _) (wn_none rfl) rfl (rd_pickF rfl rfl rfl) ?_
  refine GL_rd (v := .bool _) (wn_none rfl) rfl (rd_move rfl rfl) ?_
  refine GL_split (t := 19) (b := _) rfl ?_ ?_
  ·intro hb2; (try simp only [decide_eq_true_eq, decide_eq_false_iff_not, Bool.not_eq_true', Bool.not_eq_false', Bool.not_eq_eq_eq_not, Bool.not_true, Bool.not_false, Int.not_lt, Int.not_le] at hb2)
   have hno : ¬ a = b := fun e => hb2 (by rw [e])
   refine GL_pass (nw_off rfl rfl rfl rfl rfl) rfl ?_
   refine GL_pass (nw_off rfl rfl rfl rfl rfl) rfl ?_
   refine GL_pass (nw_off rfl rfl rfl rfl rfl) rfl ?_
   refine GL_pass (nw_off rfl rfl rfl rfl rfl) rfl ?_
   refine GL_pass (nw_off rfl rfl rfl rfl rfl) rfl ?_
   refine GL_rd (v := .bool _) (wn_none rfl) rfl (rd_pickT rfl rfl rfl) ?_
   refine GL_rd (v := .bool _) (wn_none rfl) rfl (rd_move rfl rfl) ?_
   refine GL_pass (nw_off rfl rfl rfl rfl rfl) rfl ?_
   refine GL_pass (nw_off rfl rfl rfl rfl rfl) rfl ?_
   refine GL_pass (nw_off rfl rfl rfl rfl rfl) rfl ?_
   refine GL_pass (nw_off rfl rfl rfl rfl rfl) rfl ?_
   refine GL_pass (nw_off rfl rfl rfl rfl rfl) rfl ?_
   refine GL_rd (v := .bool _) (wn_none rfl) rfl (rd_pickT rfl rfl rfl) ?_
   refine GL_rd (v := .bool _) (wn_none rfl) rfl (rd_move rfl rfl) ?_
   refine GL_pass (nw_off rfl rfl rfl rfl rfl) rfl ?_
   refine GL_pass (nw_off rfl rfl rfl rfl rfl) rfl ?_
   refine GL_pass (nw_off rfl rfl rfl rfl rfl) rfl ?_
   refine GL_pass (nw_off rfl rfl rfl rfl rfl) rfl ?_
   refine GL_pass (nw_off rfl rfl rfl rfl rfl) rfl ?_
   refine GL_rd (v := .bool _) (wn_none rfl) rfl (rd_pickT rfl rfl rfl) ?_
   refine GL_rd (v := .bool _) (wn_none rfl) rfl (rd_move rfl rfl) ?_
   refine GL_pass (nw_off rfl rfl rfl rfl rfl) rfl ?_
   refine GL_pass (nw_off rfl rfl rfl rfl rfl) rfl ?_
   refine GL_pass (nw_off rfl rfl rfl rfl rfl) rfl ?_
   refine GL_pass (nw_off rfl rfl rfl rfl rfl) rfl ?_
   refine GL_pass (nw_off rfl rfl rfl rfl rfl) rfl ?_
   refine GL_rd (v := .bool _) (wn_none rfl) rfl (rd_pickT rfl rfl rfl) ?_
   refine GL_rd (v := .bool _) (wn_none rfl) rfl (rd_move rfl rfl) ?_
   refine GL_pass (nw_off rfl rfl rfl rfl rfl) rfl ?_
   refine GL_pass (nw_off rfl rfl rfl rfl rfl) rfl ?_
   refine GL_pass (nw_off rfl rfl rfl rfl rfl) rfl ?_
   refine GL_pass (nw_off rfl rfl rfl rfl rfl) rfl ?_
   refine GL_pass (nw_off rfl rfl rfl rfl rfl) rfl ?_
   refine GL_pass (nw_off rfl rfl rfl rfl rfl) rfl ?_
   refine GL_pass (nw_off rfl rfl rfl rfl rfl) rfl ?_
   refine GL_rd (v := .bool _) (wn_none rfl) rfl (rd_pickT rfl rfl rfl) ?_
   refine GL_rd (v := .bool _) (wn_none rfl) rfl (rd_move rfl rfl) ?_
   refine GL_pass (nw_off rfl rfl rfl rfl rfl) rfl ?_
   refine GL_pass (nw_off rfl rfl rfl rfl rfl) rfl ?_
   refine GL_pass (nw_off rfl rfl rfl rfl rfl) rfl ?_
   refine GL_pass (nw_off rfl rfl rfl rfl rfl) rfl ?_
   refine GL_pass (nw_off rfl rfl rfl rfl rfl) rfl ?_
   refine GL_pass (nw_off rfl rfl rfl rfl rfl) rfl ?_
   refine GL_pass (nw_off rfl rfl rfl rfl rfl) rfl ?_
   refine GL_rd (v := .bool _) (wn_none rfl) rfl (rd_pickT rfl rfl rfl) ?_
   refine GL_nil ?_
   refine GW_true rfl ?_
   refine GW_seq ?_
   refine GW_region ?_
   refine GL_rd (v := .bool _) (wn_none rfl) rfl (rd_assign rfl rfl) ?_
   refine GL_nil ?_
   refine GW_ret ?_
   exact ⟨_, res1 Try.results68 (rv_tmp (v := .bool _) rfl rfl), false, rfl, ⟨fun h => (by cases h), fun h => absurd h hno⟩, hp.mods⟩
  ·intro hb2; (try simp only [decide_eq_true_eq, decide_eq_false_iff_not, Bool.not_eq_true', Bool.not_eq_false', Bool.not_eq_eq_eq_not, Bool.not_true, Bool.not_false, Int.not_lt, Int.not_le] at hb2)
   have q19 := hb2
   refine GL_rd (wn_on rfl rfl rfl rfl) rfl (rd_field rfl rfl fa83_2 _ rfl) ?_
   refine GL_rd (wn_on rfl rfl rfl rfl) rfl (rd_load rfl rfl Try.underlying3 rfl ((cell_of_cells (hp.get 1 rfl) _).trans (clip_made _ _ _))) ?_
   refine GL_rd (wn_on rfl rfl rfl rfl) rfl (rd_field rfl rfl fa83_2 _ rfl) ?_
   refine GL_rd (wn_on rfl rfl rfl rfl) rfl (rd_load rfl rfl Try.underlying3 rfl ((cell_of_cells (hp.get 0 rfl) _).trans (clip_made _ _ _))) ?_
   refine GL_rd (wn_on rfl rfl rfl rfl) rfl (rd_bin rfl rfl rfl bo_neq) ?_
   refine GL_rd (v := .bool _) (wn_none rfl) rfl (rd_pickF rfl rfl rfl) ?_
   refine GL_rd (v := .bool _) (wn_none rfl) rfl (rd_move rfl rfl) ?_
   refine GL_split (t := 26) (b := _) rfl ?_ ?_
   ·intro hb3; (try simp only [decide_eq_true_eq, decide_eq_false_iff_not, Bool.not_eq_true', Bool.not_eq_false', Bool.not_eq_eq_eq_not, Bool.not_true, Bool.not_false, Int.not_lt, Int.not_le] at hb3)
    have hno : ¬ a = b := fun e => hb3 (by rw [e])
    refine GL_pass (nw_off rfl rfl rfl rfl rfl) rfl ?_
    refine GL_pass (nw_off rfl rfl rfl rfl rfl) rfl ?_
    refine GL_pass (nw_off rfl rfl rfl rfl rfl) rfl ?_
    refine GL_pass (nw_off rfl rfl rfl rfl rfl) rfl ?_
    refine GL_pass (nw_off rfl rfl rfl rfl rfl) rfl ?_
    refine GL_rd (v := .bool _) (wn_none rfl) rfl (rd_pickT rfl rfl rfl) ?_
    refine GL_rd (v := .bool _) (wn_none rfl) rfl (rd_move rfl rfl) ?_
    refine GL_pass (nw_off rfl rfl rfl rfl rfl) rfl ?_
    refine GL_pass (nw_off rfl rfl rfl rfl rfl) rfl ?_
    refine GL_pass (nw_off rfl rfl rfl rfl rfl) rfl ?_
    refine GL_pass (nw_off rfl rfl rfl rfl rfl) rfl ?_
    refine GL_pass (nw_off rfl rfl rfl rfl rfl) rfl ?_
    refine GL_rd (v := .bool _) (wn_none rfl) rfl (rd_pickT rfl rfl rfl) ?_
    refine GL_rd (v := .bool _) (wn_none rfl) rfl (rd_move rfl rfl) ?_
    refine GL_pass (nw_off rfl rfl rfl rfl rfl) rfl ?_
    refine GL_pass (nw_off rfl rfl rfl rfl rfl) rfl ?_
    refine GL_pass (nw_off rfl rfl rfl rfl rfl) rfl ?_
    refine GL_pass (nw_off rfl rfl rfl rfl rfl) rfl ?_
    refine GL_pass (nw_off rfl rfl rfl rfl rfl) rfl ?_
    refine GL_rd (v := .bool _) (wn_none rfl) rfl (rd_pickT rfl rfl rfl) ?_
    refine GL_rd (v := .bool _) (wn_none rfl) rfl (rd_move rfl rfl) ?_
    refine GL_pass (nw_off rfl rfl rfl rfl rfl) rfl ?_
    refine GL_pass (nw_off rfl rfl rfl rfl rfl) rfl ?_
    refine GL_pass (nw_off rfl rfl rfl rfl rfl) rfl ?_
    refine GL_pass (nw_off rfl rfl rfl rfl rfl) rfl ?_
    refine GL_pass (nw_off rfl rfl rfl rfl rfl) rfl ?_
    refine GL_pass (nw_off rfl rfl rfl rfl rfl) rfl ?_
    refine GL_pass (nw_off rfl rfl rfl rfl rfl) rfl ?_
    refine GL_rd (v := .bool _) (wn_none rfl) rfl (rd_pickT rfl rfl rfl) ?_
    refine GL_rd (v := .bool _) (wn_none rfl) rfl (rd_move rfl rfl) ?_
    refine GL_pass (nw_off rfl rfl rfl rfl rfl) rfl ?_
    refine GL_pass (nw_off rfl rfl rfl rfl rfl) rfl ?_
    refine GL_pass (nw_off rfl rfl rfl rfl rfl) rfl ?_
    refine GL_pass (nw_off rfl rfl rfl rfl rfl) rfl ?_
    refine GL_pass (nw_off rfl rfl rfl rfl rfl) rfl ?_
    refine GL_pass (nw_off rfl rfl rfl rfl rfl) rfl ?_
    refine GL_pass (nw_off rfl rfl rfl rfl rfl) rfl ?_
    refine GL_rd (v := .bool _) (wn_none rfl) rfl (rd_pickT rfl rfl rfl) ?_
    refine GL_nil ?_
    refine GW_true rfl ?_
    refine GW_seq ?_
    refine GW_region ?_
    refine GL_rd (v := .bool _) (wn_none rfl) rfl (rd_assign rfl rfl) ?_
    refine GL_nil ?_
    refine GW_ret ?_
    exact ⟨_, res1 Try.results68 (rv_tmp (v := .bool _) rfl rfl), false, rfl, ⟨fun h => (by cases h), fun h => absurd h hno⟩, hp.mods⟩
   ·intro hb3; (try simp only [decide_eq_true_eq, decide_eq_false_iff_not, Bool.not_eq_true', Bool.not_eq_false', Bool.not_eq_eq_eq_not, Bool.not_true, Bool.not_false, Int.not_lt, Int.not_le] at hb3)
    have q26 := hb3
    refine GL_rd (wn_on rfl rfl rfl rfl) rfl (rd_field rfl rfl fa83_3 _ rfl) ?_
    refine GL_rd (wn_on rfl rfl rfl rfl) rfl (rd_load rfl rfl Try.underlying4 rfl ((cell_of_cells (hp.get 1 rfl) _).trans (clip_fired _ _ _))) ?_
    refine GL_rd (wn_on rfl rfl rfl rfl) rfl (rd_field rfl rfl fa83_3 _ rfl) ?_
    refine GL_rd (wn_on rfl rfl rfl rfl) rfl (rd_load rfl rfl Try.underlying4 rfl ((cell_of_cells (hp.get 0 rfl) _).trans (clip_fired _ _ _))) ?_
    refine GL_rd (wn_on rfl rfl rfl rfl) rfl (rd_bin rfl rfl rfl (bo_bneq Try.underlying4)) ?_
    refine GL_rd (v := .bool _) (wn_none rfl) rfl (rd_pickF rfl rfl rfl) ?_
    refine GL_rd (v := .bool _) (wn_none rfl) rfl (rd_move rfl rfl) ?_
    refine GL_split (t := 33) (b := _) rfl ?_ ?_
    ·intro hb4; (try simp only [decide_eq_true_eq, decide_eq_false_iff_not, Bool.not_eq_true', Bool.not_eq_false', Bool.not_eq_eq_eq_not, Bool.not_true, Bool.not_false, Int.not_lt, Int.not_le] at hb4)
     have hno : ¬ a = b := fun e => by have h9 := hb4; rw [e] at h9; simp at h9
     refine GL_pass (nw_off rfl rfl rfl rfl rfl) rfl ?_
     refine GL_pass (nw_off rfl rfl rfl rfl rfl) rfl ?_
     refine GL_pass (nw_off rfl rfl rfl rfl rfl) rfl ?_
     refine GL_pass (nw_off rfl rfl rfl rfl rfl) rfl ?_
     refine GL_pass (nw_off rfl rfl rfl rfl rfl) rfl ?_
     refine GL_rd (v := .bool _) (wn_none rfl) rfl (rd_pickT rfl rfl rfl) ?_
     refine GL_rd (v := .bool _) (wn_none rfl) rfl (rd_move rfl rfl) ?_
     refine GL_pass (nw_off rfl rfl rfl rfl rfl) rfl ?_
     refine GL_pass (nw_off rfl rfl rfl rfl rfl) rfl ?_
     refine GL_pass (nw_off rfl rfl rfl rfl rfl) rfl ?_
     refine GL_pass (nw_off rfl rfl rfl rfl rfl) rfl ?_
     refine GL_pass (nw_off rfl rfl rfl rfl rfl) rfl ?_
     refine GL_rd (v := .bool _) (wn_none rfl) rfl (rd_pickT rfl rfl rfl) ?_
     refine GL_rd (v := .bool _) (wn_none rfl) rfl (rd_move rfl rfl) ?_
     refine GL_pass (nw_off rfl rfl rfl rfl rfl) rfl ?_
     refine GL_pass (nw_off rfl rfl rfl rfl rfl) rfl ?_
     refine GL_pass (nw_off rfl rfl rfl rfl rfl) rfl ?_
     refine GL_pass (nw_off rfl rfl rfl rfl rfl) rfl ?_
     refine GL_pass (nw_off rfl rfl rfl rfl rfl) rfl ?_
     refine GL_pass (nw_off rfl rfl rfl rfl rfl) rfl ?_
     refine GL_pass (nw_off rfl rfl rfl rfl rfl) rfl ?_
     refine GL_rd (v := .bool _) (wn_none rfl) rfl (rd_pickT rfl rfl rfl) ?_
     refine GL_rd (v := .bool _) (wn_none rfl) rfl (rd_move rfl rfl) ?_
     refine GL_pass (nw_off rfl rfl rfl rfl rfl) rfl ?_
     refine GL_pass (nw_off rfl rfl rfl rfl rfl) rfl ?_
     refine GL_pass (nw_off rfl rfl rfl rfl rfl) rfl ?_
     refine GL_pass (nw_off rfl rfl rfl rfl rfl) rfl ?_
     refine GL_pass (nw_off rfl rfl rfl rfl rfl) rfl ?_
     refine GL_pass (nw_off rfl rfl rfl rfl rfl) rfl ?_
     refine GL_pass (nw_off rfl rfl rfl rfl rfl) rfl ?_
     refine GL_rd (v := .bool _) (wn_none rfl) rfl (rd_pickT rfl rfl rfl) ?_
     refine GL_nil ?_
     refine GW_true rfl ?_
     refine GW_seq ?_
     refine GW_region ?_
     refine GL_rd (v := .bool _) (wn_none rfl) rfl (rd_assign rfl rfl) ?_
     refine GL_nil ?_
     refine GW_ret ?_
     exact ⟨_, res1 Try.results68 (rv_tmp (v := .bool _) rfl rfl), false, rfl, ⟨fun h => (by cases h), fun h => absurd h hno⟩, hp.mods⟩
    ·intro hb4; (try simp only [decide_eq_true_eq, decide_eq_false_iff_not, Bool.not_eq_true', Bool.not_eq_false', Bool.not_eq_eq_eq_not, Bool.not_true, Bool.not_false, Int.not_lt, Int.not_le] at hb4)
     have q33 := hb4
     refine GL_rd (wn_on rfl rfl rfl rfl) rfl (rd_field rfl rfl fa83_4 _ rfl) ?_
     refine GL_rd (wn_on rfl rfl rfl rfl) rfl (rd_load rfl rfl Try.underlying3 rfl ((cell_of_cells (hp.get 1 rfl) _).trans (clip_event _ _ _))) ?_
     refine GL_rd (wn_on rfl rfl rfl rfl) rfl (rd_field rfl rfl fa83_4 _ rfl) ?_
     refine GL_rd (wn_on rfl rfl rfl rfl) rfl (rd_load rfl rfl Try.underlying3 rfl ((cell_of_cells (hp.get 0 rfl) _).trans (clip_event _ _ _))) ?_
     refine GL_rd (wn_on rfl rfl rfl rfl) rfl (rd_bin rfl rfl rfl bo_neq) ?_
     refine GL_rd (v := .bool _) (wn_none rfl) rfl (rd_pickF rfl rfl rfl) ?_
     refine GL_rd (v := .bool _) (wn_none rfl) rfl (rd_move rfl rfl) ?_
     refine GL_split (t := 40) (b := _) rfl ?_ ?_
     ·intro hb5; (try simp only [decide_eq_true_eq, decide_eq_false_iff_not, Bool.not_eq_true', Bool.not_eq_false', Bool.not_eq_eq_eq_not, Bool.not_true, Bool.not_false, Int.not_lt, Int.not_le] at hb5)
      have hno : ¬ a = b := fun e => hb5 (by rw [e])
      refine GL_pass (nw_off rfl rfl rfl rfl rfl) rfl ?_
      refine GL_pass (nw_off rfl rfl rfl rfl rfl) rfl ?_
      refine GL_pass (nw_off rfl rfl rfl rfl rfl) rfl ?_
      refine GL_pass (nw_off rfl rfl rfl rfl rfl) rfl ?_
      refine GL_pass (nw_off rfl rfl rfl rfl rfl) rfl ?_
      refine GL_rd (v := .bool _) (wn_none rfl) rfl (rd_pickT rfl rfl rfl) ?_
      refine GL_rd (v := .bool _) (wn_none rfl) rfl (rd_move rfl rfl) ?_
      refine GL_pass (nw_off rfl rfl rfl rfl rfl) rfl ?_
      refine GL_pass (nw_off rfl rfl rfl rfl rfl) rfl ?_
      refine GL_pass (nw_off rfl rfl rfl rfl rfl) rfl ?_
      refine GL_pass (nw_off rfl rfl rfl rfl rfl) rfl ?_
      refine GL_pass (nw_off rfl rfl rfl rfl rfl) rfl ?_
      refine GL_pass (nw_off rfl rfl rfl rfl rfl) rfl ?_
      refine GL_pass (nw_off rfl rfl rfl rfl rfl) rfl ?_
      refine GL_rd (v := .bool _) (wn_none rfl) rfl (rd_pickT rfl rfl rfl) ?_
      refine GL_rd (v := .bool _) (wn_none rfl) rfl (rd_move rfl rfl) ?_
      refine GL_pass (nw_off rfl rfl rfl rfl rfl) rfl ?_
      refine GL_pass (nw_off rfl rfl rfl rfl rfl) rfl ?_
      refine GL_pass (nw_off rfl rfl rfl rfl rfl) rfl ?_
      refine GL_pass (nw_off rfl rfl rfl rfl rfl) rfl ?_
      refine GL_pass (nw_off rfl rfl rfl rfl rfl) rfl ?_
      refine GL_pass (nw_off rfl rfl rfl rfl rfl) rfl ?_
      refine GL_pass (nw_off rfl rfl rfl rfl rfl) rfl ?_
      refine GL_rd (v := .bool _) (wn_none rfl) rfl (rd_pickT rfl rfl rfl) ?_
      refine GL_nil ?_
      refine GW_true rfl ?_
      refine GW_seq ?_
      refine GW_region ?_
      refine GL_rd (v := .bool _) (wn_none rfl) rfl (rd_assign rfl rfl) ?_
      refine GL_nil ?_
      refine GW_ret ?_
      exact ⟨_, res1 Try.results68 (rv_tmp (v := .bool _) rfl rfl), false, rfl, ⟨fun h => (by cases h), fun h => absurd h hno⟩, hp.mods⟩
     ·intro hb5; (try simp only [decide_eq_true_eq, decide_eq_false_iff_not, Bool.not_eq_true', Bool.not_eq_false', Bool.not_eq_eq_eq_not, Bool.not_true, Bool.not_false, Int.not_lt, Int.not_le] at hb5)
      have q40 := hb5
      refine GL_rd (wn_on rfl rfl rfl rfl) rfl (rd_field rfl rfl fa83_6 _ rfl) ?_
      refine GL_rd (wn_on rfl rfl rfl rfl) rfl (rd_load rfl rfl Try.underlying9 rfl ((cell_of_cells (hp.get 1 rfl) _).trans (clip_note _ _ _))) ?_
      refine GL_rd (wn_on rfl rfl rfl rfl) rfl (rd_field rfl rfl fa83_6 _ rfl) ?_
      refine GL_rd (wn_on rfl rfl rfl rfl) rfl (rd_load rfl rfl Try.underlying9 rfl ((cell_of_cells (hp.get 0 rfl) _).trans (clip_note _ _ _))) ?_
      refine GL_rd (wn_on rfl rfl rfl rfl) rfl (rd_bin rfl rfl rfl bo_sneq) ?_
      refine GL_rd (v := .bool _) (wn_none rfl) rfl (rd_pickF rfl rfl rfl) ?_
      refine GL_rd (v := .bool _) (wn_none rfl) rfl (rd_move rfl rfl) ?_
      refine GL_split (t := 47) (b := _) rfl ?_ ?_
      ·intro hb6; (try simp only [decide_eq_true_eq, decide_eq_false_iff_not, Bool.not_eq_true', Bool.not_eq_false', Bool.not_eq_eq_eq_not, Bool.not_true, Bool.not_false, Int.not_lt, Int.not_le] at hb6)
       have hno : ¬ a = b := fun e => hb6 (by rw [e])
       refine GL_pass (nw_off rfl rfl rfl rfl rfl) rfl ?_
       refine GL_pass (nw_off rfl rfl rfl rfl rfl) rfl ?_
       refine GL_pass (nw_off rfl rfl rfl rfl rfl) rfl ?_
       refine GL_pass (nw_off rfl rfl rfl rfl rfl) rfl ?_
       refine GL_pass (nw_off rfl rfl rfl rfl rfl) rfl ?_
       refine GL_pass (nw_off rfl rfl rfl rfl rfl) rfl ?_
       refine GL_pass (nw_off rfl rfl rfl rfl rfl) rfl ?_
       refine GL_rd (v := .bool _) (wn_none rfl) rfl (rd_pickT rfl rfl rfl) ?_
       refine GL_rd (v := .bool _) (wn_none rfl) rfl (rd_move rfl rfl) ?_
       refine GL_pass (nw_off rfl rfl rfl rfl rfl) rfl ?_
       refine GL_pass (nw_off rfl rfl rfl rfl rfl) rfl ?_
       refine GL_pass (nw_off rfl rfl rfl rfl rfl) rfl ?_
       refine GL_pass (nw_off rfl rfl rfl rfl rfl) rfl ?_
       refine GL_pass (nw_off rfl rfl rfl rfl rfl) rfl ?_
       refine GL_pass (nw_off rfl rfl rfl rfl rfl) rfl ?_
       refine GL_pass (nw_off rfl rfl rfl rfl rfl) rfl ?_
       refine GL_rd (v := .bool _) (wn_none rfl) rfl (rd_pickT rfl rfl rfl) ?_
       refine GL_nil ?_
       refine GW_true rfl ?_
       refine GW_seq ?_
       refine GW_region ?_
       refine GL_rd (v := .bool _) (wn_none rfl) rfl (rd_assign rfl rfl) ?_
       refine GL_nil ?_
       refine GW_ret ?_
       exact ⟨_, res1 Try.results68 (rv_tmp (v := .bool _) rfl rfl), false, rfl, ⟨fun h => (by cases h), fun h => absurd h hno⟩, hp.mods⟩
      ·intro hb6; (try simp only [decide_eq_true_eq, decide_eq_false_iff_not, Bool.not_eq_true', Bool.not_eq_false', Bool.not_eq_eq_eq_not, Bool.not_true, Bool.not_false, Int.not_lt, Int.not_le] at hb6)
       have q47 := hb6
       refine GL_rd (wn_on rfl rfl rfl rfl) rfl (rd_field rfl rfl fa83_5 _ rfl) ?_
       refine GL_rd (v := .slice _ _ _) (wn_on rfl rfl rfl rfl) rfl (rd_load rfl rfl Try.underlying40 rfl ((cell_of_cells (hp.get 1 rfl) _).trans (clip_holds _ _ _))) ?_
       refine GL_rd (wn_on rfl rfl rfl rfl) rfl (rd_len rfl rfl Try.underlying40) ?_
       refine GL_rd (wn_on rfl rfl rfl rfl) rfl (rd_field rfl rfl fa83_5 _ rfl) ?_
       refine GL_rd (v := .slice _ _ _) (wn_on rfl rfl rfl rfl) rfl (rd_load rfl rfl Try.underlying40 rfl ((cell_of_cells (hp.get 0 rfl) _).trans (clip_holds _ _ _))) ?_
       refine GL_rd (wn_on rfl rfl rfl rfl) rfl (rd_len rfl rfl Try.underlying40) ?_
       refine GL_rd (wn_on rfl rfl rfl rfl) rfl (rd_bin rfl rfl rfl bo_neq) ?_
       refine GL_rd (v := .bool _) (wn_none rfl) rfl (rd_pickF rfl rfl rfl) ?_
       refine GL_rd (v := .bool _) (wn_none rfl) rfl (rd_move rfl rfl) ?_
       refine GL_split (t := 56) (b := _) rfl ?_ ?_
       ·intro hb7; (try simp only [decide_eq_true_eq, decide_eq_false_iff_not, Bool.not_eq_true', Bool.not_eq_false', Bool.not_eq_eq_eq_not, Bool.not_true, Bool.not_false, Int.not_lt, Int.not_le] at hb7)
        have hno : ¬ a = b := fun e => by have h9 : a.holds.length = b.holds.length := (by rw [e]); omega
        refine GL_pass (nw_off rfl rfl rfl rfl rfl) rfl ?_
        refine GL_pass (nw_off rfl rfl rfl rfl rfl) rfl ?_
        refine GL_pass (nw_off rfl rfl rfl rfl rfl) rfl ?_
        refine GL_pass (nw_off rfl rfl rfl rfl rfl) rfl ?_
        refine GL_pass (nw_off rfl rfl rfl rfl rfl) rfl ?_
        refine GL_pass (nw_off rfl rfl rfl rfl rfl) rfl ?_
        refine GL_pass (nw_off rfl rfl rfl rfl rfl) rfl ?_
        refine GL_rd (v := .bool _) (wn_none rfl) rfl (rd_pickT rfl rfl rfl) ?_
        refine GL_nil ?_
        refine GW_true rfl ?_
        refine GW_seq ?_
        refine GW_region ?_
        refine GL_rd (v := .bool _) (wn_none rfl) rfl (rd_assign rfl rfl) ?_
        refine GL_nil ?_
        refine GW_ret ?_
        exact ⟨_, res1 Try.results68 (rv_tmp (v := .bool _) rfl rfl), false, rfl, ⟨fun h => (by cases h), fun h => absurd h hno⟩, hp.mods⟩
       ·intro hb7; (try simp only [decide_eq_true_eq, decide_eq_false_iff_not, Bool.not_eq_true', Bool.not_eq_false', Bool.not_eq_eq_eq_not, Bool.not_true, Bool.not_false, Int.not_lt, Int.not_le] at hb7)
        have q56 := hb7
        refine GL_rd (wn_on rfl rfl rfl rfl) rfl (rd_field rfl rfl fa83_7 _ rfl) ?_
        refine GL_rd (v := .slice _ _ _) (wn_on rfl rfl rfl rfl) rfl (rd_load rfl rfl Try.underlying32 rfl ((cell_of_cells (hp.get 1 rfl) _).trans (clip_texts _ _ _))) ?_
        refine GL_rd (wn_on rfl rfl rfl rfl) rfl (rd_len rfl rfl Try.underlying32) ?_
        refine GL_rd (wn_on rfl rfl rfl rfl) rfl (rd_field rfl rfl fa83_7 _ rfl) ?_
        refine GL_rd (v := .slice _ _ _) (wn_on rfl rfl rfl rfl) rfl (rd_load rfl rfl Try.underlying32 rfl ((cell_of_cells (hp.get 0 rfl) _).trans (clip_texts _ _ _))) ?_
        refine GL_rd (wn_on rfl rfl rfl rfl) rfl (rd_len rfl rfl Try.underlying32) ?_
        refine GL_rd (wn_on rfl rfl rfl rfl) rfl (rd_bin rfl rfl rfl bo_neq) ?_
        refine GL_rd (v := .bool _) (wn_none rfl) rfl (rd_pickF rfl rfl rfl) ?_
        refine GL_nil ?_
        refine GW_cond rfl (fun hb8 => ?_) (fun hb8 => ?_)
        ·(try simp only [decide_eq_true_eq, decide_eq_false_iff_not, Bool.not_eq_true', Bool.not_eq_false', Bool.not_eq_eq_eq_not, Bool.not_true, Bool.not_false, Int.not_lt, Int.not_le] at hb8)
         have hno : ¬ a = b := fun e => by have h9 : a.texts.length = b.texts.length := (by rw [e]); omega
         refine GW_seq ?_
         refine GW_region ?_
         refine GL_rd (v := .bool _) (wn_none rfl) rfl (rd_assign rfl rfl) ?_
         refine GL_nil ?_
         refine GW_ret ?_
         exact ⟨_, res1 Try.results68 (rv_tmp (v := .bool _) rfl rfl), false, rfl, ⟨fun h => (by cases h), fun h => absurd h hno⟩, hp.mods⟩
        ·(try simp only [decide_eq_true_eq, decide_eq_false_iff_not, Bool.not_eq_true', Bool.not_eq_false', Bool.not_eq_eq_eq_not, Bool.not_true, Bool.not_false, Int.not_lt, Int.not_le] at hb8)
         have q64 : a.texts.length = b.texts.length := by omega
         have q57' : a.holds.length = b.holds.length := by omega
         refine GW_skip ?_
         refine GW_seq ?_
         refine GW_seq ?_
         refine GW_region ?_
         refine GL_rd (v := .int _ _) (wn_none rfl) rfl (rd_assign rfl rfl) ?_
         refine GL_nil ?_
         refine GW_block ?_
         refine GW_loop ?_
         refine Lp_ind (α := Nat) (fun a_0 f_0 w' => match a_0 with | i => ∃ fz, f_0 = (upd (upd (upd fz 2 (.pointer (some ⟨g, 0, none⟩))) 3 (.pointer (some ⟨g2, 0, none⟩))) 5 (.int .i64 (i : Int))) ∧ Hp w0 [] w' [cells g2 83 (clipC b (.slice C1 b.holds.length d1) (.slice C2 b.texts.length d2)), cells g 83 (clipC a (.slice A1 a.holds.length c1) (.slice A2 a.texts.length c2))] ∧ (i ≤ a.holds.length) ∧ (∀ j, j < i → strAt a.holds j = strAt b.holds j)) (fun a_0 => match a_0 with | i => a.holds.length - i) ?_ 0 _ _ ?_
         ·rintro i f wz ⟨fz, rfl, hp, hi0, hall⟩ ihL0
          refine Lp_round ?_
          refine GW_seq ?_
          refine GW_seq ?_
          refine GW_region ?_
          refine GL_rd (v := .int _ _) (wn_none rfl) rfl (rd_move rfl rfl) ?_
          refine GL_rd (wn_none rfl) rfl (rd_field rfl rfl fa83_5 _ rfl) ?_
          refine GL_rd (v := .slice _ _ _) (wn_none rfl) rfl (rd_load rfl rfl Try.underlying40 rfl ((cell_of_cells (hp.get 1 rfl) _).trans (clip_holds _ _ _))) ?_
          refine GL_rd (wn_none rfl) rfl (rd_len rfl rfl Try.underlying40) ?_
          refine GL_rd (wn_none rfl) rfl (rd_bin rfl rfl rfl bo_lss) ?_
          refine GL_nil ?_
          refine GW_cond rfl (fun hb9 => ?_) (fun hb9 => ?_)
          ·(try simp only [decide_eq_true_eq, decide_eq_false_iff_not, Bool.not_eq_true', Bool.not_eq_false', Bool.not_eq_eq_eq_not, Bool.not_true, Bool.not_false, Int.not_lt, Int.not_le] at hb9)
           obtain ⟨gA, bA, rfl⟩ := hA1.addr (by rw [List.length_map]; omega)
           obtain ⟨gB, bB, rfl⟩ := hB1.addr (by rw [List.length_map]; omega)
           refine GW_skip ?_
           refine GW_seq ?_
           refine GW_block ?_
           refine GW_seq ?_
           refine GW_drawnK 11 (.one 0 true (.one 1 true (.one 2 true (.one 3 true (.one 4 true (.one 5 true (.one 6 true (.one 7 true (.one 8 true (.one 9 true (.one 10 true .nil))))))))))) mixed (by kernel_rfl) hp (fun _ h => h) fun w hp => ?_
           have hpS := hp
           refine GO_rdT rfl (wn_none rfl) rfl (fun w => (rd_field rfl rfl fa83_5 _ rfl)) ?_
           refine GO_rd (v := .slice _ _ _) rfl rfl (wn_none rfl) rfl hpS (fun w hp => (rd_load rfl rfl Try.underlying40 rfl ((cell_of_cells (hp.get 1 rfl) _).trans (clip_holds _ _ _)))) ?_
           refine GO_rdT (v := .int _ _) rfl (wn_none rfl) rfl (fun w => (rd_move rfl rfl)) ?_
           refine GO_rdT rfl (wn_none rfl) rfl (fun w => (rd_indexS (j := i) rfl rfl rfl Try.underlying40 ts9 rfl (by omega) _ rfl)) ?_
           refine GO_rd rfl rfl (wn_none rfl) rfl hpS (fun w hp => (rd_load rfl rfl Try.underlying9 rfl ((hA1.keep hp.mod).get _ _ (strAt_cell (i := i) (by omega))))) ?_
           refine GO_rdT rfl (wn_none rfl) rfl (fun w => (rd_field rfl rfl fa83_5 _ rfl)) ?_
           refine GO_rd (v := .slice _ _ _) rfl rfl (wn_none rfl) rfl hpS (fun w hp => (rd_load rfl rfl Try.underlying40 rfl ((cell_of_cells (hp.get 0 rfl) _).trans (clip_holds _ _ _)))) ?_
           refine GO_rdT (v := .int _ _) rfl (wn_none rfl) rfl (fun w => (rd_move rfl rfl)) ?_
           refine GO_rdT rfl (wn_none rfl) rfl (fun w => (rd_indexS (j := i) rfl rfl rfl Try.underlying40 ts9 rfl (by omega) _ rfl)) ?_
           refine GO_rd rfl rfl (wn_none rfl) rfl hpS (fun w hp => (rd_load rfl rfl Try.underlying9 rfl ((hB1.keep hp.mod).get _ _ (strAt_cell (i := i) (by omega))))) ?_
           refine GO_rd rfl rfl (wn_none rfl) rfl hpS (fun w hp => (rd_bin rfl rfl rfl bo_sneq)) ?_
           refine GO_nil ?_
           refine GW_cond rfl (fun hb10 => ?_) (fun hb10 => ?_)
           ·(try simp only [decide_eq_true_eq, decide_eq_false_iff_not, Bool.not_eq_true', Bool.not_eq_false', Bool.not_eq_eq_eq_not, Bool.not_true, Bool.not_false, Int.not_lt, Int.not_le] at hb10)
            have hno : ¬ a = b := fun e => hb10 (by rw [e])
            refine GW_seq ?_
            refine GW_region ?_
            refine GL_rd (v := .bool _) (wn_none rfl) rfl (rd_assign rfl rfl) ?_
            refine GL_nil ?_
            refine GW_ret ?_
            exact ⟨_, res1 Try.results68 (rv_tmp (v := .bool _) rfl rfl), false, rfl, ⟨fun h => (by cases h), fun h => absurd h hno⟩, hp.mods⟩
           ·(try simp only [decide_eq_true_eq, decide_eq_false_iff_not, Bool.not_eq_true', Bool.not_eq_false', Bool.not_eq_eq_eq_not, Bool.not_true, Bool.not_false, Int.not_lt, Int.not_le] at hb10)
            have heq := hb10
            refine GW_skip ?_
            refine GW_region ?_
            refine GL_rd (v := .int _ _) (wn_none rfl) rfl (rd_move rfl rfl) ?_
            refine GL_rd (wn_none rfl) rfl (rd_bin rfl rfl rfl (bo_add64 (by omega))) ?_
            refine GL_rd (v := .int _ _) (wn_none rfl) rfl (rd_assign rfl rfl) ?_
            refine GL_nil ?_
            exact ihL0 (i + 1) _ _ (by simp only []; omega) ⟨_, slots3 rfl rfl rfl, hp, by omega, fun j hj => by rcases Nat.lt_succ_iff_lt_or_eq.1 hj with h | h; exact hall j h; subst h; exact heq⟩
          ·(try simp only [decide_eq_true_eq, decide_eq_false_iff_not, Bool.not_eq_true', Bool.not_eq_false', Bool.not_eq_eq_eq_not, Bool.not_true, Bool.not_false, Int.not_lt, Int.not_le] at hb9)
           obtain rfl : i = a.holds.length := by omega
           have q7 : a.holds = b.holds := str_ext (by omega) hall
           refine GW_exit ?_
           refine GW_seq ?_
           refine GW_seq ?_
           refine GW_region ?_
           refine GL_rd (v := .int _ _) (wn_none rfl) rfl (rd_assign rfl rfl) ?_
           refine GL_nil ?_
           refine GW_block ?_
           refine GW_loop ?_
           refine Lp_ind (α := Nat) (fun a_0 f_0 w' => match a_0 with | i => ∃ fz, f_0 = (upd (upd (upd fz 2 (.pointer (some ⟨g, 0, none⟩))) 3 (.pointer (some ⟨g2, 0, none⟩))) 6 (.int .i64 (i : Int))) ∧ Hp w0 [] w' [cells g2 83 (clipC b (.slice C1 b.holds.length d1) (.slice C2 b.texts.length d2)), cells g 83 (clipC a (.slice A1 a.holds.length c1) (.slice A2 a.texts.length c2))] ∧ (i ≤ a.texts.length) ∧ (∀ j, j < i → intAt a.texts j = intAt b.texts j)) (fun a_0 => match a_0 with | i => a.texts.length - i) ?_ 0 _ _ ?_
           ·rintro i f wz ⟨fz, rfl, hp, hi0, hall⟩ ihL1
            refine Lp_round ?_
            refine GW_seq ?_
            refine GW_seq ?_
            refine GW_region ?_
            refine GL_rd (v := .int _ _) (wn_none rfl) rfl (rd_move rfl rfl) ?_
            refine GL_rd (wn_none rfl) rfl (rd_field rfl rfl fa83_7 _ rfl) ?_
            refine GL_rd (v := .slice _ _ _) (wn_none rfl) rfl (rd_load rfl rfl Try.underlying32 rfl ((cell_of_cells (hp.get 1 rfl) _).trans (clip_texts _ _ _))) ?_
            refine GL_rd (wn_none rfl) rfl (rd_len rfl rfl Try.underlying32) ?_
            refine GL_rd (wn_none rfl) rfl (rd_bin rfl rfl rfl bo_lss) ?_
            refine GL_nil ?_
            refine GW_cond rfl (fun hb11 => ?_) (fun hb11 => ?_)
            ·(try simp only [decide_eq_true_eq, decide_eq_false_iff_not, Bool.not_eq_true', Bool.not_eq_false', Bool.not_eq_eq_eq_not, Bool.not_true, Bool.not_false, Int.not_lt, Int.not_le] at hb11)
             obtain ⟨gA, bA, rfl⟩ := hA2.addr (by rw [List.length_map]; omega)
             obtain ⟨gB, bB, rfl⟩ := hB2.addr (by rw [List.length_map]; omega)
             refine GW_skip ?_
             refine GW_seq ?_
             refine GW_block ?_
             refine GW_seq ?_
             refine GW_drawnK 11 (.one 0 true (.one 1 true (.one 2 true (.one 3 true (.one 4 true (.one 5 true (.one 6 true (.one 7 true (.one 8 true (.one 9 true (.one 10 true .nil))))))))))) mixed (by kernel_rfl) hp (fun _ h => h) fun w hp => ?_
             have hpS2 := hp
             refine GO_rdT rfl (wn_none rfl) rfl (fun w => (rd_field rfl rfl fa83_7 _ rfl)) ?_
             refine GO_rd (v := .slice _ _ _) rfl rfl (wn_none rfl) rfl hpS2 (fun w hp => (rd_load rfl rfl Try.underlying32 rfl ((cell_of_cells (hp.get 1 rfl) _).trans (clip_texts _ _ _)))) ?_
             refine GO_rdT (v := .int _ _) rfl (wn_none rfl) rfl (fun w => (rd_move rfl rfl)) ?_
             refine GO_rdT rfl (wn_none rfl) rfl (fun w => (rd_indexS (j := i) rfl rfl rfl Try.underlying32 ts3 rfl (by omega) _ rfl)) ?_
             refine GO_rd rfl rfl (wn_none rfl) rfl hpS2 (fun w hp => (rd_load rfl rfl Try.underlying3 rfl ((hA2.keep hp.mod).get _ _ (intAt_cell (i := i) (by omega))))) ?_
             refine GO_rdT rfl (wn_none rfl) rfl (fun w => (rd_field rfl rfl fa83_7 _ rfl)) ?_
             refine GO_rd (v := .slice _ _ _) rfl rfl (wn_none rfl) rfl hpS2 (fun w hp => (rd_load rfl rfl Try.underlying32 rfl ((cell_of_cells (hp.get 0 rfl) _).trans (clip_texts _ _ _)))) ?_
             refine GO_rdT (v := .int _ _) rfl (wn_none rfl) rfl (fun w => (rd_move rfl rfl)) ?_
             refine GO_rdT rfl (wn_none rfl) rfl (fun w => (rd_indexS (j := i) rfl rfl rfl Try.underlying32 ts3 rfl (by omega) _ rfl)) ?_
             refine GO_rd rfl rfl (wn_none rfl) rfl hpS2 (fun w hp => (rd_load rfl rfl Try.underlying3 rfl ((hB2.keep hp.mod).get _ _ (intAt_cell (i := i) (by omega))))) ?_
             refine GO_rd rfl rfl (wn_none rfl) rfl hpS2 (fun w hp => (rd_bin rfl rfl rfl bo_neq)) ?_
             refine GO_nil ?_
             refine GW_cond rfl (fun hb12 => ?_) (fun hb12 => ?_)
             ·(try simp only [decide_eq_true_eq, decide_eq_false_iff_not, Bool.not_eq_true', Bool.not_eq_false', Bool.not_eq_eq_eq_not, Bool.not_true, Bool.not_false, Int.not_lt, Int.not_le] at hb12)
              have hno : ¬ a = b := fun e => hb12 (by rw [e])
              refine GW_seq ?_
              refine GW_region ?_
              refine GL_rd (v := .bool _) (wn_none rfl) rfl (rd_assign rfl rfl) ?_
              refine GL_nil ?_
              refine GW_ret ?_
              exact ⟨_, res1 Try.results68 (rv_tmp (v := .bool _) rfl rfl), false, rfl, ⟨fun h => (by cases h), fun h => absurd h hno⟩, hp.mods⟩
             ·(try simp only [decide_eq_true_eq, decide_eq_false_iff_not, Bool.not_eq_true', Bool.not_eq_false', Bool.not_eq_eq_eq_not, Bool.not_true, Bool.not_false, Int.not_lt, Int.not_le] at hb12)
              have heq := hb12
              refine GW_skip ?_
              refine GW_region ?_
              refine GL_rd (v := .int _ _) (wn_none rfl) rfl (rd_move rfl rfl) ?_
              refine GL_rd (wn_none rfl) rfl (rd_bin rfl rfl rfl (bo_add64 (by omega))) ?_
              refine GL_rd (v := .int _ _) (wn_none rfl) rfl (rd_assign rfl rfl) ?_
              refine GL_nil ?_
              exact ihL1 (i + 1) _ _ (by simp only []; omega) ⟨_, slots3 rfl rfl rfl, hp, by omega, fun j hj => by rcases Nat.lt_succ_iff_lt_or_eq.1 hj with h | h; exact hall j h; subst h; exact heq⟩
            ·(try simp only [decide_eq_true_eq, decide_eq_false_iff_not, Bool.not_eq_true', Bool.not_eq_false', Bool.not_eq_eq_eq_not, Bool.not_true, Bool.not_false, Int.not_lt, Int.not_le] at hb11)
             obtain rfl : i = a.texts.length := by omega
             have q8 : a.texts = b.texts := int_ext (by omega) hall
             refine GW_exit ?_
             refine GW_seq ?_
             refine GW_region ?_
             refine GL_rd (v := .bool _) (wn_none rfl) rfl (rd_assign rfl rfl) ?_
             refine GL_nil ?_
             refine GW_ret ?_
             exact ⟨_, res1 Try.results68 (rv_tmp (v := .bool _) rfl rfl), true, rfl, ⟨fun _ => clp_ext q12 q19 q26 (by simpa using q33) q40 q47 q7 q8, fun _ => rfl⟩, hp.mods⟩
           ·have hp := (((hp.front 1 rfl).front 1 rfl).take 2)
            refine ⟨_, slots3 rfl rfl rfl, hp, Nat.zero_le _, fun j hj => absurd hj (by omega)⟩
         ·have hp := (((hp.front 1 rfl).front 1 rfl).take 2)
          refine ⟨_, slots3 rfl rfl rfl, hp, Nat.zero_le _, fun j hj => absurd hj (by omega)⟩
end Go.Proofs.Ytblpmjbddpadcaa
