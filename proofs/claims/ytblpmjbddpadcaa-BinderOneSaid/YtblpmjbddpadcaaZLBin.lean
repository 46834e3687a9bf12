/- Walks of functions of the program. -/
import Derived.Test.YtblpmjbddpadcaaZFBiS
import Derived.Test.YtblpmjbddpadcaaZFBiM
import Derived.Test.YtblpmjbddpadcaaZFBiT
import Derived.Test.YtblpmjbddpadcaaZBinW
set_option linter.unusedVariables false
set_option linter.unusedSimpArgs false
namespace Go.Proofs.Ytblpmjbddpadcaa
open Go.Mo Go.RowKit
theorem law_bLight (c : Clp) (hv tv : Value) (mh mt : Nat) (w0 : World) (hH : Sl w0 hv 1 mh (c.holds.map Value.string)) (hT : Sl w0 tv 1 mt (c.texts.map (Value.int .i64))) : Does Try.prog 59 #[.agg ⟨clipC c hv tv⟩] w0 fun v w' => ∃ r : Int, v = .int .i64 r ∧ ((r = 0 ∧ LgtC c) ∨ r = 1) ∧ Hp w0 [] w' [] := by
 obtain ⟨A, ch, rfl⟩ := sl_shape hH
 obtain ⟨B, ct, rfl⟩ := sl_shape hT
 obtain rfl : mh = c.holds.length := by have := hH.len; rw [List.length_map] at this; omega
 obtain rfl : mt = c.texts.length := by have := hT.len; rw [List.length_map] at this; omega
 have hle1 := hH.le
 refine does_of (l := [.agg ⟨(clipC c (.slice A c.holds.length ch) (.slice B c.texts.length ct))⟩]) Try.func59 (by kernel_rfl) rfl Try.ntmps59 rfl rfl ?_
 have hp := Hp.refl w0 []
 refine GW_seq ?_
 refine GW_region ?_
 refine GL_box (wn_none rfl) rfl rfl rfl rfl hp ?_
 intro g w hp
 refine GL_rd (v := .int _ _) (wn_none rfl) rfl (rd_assign rfl rfl) ?_
 refine GL_nil ?_
 refine GW_seq ?_
 refine GW_seq ?_
 refine GW_region ?_
 refine GL_rd (wn_none rfl) rfl (rd_field rfl rfl fa83_5 _ rfl) ?_
 refine GL_rd (v := .slice _ _ _) (wn_none rfl) rfl (rd_load rfl rfl Try.underlying40 rfl ((cell_of_cells (hp.get 0 rfl) _).trans (clip_holds _ _ _))) ?_
 refine GL_rd (wn_none rfl) rfl (rd_len rfl rfl Try.underlying40) ?_
 refine GL_rd (wn_none rfl) rfl (rd_bin rfl rfl rfl bo_gtr) ?_
 refine GL_rd (v := .bool _) (wn_none rfl) rfl (rd_move rfl rfl) ?_
 refine GL_split (t := 8) (b := _) rfl ?_ ?_
 ·intro hb; (try simp only [decide_eq_true_eq, decide_eq_false_iff_not, Bool.not_eq_true', Bool.not_eq_false', Bool.not_eq_eq_eq_not, Bool.not_true, Bool.not_false, Int.not_lt, Int.not_le] at hb)
  refine GL_pass (nw_off rfl rfl rfl rfl rfl) rfl ?_
  refine GL_pass (nw_off rfl rfl rfl rfl rfl) rfl ?_
  refine GL_pass (nw_off rfl rfl rfl rfl rfl) rfl ?_
  refine GL_pass (nw_off rfl rfl rfl rfl rfl) rfl ?_
  refine GL_rd (v := .bool _) (wn_none rfl) rfl (rd_pickT rfl rfl rfl) ?_
  refine GL_rd (v := .bool _) (wn_none rfl) rfl (rd_move rfl rfl) ?_
  refine GL_pass (nw_off rfl rfl rfl rfl rfl) rfl ?_
  refine GL_pass (nw_off rfl rfl rfl rfl rfl) rfl ?_
  refine GL_pass (nw_off rfl rfl rfl rfl rfl) rfl ?_
  refine GL_pass (nw_off rfl rfl rfl rfl rfl) rfl ?_
  refine GL_rd (v := .bool _) (wn_none rfl) rfl (rd_pickT rfl rfl rfl) ?_
  refine GL_nil ?_
  refine GW_true rfl ?_
  refine GW_seq ?_
  refine GW_region ?_
  refine GL_rd (v := .int _ _) (wn_none rfl) rfl (rd_assign rfl rfl) ?_
  refine GL_nil ?_
  refine GW_ret ?_
  exact ⟨_, res1 Try.results59 (rv_tmp (v := .int _ _) rfl rfl), _, rfl, .inr rfl, hp.mods⟩
 ·intro hb; (try simp only [decide_eq_true_eq, decide_eq_false_iff_not, Bool.not_eq_true', Bool.not_eq_false', Bool.not_eq_eq_eq_not, Bool.not_true, Bool.not_false, Int.not_lt, Int.not_le] at hb)
  have q1 := hb
  refine GL_rd (wn_on rfl rfl rfl rfl) rfl (rd_field rfl rfl fa83_7 _ rfl) ?_
  refine GL_rd (v := .slice _ _ _) (wn_on rfl rfl rfl rfl) rfl (rd_load rfl rfl Try.underlying32 rfl ((cell_of_cells (hp.get 0 rfl) _).trans (clip_texts _ _ _))) ?_
  refine GL_rd (wn_on rfl rfl rfl rfl) rfl (rd_len rfl rfl Try.underlying32) ?_
  refine GL_rd (wn_on rfl rfl rfl rfl) rfl (rd_bin rfl rfl rfl bo_gtr) ?_
  refine GL_rd (v := .bool _) (wn_none rfl) rfl (rd_pickF rfl rfl rfl) ?_
  refine GL_rd (v := .bool _) (wn_none rfl) rfl (rd_move rfl rfl) ?_
  refine GL_split (t := 14) (b := _) rfl ?_ ?_
  ·intro hb2; (try simp only [decide_eq_true_eq, decide_eq_false_iff_not, Bool.not_eq_true', Bool.not_eq_false', Bool.not_eq_eq_eq_not, Bool.not_true, Bool.not_false, Int.not_lt, Int.not_le] at hb2)
   refine GL_pass (nw_off rfl rfl rfl rfl rfl) rfl ?_
   refine GL_pass (nw_off rfl rfl rfl rfl rfl) rfl ?_
   refine GL_pass (nw_off rfl rfl rfl rfl rfl) rfl ?_
   refine GL_pass (nw_off rfl rfl rfl rfl rfl) rfl ?_
   refine GL_rd (v := .bool _) (wn_none rfl) rfl (rd_pickT rfl rfl rfl) ?_
   refine GL_nil ?_
   refine GW_true rfl ?_
   refine GW_seq ?_
   refine GW_region ?_
   refine GL_rd (v := .int _ _) (wn_none rfl) rfl (rd_assign rfl rfl) ?_
   refine GL_nil ?_
   refine GW_ret ?_
   exact ⟨_, res1 Try.results59 (rv_tmp (v := .int _ _) rfl rfl), _, rfl, .inr rfl, hp.mods⟩
  ·intro hb2; (try simp only [decide_eq_true_eq, decide_eq_false_iff_not, Bool.not_eq_true', Bool.not_eq_false', Bool.not_eq_eq_eq_not, Bool.not_true, Bool.not_false, Int.not_lt, Int.not_le] at hb2)
   have q2 := hb2
   refine GL_rd (wn_on rfl rfl rfl rfl) rfl (rd_field rfl rfl fa83_6 _ rfl) ?_
   refine GL_rd (wn_on rfl rfl rfl rfl) rfl (rd_load rfl rfl Try.underlying9 rfl ((cell_of_cells (hp.get 0 rfl) _).trans (clip_note _ _ _))) ?_
   refine GL_rd (wn_on rfl rfl rfl rfl) rfl (rd_lenS rfl rfl Try.underlying9) ?_
   refine GL_rd (wn_on rfl rfl rfl rfl) rfl (rd_bin rfl rfl rfl bo_gtr) ?_
   refine GL_rd (v := .bool _) (wn_none rfl) rfl (rd_pickF rfl rfl rfl) ?_
   refine GL_nil ?_
   refine GW_cond rfl (fun hb3 => ?_) (fun hb3 => ?_)
   ·(try simp only [decide_eq_true_eq, decide_eq_false_iff_not, Bool.not_eq_true', Bool.not_eq_false', Bool.not_eq_eq_eq_not, Bool.not_true, Bool.not_false, Int.not_lt, Int.not_le] at hb3)
    refine GW_seq ?_
    refine GW_region ?_
    refine GL_rd (v := .int _ _) (wn_none rfl) rfl (rd_assign rfl rfl) ?_
    refine GL_nil ?_
    refine GW_ret ?_
    exact ⟨_, res1 Try.results59 (rv_tmp (v := .int _ _) rfl rfl), _, rfl, .inr rfl, hp.mods⟩
   ·(try simp only [decide_eq_true_eq, decide_eq_false_iff_not, Bool.not_eq_true', Bool.not_eq_false', Bool.not_eq_eq_eq_not, Bool.not_true, Bool.not_false, Int.not_lt, Int.not_le] at hb3)
    have q3 := hb3
    refine GW_skip ?_
    refine GW_seq ?_
    refine GW_seq ?_
    refine GW_region ?_
    refine GL_rd (v := .int _ _) (wn_none rfl) rfl (rd_assign rfl rfl) ?_
    refine GL_nil ?_
    refine GW_block ?_
    refine GW_loop ?_
    refine Lp_ind (α := Nat) (fun a_0 f_0 w' => match a_0 with | i => ∃ fz, f_0 = (upd (upd fz 1 (.pointer (some ⟨g, 0, none⟩))) 3 (.int .i64 (i : Int))) ∧ Hp w0 [] w' [cells g 83 (clipC c (.slice A c.holds.length ch) (.slice B c.texts.length ct))] ∧ (i ≤ c.holds.length) ∧ (∀ j, j < i → (strAt c.holds j).size ≤ 100)) (fun a_0 => match a_0 with | i => c.holds.length - i) ?_ 0 _ _ ?_
    ·rintro i f wz ⟨fz, rfl, hp, hi0, hall⟩ ihL0
     refine Lp_round ?_
     refine GW_seq ?_
     refine GW_seq ?_
     refine GW_region ?_
     refine GL_rd (v := .int _ _) (wn_none rfl) rfl (rd_move rfl rfl) ?_
     refine GL_rd (wn_none rfl) rfl (rd_field rfl rfl fa83_5 _ rfl) ?_
     refine GL_rd (v := .slice _ _ _) (wn_none rfl) rfl (rd_load rfl rfl Try.underlying40 rfl ((cell_of_cells (hp.get 0 rfl) _).trans (clip_holds _ _ _))) ?_
     refine GL_rd (wn_none rfl) rfl (rd_len rfl rfl Try.underlying40) ?_
     refine GL_rd (wn_none rfl) rfl (rd_bin rfl rfl rfl bo_lss) ?_
     refine GL_nil ?_
     refine GW_cond rfl (fun hb4 => ?_) (fun hb4 => ?_)
     ·(try simp only [decide_eq_true_eq, decide_eq_false_iff_not, Bool.not_eq_true', Bool.not_eq_false', Bool.not_eq_eq_eq_not, Bool.not_true, Bool.not_false, Int.not_lt, Int.not_le] at hb4)
      obtain ⟨gA, bA, rfl⟩ := hH.addr (by rw [List.length_map]; omega)
      refine GW_skip ?_
      refine GW_seq ?_
      refine GW_block ?_
      refine GW_seq ?_
      refine GW_region ?_
      refine GL_rd (wn_none rfl) rfl (rd_field rfl rfl fa83_5 _ rfl) ?_
      refine GL_rd (v := .slice _ _ _) (wn_none rfl) rfl (rd_load rfl rfl Try.underlying40 rfl ((cell_of_cells (hp.get 0 rfl) _).trans (clip_holds _ _ _))) ?_
      refine GL_rd (v := .int _ _) (wn_none rfl) rfl (rd_move rfl rfl) ?_
      refine GL_rd (wn_none rfl) rfl (rd_indexS (j := i) rfl rfl rfl Try.underlying40 ts9 rfl (by omega) _ rfl) ?_
      refine GL_rd (wn_none rfl) rfl (rd_load rfl rfl Try.underlying9 rfl ((hH.keep hp.mod).get _ _ (strAt_cell (i := i) (by omega)))) ?_
      refine GL_rd (wn_none rfl) rfl (rd_lenS rfl rfl Try.underlying9) ?_
      refine GL_rd (wn_none rfl) rfl (rd_bin rfl rfl rfl bo_gtr) ?_
      refine GL_nil ?_
      refine GW_cond rfl (fun hb5 => ?_) (fun hb5 => ?_)
      ·(try simp only [decide_eq_true_eq, decide_eq_false_iff_not, Bool.not_eq_true', Bool.not_eq_false', Bool.not_eq_eq_eq_not, Bool.not_true, Bool.not_false, Int.not_lt, Int.not_le] at hb5)
       refine GW_seq ?_
       refine GW_region ?_
       refine GL_rd (v := .int _ _) (wn_none rfl) rfl (rd_assign rfl rfl) ?_
       refine GL_nil ?_
       refine GW_ret ?_
       exact ⟨_, res1 Try.results59 (rv_tmp (v := .int _ _) rfl rfl), _, rfl, .inr rfl, hp.mods⟩
      ·(try simp only [decide_eq_true_eq, decide_eq_false_iff_not, Bool.not_eq_true', Bool.not_eq_false', Bool.not_eq_eq_eq_not, Bool.not_true, Bool.not_false, Int.not_lt, Int.not_le] at hb5)
       have q4 := hb5
       refine GW_skip ?_
       refine GW_region ?_
       refine GL_rd (v := .int _ _) (wn_none rfl) rfl (rd_move rfl rfl) ?_
       refine GL_rd (wn_none rfl) rfl (rd_bin rfl rfl rfl (bo_add64 (by omega))) ?_
       refine GL_rd (v := .int _ _) (wn_none rfl) rfl (rd_assign rfl rfl) ?_
       refine GL_nil ?_
       exact ihL0 (i + 1) _ _ (by simp only []; omega) ⟨_, slots2 rfl rfl, hp, by omega, fun j hj => by rcases Nat.lt_succ_iff_lt_or_eq.1 hj with h | h; exact hall j h; subst h; omega⟩
     ·(try simp only [decide_eq_true_eq, decide_eq_false_iff_not, Bool.not_eq_true', Bool.not_eq_false', Bool.not_eq_eq_eq_not, Bool.not_true, Bool.not_false, Int.not_lt, Int.not_le] at hb4)
      obtain rfl : i = c.holds.length := by omega
      refine GW_exit ?_
      refine GW_seq ?_
      refine GW_region ?_
      refine GL_rd (v := .int _ _) (wn_none rfl) rfl (rd_assign rfl rfl) ?_
      refine GL_nil ?_
      refine GW_ret ?_
      exact ⟨_, res1 Try.results59 (rv_tmp (v := .int _ _) rfl rfl), _, rfl, .inl ⟨rfl, by omega, by omega, by omega, fun s hs => by obtain ⟨j, hj⟩ := List.getElem?_of_mem hs; have hl := (List.getElem?_eq_some_iff.1 hj).1; rw [strAt_some hl] at hj; rw [← Option.some.inj hj]; exact hall j hl⟩, hp.mods⟩
    ·refine ⟨_, slots2 rfl rfl, hp, Nat.zero_le _, fun j hj => absurd hj (by omega)⟩
theorem wk_small : ∀ x ∈ wC.holds, x.size ≤ 4294967296 := by decide
theorem wk_Put (hv tv : Value) (w0 : World) (hH : Sl w0 hv 1 wC.holds.length (wC.holds.map Value.string)) (hT : Sl w0 tv 1 wC.texts.length (wC.texts.map (Value.int .i64))) : Does Try.prog 61 #[.agg ⟨clipC wC hv tv⟩] w0 fun v w' => v = .tuple #[.agg ⟨bys wS⟩, .int .i64 0] ∧ Hp w0 [] w' [] := by
  have h := bi_Put wC hv tv _ _ w0 hH hT wk_small (by decide)
  rw [wS_eq, wC_8] at h
  exact h
theorem wk_Get1 (w0 : World) : Does Try.prog 67 #[.agg ⟨bys wS⟩, .int .i64 2, .int .i64 4] w0 fun v w' => ∃ hv tv, v = .tuple #[.agg ⟨clipC wC hv tv⟩, .bool true, .int .i64 0] ∧ Hp w0 [] w' [.row 3 1 tv wC.texts.length (wC.texts.map (Value.int .i64)), .row 9 1 hv wC.holds.length (wC.holds.map Value.string)] := by
  have h := bi_Get wS 2 4 w0 wS_len
  rw [wG1.1, wG1.2.1, wG1.2.2] at h
  exact h
theorem wk_Get2 (w0 : World) : Does Try.prog 67 #[.agg ⟨bys wS⟩, .int .i64 1, .int .i64 4] w0 fun v w' => ∃ hv tv, v = .tuple #[.agg ⟨clipC clpZ hv tv⟩, .bool false, .int .i64 5] ∧ Hp w0 [] w' [.row 3 1 tv clpZ.texts.length (clpZ.texts.map (Value.int .i64)), .row 9 1 hv clpZ.holds.length (clpZ.holds.map Value.string)] := by
  have h := bi_Get wS 1 4 w0 wS_len
  rw [wG2.1, wG2.2.1, wG2.2.2] at h
  exact h
theorem wk_GetZ (w0 : World) : Does Try.prog 67 #[.agg ⟨bys (List.replicate 256 0)⟩, .int .i64 2, .int .i64 4] w0 fun v w' => ∃ hv tv, v = .tuple #[.agg ⟨clipC clpZ hv tv⟩, .bool false, .int .i64 0] ∧ Hp w0 [] w' [.row 3 1 tv clpZ.texts.length (clpZ.texts.map (Value.int .i64)), .row 9 1 hv clpZ.holds.length (clpZ.holds.map Value.string)] := by
  have h := bi_Get (List.replicate 256 0) 2 4 w0 List.length_replicate
  rw [wGZ.1, wGZ.2.1, wGZ.2.2] at h
  exact h
theorem wk_Same (a : Clp) (ha ta hb tb : Value) (w0 : World) (hA1 : Sl w0 ha 1 a.holds.length (a.holds.map Value.string)) (hA2 : Sl w0 ta 1 a.texts.length (a.texts.map (Value.int .i64))) (hB1 : Sl w0 hb 1 a.holds.length (a.holds.map Value.string)) (hB2 : Sl w0 tb 1 a.texts.length (a.texts.map (Value.int .i64))) : Does Try.prog 68 #[.agg ⟨clipC a ha ta⟩, .agg ⟨clipC a hb tb⟩] w0 fun v w' => v = .bool true ∧ Hp w0 [] w' [] :=
  (ref_kSame a a ha ta hb tb w0 hA1 hA2 hB1 hB2).mono fun v w' ⟨r, h1, h2, h3⟩ => ⟨by rw [h1, h2.2 rfl], h3⟩
theorem wk_Most (lv : Value) (m : Nat) (l : List CV) (b : Int) (w0 : World) (hI : Sl w0 lv 39 m (l.flatMap cvC)) (hL : cvSl w0 l) (hn : ∀ x ∈ l, x.1.texts.length ≤ 65535) (hm : m ≤ 65535) (hb : mostB l b) : Does Try.prog 73 #[lv] w0 fun v w' => v = .int .i64 b ∧ Hp w0 [] w' [] :=
  (bi_Most lv m l w0 hI hL hn hm).mono fun v w' ⟨b', h1, h2, h3⟩ => ⟨by rw [h1, mostB.same h2 hb], h3⟩
theorem wk_Adr1 (w0 : World) : Does Try.prog 65 #[.string ⟨#[97]⟩, .int .i64 1, .string ⟨#[]⟩, .slice none 0 0] w0 fun v w' => v = .agg ⟨bys wA1⟩ ∧ Hp w0 [] w' [] := by
  have h := bi_Address ⟨#[97]⟩ ⟨#[]⟩ 1 (.slice none 0 0) 0 [] w0 (Sl.nil _ 32) (by decide) (by decide)
  rw [wA1_eq] at h
  exact h
theorem wk_Adr2 (w0 : World) : Does Try.prog 65 #[.string ⟨#[97]⟩, .int .i64 2, .string ⟨#[]⟩, .slice none 0 0] w0 fun v w' => v = .agg ⟨bys wA2⟩ ∧ Hp w0 [] w' [] := by
  have h := bi_Address ⟨#[97]⟩ ⟨#[]⟩ 2 (.slice none 0 0) 0 [] w0 (Sl.nil _ 32) (by decide) (by decide)
  rw [wA2_eq] at h
  exact h
theorem wk_Check (hv tv : Value) (w0 : World) (hH : Sl w0 hv 1 wC.holds.length (wC.holds.map Value.string)) (hT : Sl w0 tv 1 wC.texts.length (wC.texts.map (Value.int .i64))) : Does Try.prog 63 #[.agg ⟨clipC wC hv tv⟩, .int .i64 2, .int .i64 3] w0 fun v w' => v = .int .i64 2 ∧ Hp w0 [] w' [] := by
  have h := bi_Check wC hv tv _ _ 2 3 w0 hH hT wk_small
  rw [wC_3] at h
  exact h
theorem bk_Get (c : Clp) (hc : clpC c 8 40 = 0) (w0 : World) : Does Try.prog 67 #[.agg ⟨bys (secC c)⟩, .int .i64 8, .int .i64 40] w0 fun v w' => ∃ hv tv, v = .tuple #[.agg ⟨clipC c hv tv⟩, .bool true, .int .i64 0] ∧ Hp w0 [] w' [.row 3 1 tv c.texts.length (c.texts.map (Value.int .i64)), .row 9 1 hv c.holds.length (c.holds.map Value.string)] := by
  have h := bi_Get (secC c) 8 40 w0 (secC_length c)
  rw [(sec_back hc hc).1, (sec_back hc hc).2, gE_yes (sec_back hc hc).1] at h
  exact h
set_option maxRecDepth 100000 in
set_option maxHeartbeats 2000000 in
theorem law_bworks (w0 : World) : Does Try.prog 60 #[] w0 fun v w' => v = .bool true ∧ Hp w0 [] w' [] := by
 refine does_of (l := []) Try.func60 (by kernel_rfl) rfl Try.ntmps60 rfl rfl ?_
 have hp := Hp.refl w0 []
 refine GW_seq ?_
 refine GW_region ?_
 refine GL_rd (v := .bool _) (wn_none rfl) rfl (rd_assign rfl rfl) ?_
 refine GL_nil ?_
 refine GW_seq ?_
 refine GW_region ?_
 refine GL_rd (wn_none rfl) rfl (rd_buildA (L := (bys ad7.1)) rfl tz57 Try.underlying57 ts5 (by kernel_rfl)) ?_
 refine GL_lit (L := [.string ⟨#[99, 111, 117, 114, 116]⟩]) (wn_none rfl) rfl rfl Try.underlying40 ts9 tz9 rfl (by kernel_rfl) rfl rfl hp ?_
 intro g w hp
 refine GL_lit (L := [.int .i64 3, .int .i64 0]) (wn_none rfl) rfl rfl Try.underlying32 ts3 tz3 rfl (by kernel_rfl) rfl rfl hp ?_
 intro g2 w hp
 refine GL_rd (wn_none rfl) rfl (rd_buildF (L := (clipC wC (.slice (some ⟨g, 0, none⟩) 1 1) (.slice (some ⟨g2, 0, none⟩) 2 2))) rfl tz83 pl83 rfl (wC_fill _ _ rfl rfl)) ?_
 refine GL_alloc (wn_none rfl) rfl rfl tz83 rfl hp ?_
 intro g3 w hp
 refine GL_store (i := 0) (wn_none rfl) rfl rfl rfl rfl ts83 rfl (clipC_len _ _ _) (clipC_one _ _ _ _ _ _ _) hp rfl (by decide) (splice_all _ _ (by rw [clipC_len]; rfl)) ?_
 intro w hp
 refine GL_nil ?_
 refine GW_seq ?_
 refine GW_region ?_
 refine GL_rd (wn_none rfl) rfl (rd_loadC rfl rfl Try.underlying83 rfl ts83 (hp.get 0 rfl) (clipC_len _ _ _)) ?_
 refine GL_call (wn_none rfl) rfl rfl (wk_Put _ _ _ (Sl.row (hp.get 2 rfl)) (Sl.row (hp.get 1 rfl))) rfl ?_
 rintro _ w ⟨rfl, hk⟩
 have hp := hp.comp hk
 refine GL_rd (v := .tuple _) (wn_none rfl) rfl (rd_move rfl rfl) ?_
 refine GL_rd (v := .agg ⟨_⟩) (wn_none rfl) rfl (rd_extract rfl rfl rfl) ?_
 refine GL_rd (v := .int _ _) (wn_none rfl) rfl (rd_extract rfl rfl rfl) ?_
 refine GL_alloc (wn_none rfl) rfl rfl tz44 rfl hp ?_
 intro g4 w hp
 refine GL_store (i := 0) (wn_none rfl) rfl rfl rfl rfl ts44 rfl (by rw [bys_length, wS_len]) (bys_one _) hp rfl (by rw [List.length_replicate]; decide) (splice_all _ _ (by rw [bys_length, wS_len, List.length_replicate])) ?_
 intro w hp
 refine GL_rd (v := .int _ _) (wn_none rfl) rfl (rd_assign rfl rfl) ?_
 refine GL_nil ?_
 refine GW_seq ?_
 refine GW_region ?_
 refine GL_rd (wn_none rfl) rfl (rd_loadC rfl rfl Try.underlying44 rfl ts44 (hp.get 0 rfl) (by rw [bys_length, wS_len])) ?_
 refine GL_call (wn_none rfl) rfl rfl (wk_Get1 _) rfl ?_
 rintro _ w ⟨hv2, tv2, rfl, hk⟩
 have hp := hp.comp hk
 obtain ⟨Ah2, ch2, rfl⟩ := row_shape (hp.get 1 rfl)
 obtain ⟨At2, ct2, rfl⟩ := row_shape (hp.get 0 rfl)
 refine GL_rd (v := .tuple _) (wn_none rfl) rfl (rd_move rfl rfl) ?_
 refine GL_rd (v := .agg ⟨_⟩) (wn_none rfl) rfl (rd_extract rfl rfl rfl) ?_
 refine GL_rd (v := .bool _) (wn_none rfl) rfl (rd_extract rfl rfl rfl) ?_
 refine GL_rd (v := .int _ _) (wn_none rfl) rfl (rd_extract rfl rfl rfl) ?_
 refine GL_alloc (wn_none rfl) rfl rfl tz83 rfl hp ?_
 intro g5 w hp
 refine GL_store (i := 0) (wn_none rfl) rfl rfl rfl rfl ts83 rfl (clipC_len _ _ _) (clipC_one _ _ _ _ _ _ _) hp rfl (by decide) (splice_all _ _ (by rw [clipC_len]; rfl)) ?_
 intro w hp
 refine GL_rd (v := .bool _) (wn_none rfl) rfl (rd_assign rfl rfl) ?_
 refine GL_rd (v := .int _ _) (wn_none rfl) rfl (rd_assign rfl rfl) ?_
 refine GL_nil ?_
 refine GW_seq ?_
 refine GW_region ?_
 refine GL_rd (wn_none rfl) rfl (rd_buildA (L := bys (List.replicate 256 0)) rfl tz44 Try.underlying44 ts5 (by kernel_rfl)) ?_
 refine GL_call (wn_none rfl) rfl rfl (wk_GetZ _) rfl ?_
 rintro _ w ⟨hv3, tv3, rfl, hk⟩
 have hp := hp.comp hk
 obtain ⟨Ah3, ch3, rfl⟩ := row_shape (hp.get 1 rfl)
 obtain ⟨At3, ct3, rfl⟩ := row_shape (hp.get 0 rfl)
 refine GL_rd (v := .tuple _) (wn_none rfl) rfl (rd_move rfl rfl) ?_
 refine GL_rd (v := .agg ⟨_⟩) (wn_none rfl) rfl (rd_extract rfl rfl rfl) ?_
 refine GL_rd (v := .bool _) (wn_none rfl) rfl (rd_extract rfl rfl rfl) ?_
 refine GL_rd (v := .int _ _) (wn_none rfl) rfl (rd_extract rfl rfl rfl) ?_
 refine GL_alloc (wn_none rfl) rfl rfl tz83 rfl hp ?_
 intro g6 w hp
 refine GL_store (i := 0) (wn_none rfl) rfl rfl rfl rfl ts83 rfl (clipC_len _ _ _) (clipC_one _ _ _ _ _ _ _) hp rfl (by decide) (splice_all _ _ (by rw [clipC_len]; rfl)) ?_
 intro w hp
 refine GL_rd (v := .bool _) (wn_none rfl) rfl (rd_assign rfl rfl) ?_
 refine GL_rd (v := .int _ _) (wn_none rfl) rfl (rd_assign rfl rfl) ?_
 refine GL_nil ?_
 refine GW_seq ?_
 refine GW_region ?_
 refine GL_rd (wn_none rfl) rfl (rd_loadC rfl rfl Try.underlying44 rfl ts44 (hp.get 6 rfl) (by rw [bys_length, wS_len])) ?_
 refine GL_call (wn_none rfl) rfl rfl (wk_Get2 _) rfl ?_
 rintro _ w ⟨hv4, tv4, rfl, hk⟩
 have hp := hp.comp hk
 obtain ⟨Ah4, ch4, rfl⟩ := row_shape (hp.get 1 rfl)
 obtain ⟨At4, ct4, rfl⟩ := row_shape (hp.get 0 rfl)
 refine GL_rd (v := .tuple _) (wn_none rfl) rfl (rd_move rfl rfl) ?_
 refine GL_rd (v := .agg ⟨_⟩) (wn_none rfl) rfl (rd_extract rfl rfl rfl) ?_
 refine GL_rd (v := .bool _) (wn_none rfl) rfl (rd_extract rfl rfl rfl) ?_
 refine GL_rd (v := .int _ _) (wn_none rfl) rfl (rd_extract rfl rfl rfl) ?_
 refine GL_alloc (wn_none rfl) rfl rfl tz83 rfl hp ?_
 intro g7 w hp
 refine GL_store (i := 0) (wn_none rfl) rfl rfl rfl rfl ts83 rfl (clipC_len _ _ _) (clipC_one _ _ _ _ _ _ _) hp rfl (by decide) (splice_all _ _ (by rw [clipC_len]; rfl)) ?_
 intro w hp
 refine GL_rd (v := .bool _) (wn_none rfl) rfl (rd_assign rfl rfl) ?_
 refine GL_rd (v := .int _ _) (wn_none rfl) rfl (rd_assign rfl rfl) ?_
 refine GL_nil ?_
 refine GW_seq ?_
 refine GW_region ?_
 refine GL_rd (wn_none rfl) rfl (rd_loadC rfl rfl Try.underlying83 rfl ts83 (hp.get 10 rfl) (clipC_len _ _ _)) ?_
 refine GL_call (wn_none rfl) rfl rfl (bi_Copy wC _ _ _ _ _ (Sl.row (hp.get 12 rfl)) (Sl.row (hp.get 11 rfl)) (by decide)) rfl ?_
 rintro _ w ⟨hv5, tv5, rfl, hk⟩
 have hp := hp.comp hk
 obtain ⟨Ah5, ch5, rfl⟩ := row_shape (hp.get 1 rfl)
 obtain ⟨At5, ct5, rfl⟩ := row_shape (hp.get 0 rfl)
 refine GL_alloc (wn_none rfl) rfl rfl tz83 rfl hp ?_
 intro g8 w hp
 refine GL_store (i := 0) (wn_none rfl) rfl rfl rfl rfl ts83 rfl (clipC_len _ _ _) (clipC_one _ _ _ _ _ _ _) hp rfl (by decide) (splice_all _ _ (by rw [clipC_len]; rfl)) ?_
 intro w hp
 refine GL_nil ?_
 refine GW_seq ?_
 refine GW_region ?_
 refine GL_rd (wn_none rfl) rfl (rd_loadC rfl rfl Try.underlying83 rfl ts83 (hp.get 13 rfl) (clipC_len _ _ _)) ?_
 refine GL_rd (wn_none rfl) rfl (rd_loadC rfl rfl Try.underlying83 rfl ts83 (hp.get 13 rfl) (clipC_len _ _ _)) ?_
 refine GL_litP (Q := [(wC, (.slice (some ⟨g, 0, none⟩) 1 1), (.slice (some ⟨g2, 0, none⟩) 2 2)), (wC, (.slice (some ⟨g, 0, none⟩) 1 1), (.slice (some ⟨g2, 0, none⟩) 2 2))].flatMap cvC) (wn_none rfl) rfl rfl rfl rfl rfl rfl Try.underlying96 ts83 tz83 (by kernel_rfl) (clipC_len _ _ _) (clipC_len _ _ _) (two_wc _ _ _ _) hp ?_
 intro gl w hp
 refine GL_call (wn_none rfl) rfl rfl (bi_Uses _ 2 [(wC, (.slice (some ⟨g, 0, none⟩) 1 1), (.slice (some ⟨g2, 0, none⟩) 2 2)), (wC, (.slice (some ⟨g, 0, none⟩) 1 1), (.slice (some ⟨g2, 0, none⟩) 2 2))] _ (Sl.row (hp.get 0 rfl)) (cvSl_two (Sl.row (hp.get 16 rfl)) (Sl.row (hp.get 15 rfl))).1 (wC_65 _ _).1 (by decide)) rfl ?_
 rintro _ w ⟨gm, rfl, hk⟩
 have hp := hp.comp hk
 refine GL_rd (v := _) (wn_none rfl) rfl (rd_assign rfl rfl) ?_
 refine GL_nil ?_
 refine GW_seq ?_
 refine GW_region ?_
 refine GL_rd (v := .int _ _) (wn_none rfl) rfl (rd_move rfl rfl) ?_
 refine GL_rd (wn_none rfl) rfl (rd_bin rfl rfl rfl (bo_boolE (q := true) bo_eql (decide_eq_true rfl))) ?_
 refine GL_rd (v := .bool _) (wn_none rfl) rfl (rd_move rfl rfl) ?_
 refine GL_rd (v := .bool _) (wn_on rfl rfl rfl rfl) rfl (rd_move rfl rfl) ?_
 refine GL_rd (v := .bool _) (wn_none rfl) rfl (rd_pickT rfl rfl rfl) ?_
 refine GL_rd (v := .bool _) (wn_none rfl) rfl (rd_move rfl rfl) ?_
 refine GL_rd (v := .int _ _) (wn_on rfl rfl rfl rfl) rfl (rd_move rfl rfl) ?_
 refine GL_rd (wn_on rfl rfl rfl rfl) rfl (rd_bin rfl rfl rfl (bo_boolE (q := true) bo_eql (decide_eq_true rfl))) ?_
 refine GL_rd (v := .bool _) (wn_none rfl) rfl (rd_pickT rfl rfl rfl) ?_
 refine GL_rd (v := .bool _) (wn_none rfl) rfl (rd_move rfl rfl) ?_
 refine GL_rd (wn_on rfl rfl rfl rfl) rfl (rd_loadC rfl rfl Try.underlying83 rfl ts83 (hp.get 15 rfl) (clipC_len _ _ _)) ?_
 refine GL_rd (wn_on rfl rfl rfl rfl) rfl (rd_loadC rfl rfl Try.underlying83 rfl ts83 (hp.get 11 rfl) (clipC_len _ _ _)) ?_
 refine GL_call (wn_on rfl rfl rfl rfl) rfl rfl (wk_Same _ _ _ _ _ _ (Sl.row (hp.get 17 rfl)) (Sl.row (hp.get 16 rfl)) (Sl.row (hp.get 13 rfl)) (Sl.row (hp.get 12 rfl))) rfl ?_
 rintro _ w ⟨rfl, hk⟩
 have hp := hp.comp hk
 refine GL_rd (v := .bool _) (wn_none rfl) rfl (rd_pickT rfl rfl rfl) ?_
 refine GL_rd (v := .bool _) (wn_none rfl) rfl (rd_move rfl rfl) ?_
 refine GL_rd (v := .bool _) (wn_on rfl rfl rfl rfl) rfl (rd_move rfl rfl) ?_
 refine GL_rd (wn_on rfl rfl rfl rfl) rfl (rd_not rfl rfl) ?_
 refine GL_rd (v := .bool _) (wn_none rfl) rfl (rd_pickT rfl rfl rfl) ?_
 refine GL_rd (v := .bool _) (wn_none rfl) rfl (rd_move rfl rfl) ?_
 refine GL_rd (v := .int _ _) (wn_on rfl rfl rfl rfl) rfl (rd_move rfl rfl) ?_
 refine GL_rd (wn_on rfl rfl rfl rfl) rfl (rd_bin rfl rfl rfl (bo_boolE (q := true) bo_eql (decide_eq_true rfl))) ?_
 refine GL_rd (v := .bool _) (wn_none rfl) rfl (rd_pickT rfl rfl rfl) ?_
 refine GL_rd (v := .bool _) (wn_none rfl) rfl (rd_move rfl rfl) ?_
 refine GL_rd (v := .int _ _) (wn_on rfl rfl rfl rfl) rfl (rd_move rfl rfl) ?_
 refine GL_rd (wn_on rfl rfl rfl rfl) rfl (rd_bin rfl rfl rfl (bo_boolE (q := true) bo_eql (decide_eq_true rfl))) ?_
 refine GL_rd (v := .bool _) (wn_none rfl) rfl (rd_pickT rfl rfl rfl) ?_
 refine GL_rd (v := .bool _) (wn_none rfl) rfl (rd_move rfl rfl) ?_
 refine GL_rd (wn_on rfl rfl rfl rfl) rfl (rd_loadC rfl rfl Try.underlying83 rfl ts83 (hp.get 2 rfl) (clipC_len _ _ _)) ?_
 refine GL_rd (wn_on rfl rfl rfl rfl) rfl (rd_loadC rfl rfl Try.underlying83 rfl ts83 (hp.get 15 rfl) (clipC_len _ _ _)) ?_
 refine GL_call (wn_on rfl rfl rfl rfl) rfl rfl (wk_Same _ _ _ _ _ _ (Sl.row (hp.get 4 rfl)) (Sl.row (hp.get 3 rfl)) (Sl.row (hp.get 17 rfl)) (Sl.row (hp.get 16 rfl))) rfl ?_
 rintro _ w ⟨rfl, hk⟩
 have hp := hp.comp hk
 refine GL_rd (v := .bool _) (wn_none rfl) rfl (rd_pickT rfl rfl rfl) ?_
 refine GL_rd (v := .bool _) (wn_none rfl) rfl (rd_move rfl rfl) ?_
 refine GL_rd (v := _) (wn_on rfl rfl rfl rfl) rfl (rd_move rfl rfl) ?_
 refine GL_rd (wn_on rfl rfl rfl rfl) rfl (rd_cniG rfl rfl rfl Try.underlying97 Try.underlying3 tz3 (hp.get 0 rfl)) ?_
 refine GL_rd (wn_on rfl rfl rfl rfl) rfl (rd_bin rfl rfl rfl (bo_boolE (q := true) bo_eql (decide_eq_true (wU3 _ _)))) ?_
 refine GL_rd (v := .bool _) (wn_none rfl) rfl (rd_pickT rfl rfl rfl) ?_
 refine GL_rd (v := .bool _) (wn_none rfl) rfl (rd_move rfl rfl) ?_
 refine GL_rd (v := _) (wn_on rfl rfl rfl rfl) rfl (rd_move rfl rfl) ?_
 refine GL_rd (wn_on rfl rfl rfl rfl) rfl (rd_cniG rfl rfl rfl Try.underlying97 Try.underlying3 tz3 (hp.get 0 rfl)) ?_
 refine GL_rd (wn_on rfl rfl rfl rfl) rfl (rd_bin rfl rfl rfl (bo_boolE (q := true) bo_eql (decide_eq_true (wU1 _ _)))) ?_
 refine GL_rd (v := .bool _) (wn_none rfl) rfl (rd_pickT rfl rfl rfl) ?_
 refine GL_rd (v := .bool _) (wn_none rfl) rfl (rd_move rfl rfl) ?_
 refine GL_rd (wn_on rfl rfl rfl rfl) rfl (rd_loadC rfl rfl Try.underlying83 rfl ts83 (hp.get 15 rfl) (clipC_len _ _ _)) ?_
 refine GL_lit1 (L := (cvC (wC, (.slice (some ⟨g, 0, none⟩) 1 1), (.slice (some ⟨g2, 0, none⟩) 2 2)))) (wn_on rfl rfl rfl rfl) rfl rfl rfl rfl Try.underlying96 ts83 tz83 (by kernel_rfl) (cvC_len _) hp ?_
 intro g9 w hp
 refine GL_call (wn_on rfl rfl rfl rfl) rfl rfl (wk_Most _ 1 [(wC, (.slice (some ⟨g, 0, none⟩) 1 1), (.slice (some ⟨g2, 0, none⟩) 2 2))] 0 _ (by rw [← one_cv]; exact (Sl.row (hp.get 0 rfl))) (cvSl_two (Sl.row (hp.get 18 rfl)) (Sl.row (hp.get 17 rfl))).2 (wC_65 _ _).2 (by decide) (wM1 _ _)) rfl ?_
 rintro _ w ⟨rfl, hk⟩
 have hp := hp.comp hk
 refine GL_rd (wn_on rfl rfl rfl rfl) rfl (rd_bin rfl rfl rfl (bo_boolE (q := true) bo_eql (decide_eq_true rfl))) ?_
 refine GL_rd (v := .bool _) (wn_none rfl) rfl (rd_pickT rfl rfl rfl) ?_
 refine GL_rd (v := .bool _) (wn_none rfl) rfl (rd_move rfl rfl) ?_
 refine GL_call (wn_on rfl rfl rfl rfl) rfl rfl (wk_Most _ 0 [] (-1) _ (Sl.nil _ 39) (by intro x hx; cases hx) (by intro x hx; cases hx) (by decide) wM0) rfl ?_
 rintro _ w ⟨rfl, hk⟩
 have hp := hp.comp hk
 refine GL_rd (wn_on rfl rfl rfl rfl) rfl (rd_bin rfl rfl rfl (bo_boolE (q := true) bo_eql (decide_eq_true rfl))) ?_
 refine GL_rd (v := .bool _) (wn_none rfl) rfl (rd_pickT rfl rfl rfl) ?_
 refine GL_rd (v := .bool _) (wn_none rfl) rfl (rd_move rfl rfl) ?_
 refine GL_call (wn_on rfl rfl rfl rfl) rfl rfl (wk_Adr1 _) rfl ?_
 rintro _ w ⟨rfl, hk⟩
 have hp := hp.comp hk
 refine GL_call (wn_on rfl rfl rfl rfl) rfl rfl (wk_Adr2 _) rfl ?_
 rintro _ w ⟨rfl, hk⟩
 have hp := hp.comp hk
 refine GL_rd (wn_on rfl rfl rfl rfl) rfl (rd_bin rfl rfl rfl (bo_boolE (q := true) (bo_arrB Try.underlying57 Try.underlying5 ts5 (by kernel_rfl) wA1_len wA2_len).2 (by rw [decide_eq_false wA_ne]; rfl))) ?_
 refine GL_rd (v := .bool _) (wn_none rfl) rfl (rd_pickT rfl rfl rfl) ?_
 refine GL_rd (v := .bool _) (wn_none rfl) rfl (rd_move rfl rfl) ?_
 refine GL_rd (wn_on rfl rfl rfl rfl) rfl (rd_loadC rfl rfl Try.underlying83 rfl ts83 (hp.get 16 rfl) (clipC_len _ _ _)) ?_
 refine GL_call (wn_on rfl rfl rfl rfl) rfl rfl (wk_Check _ _ _ (Sl.row (hp.get 18 rfl)) (Sl.row (hp.get 17 rfl))) rfl ?_
 rintro _ w ⟨rfl, hk⟩
 have hp := hp.comp hk
 refine GL_rd (wn_on rfl rfl rfl rfl) rfl (rd_bin rfl rfl rfl (bo_boolE (q := true) bo_eql (decide_eq_true rfl))) ?_
 refine GL_rd (v := .bool _) (wn_none rfl) rfl (rd_pickT rfl rfl rfl) ?_
 refine GL_rd (v := .bool _) (wn_none rfl) rfl (rd_assign rfl rfl) ?_
 refine GL_nil ?_
 refine GW_ret ?_
 exact ⟨_, res1 Try.results60 (rv_tmp (v := .bool _) rfl rfl), rfl, hp.mods⟩
end Go.Proofs.Ytblpmjbddpadcaa
