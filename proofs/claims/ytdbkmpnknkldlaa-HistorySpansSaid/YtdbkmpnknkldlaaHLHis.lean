/- Walks of functions of the program. -/
import Derived.Test.YtdbkmpnknkldlaaHFHiG
import Derived.Test.YtdbkmpnknkldlaaHFHiR
import Derived.Test.YtdbkmpnknkldlaaHFHiS
set_option linter.unusedVariables false
set_option linter.unusedSimpArgs false
namespace Go.Proofs.Ytdbkmpnknkldlaa
open Go.Mo Go.RowKit
theorem law_alight (sv : Value) (m : Nat) (l : List Rec) (w0 : World) (hI : Sl w0 sv 100 m (l.flatMap recC)) : Does Try.prog 9 #[sv] w0 fun v w' => v = .int .i64 (lightI l) ∧ Hp w0 [] w' [] := by
 obtain ⟨A, c, rfl⟩ := sl_shape hI
 have hlm := Sl.recs hI
 have hmle := hI.le
 refine does_of (l := [.slice A m c]) Try.func9 (by kernel_rfl) rfl Try.ntmps9 rfl rfl (by kernel_rfl) ?_
 have hp := Hp.refl w0 []
 refine GW_seq ?_
 refine GW_region ?_
 refine GL_rd (v := .int _ _) (wn_none rfl) rfl (rd_assign rfl rfl) ?_
 refine GL_nil ?_
 refine GW_seq ?_
 refine GW_seq ?_
 refine GW_region ?_
 refine GL_rd (v := .slice _ _ _) (wn_none rfl) rfl (rd_move rfl rfl) ?_
 refine GL_rd (wn_none rfl) rfl (rd_len rfl rfl Try.underlying22) ?_
 refine GL_rd (wn_none rfl) rfl (rd_bin rfl rfl rfl bo_gtr) ?_
 refine GL_nil ?_
 refine GW_cond rfl (fun hb => ?_) (fun hb => ?_)
 ·(try simp only [decide_eq_true_eq, decide_eq_false_iff_not, Bool.not_eq_true', Bool.not_eq_false', Bool.not_eq_eq_eq_not, Bool.not_true, Bool.not_false, Int.not_lt, Int.not_le] at hb)
  refine GW_seq ?_
  refine GW_region ?_
  refine GL_rd (v := .int _ _) (wn_none rfl) rfl (rd_assign rfl rfl) ?_
  refine GL_nil ?_
  refine GW_ret ?_
  have el : lightI l = 1 := light_long (by omega)
  exact ⟨_, res1 Try.results9 (rv_tmp (v := .int _ _) rfl rfl), by rw [el], hp⟩
 ·(try simp only [decide_eq_true_eq, decide_eq_false_iff_not, Bool.not_eq_true', Bool.not_eq_false', Bool.not_eq_eq_eq_not, Bool.not_true, Bool.not_false, Int.not_lt, Int.not_le] at hb)
  have hm20 := hb
  refine GW_skip ?_
  refine GW_seq ?_
  refine GW_seq ?_
  refine GW_region ?_
  refine GL_rd (v := .int _ _) (wn_none rfl) rfl (rd_assign rfl rfl) ?_
  refine GL_nil ?_
  refine GW_block ?_
  refine GW_loop ?_
  refine Lp_ind (α := Nat) (fun a_0 f_0 w' => match a_0 with | i => ∃ fz, f_0 = (upd (upd fz 0 (.slice A m c)) 3 (.int .i64 (i : Int))) ∧ Hp w0 [] w' [] ∧ (i ≤ m) ∧ (∀ j, j < i → litB (recAt l j) = true)) (fun a_0 => match a_0 with | i => m - i) ?_ 0 _ _ ?_
  ·rintro i f wz ⟨fz, rfl, hp, hi0, hok⟩ ihL0
   refine Lp_round ?_
   refine GW_seq ?_
   refine GW_seq ?_
   refine GW_region ?_
   refine GL_rd (v := .int _ _) (wn_none rfl) rfl (rd_move rfl rfl) ?_
   refine GL_rd (v := .slice _ _ _) (wn_none rfl) rfl (rd_move rfl rfl) ?_
   refine GL_rd (wn_none rfl) rfl (rd_len rfl rfl Try.underlying22) ?_
   refine GL_rd (wn_none rfl) rfl (rd_bin rfl rfl rfl bo_lss) ?_
   refine GL_nil ?_
   refine GW_cond rfl (fun hb2 => ?_) (fun hb2 => ?_)
   ·(try simp only [decide_eq_true_eq, decide_eq_false_iff_not, Bool.not_eq_true', Bool.not_eq_false', Bool.not_eq_eq_eq_not, Bool.not_true, Bool.not_false, Int.not_lt, Int.not_le] at hb2)
    obtain ⟨gA, bA, rfl⟩ := hI.addr (by rw [flat_length recC_len]; omega)
    refine GW_skip ?_
    refine GW_seq ?_
    refine GW_block ?_
    refine GW_seq ?_
    refine GW_region ?_
    refine GL_rd (v := .slice _ _ _) (wn_none rfl) rfl (rd_move rfl rfl) ?_
    refine GL_rd (v := .int _ _) (wn_none rfl) rfl (rd_move rfl rfl) ?_
    refine GL_rd (wn_none rfl) rfl (rd_indexS (j := i) rfl rfl rfl Try.underlying22 ts32 rfl (by omega) _ rfl) ?_
    refine GL_rd (wn_none rfl) rfl (rd_field rfl rfl fa32_2 _ rfl) ?_
    refine GL_rd (wn_none rfl) rfl (rd_load rfl rfl Try.underlying9 rfl (Sl.recE (hI.keep hp.mod) i (by first | omega | assumption | exact Nat.lt_succ_self _) (rec_actor _))) ?_
    refine GL_rd (wn_none rfl) rfl (rd_lenS rfl rfl Try.underlying9) ?_
    refine GL_rd (wn_none rfl) rfl (rd_bin rfl rfl rfl bo_gtr) ?_
    refine GL_rd (v := .bool _) (wn_none rfl) rfl (rd_move rfl rfl) ?_
    refine GL_split (t := 20) (b := _) rfl ?_ ?_
    ·intro hb3; (try simp only [decide_eq_true_eq, decide_eq_false_iff_not, Bool.not_eq_true', Bool.not_eq_false', Bool.not_eq_eq_eq_not, Bool.not_true, Bool.not_false, Int.not_lt, Int.not_le] at hb3)
     refine GL_pass (nw_off rfl rfl rfl rfl rfl) rfl ?_
     refine GL_pass (nw_off rfl rfl rfl rfl rfl) rfl ?_
     refine GL_pass (nw_off rfl rfl rfl rfl rfl) rfl ?_
     refine GL_pass (nw_off rfl rfl rfl rfl rfl) rfl ?_
     refine GL_pass (nw_off rfl rfl rfl rfl rfl) rfl ?_
     refine GL_pass (nw_off rfl rfl rfl rfl rfl) rfl ?_
     refine GL_pass (nw_off rfl rfl rfl rfl rfl) rfl ?_
     refine GL_rd (v := .bool _) (wn_none rfl) rfl (rd_pickT rfl rfl rfl) ?_
     refine GL_nil ?_
     refine GW_true rfl ?_
     refine GW_seq ?_
     refine GW_region ?_
     refine GL_rd (v := .int _ _) (wn_none rfl) rfl (rd_assign rfl rfl) ?_
     refine GL_nil ?_
     refine GW_ret ?_
     have el : lightI l = 1 := light_bad (i := i) (by omega) (litB_no (by omega))
     exact ⟨_, res1 Try.results9 (rv_tmp (v := .int _ _) rfl rfl), by rw [el], hp⟩
    ·intro hb3; (try simp only [decide_eq_true_eq, decide_eq_false_iff_not, Bool.not_eq_true', Bool.not_eq_false', Bool.not_eq_eq_eq_not, Bool.not_true, Bool.not_false, Int.not_lt, Int.not_le] at hb3)
     have h1 := hb3
     refine GL_rd (v := .slice _ _ _) (wn_on rfl rfl rfl rfl) rfl (rd_move rfl rfl) ?_
     refine GL_rd (v := .int _ _) (wn_on rfl rfl rfl rfl) rfl (rd_move rfl rfl) ?_
     refine GL_rd (wn_on rfl rfl rfl rfl) rfl (rd_indexS (j := i) rfl rfl rfl Try.underlying22 ts32 rfl (by omega) _ rfl) ?_
     refine GL_rd (wn_on rfl rfl rfl rfl) rfl (rd_field rfl rfl fa32_4 _ rfl) ?_
     refine GL_rd (wn_on rfl rfl rfl rfl) rfl (rd_load rfl rfl Try.underlying9 rfl (Sl.recE (hI.keep hp.mod) i (by first | omega | assumption | exact Nat.lt_succ_self _) (rec_reason _))) ?_
     refine GL_rd (wn_on rfl rfl rfl rfl) rfl (rd_lenS rfl rfl Try.underlying9) ?_
     refine GL_rd (wn_on rfl rfl rfl rfl) rfl (rd_bin rfl rfl rfl bo_gtr) ?_
     refine GL_rd (v := .bool _) (wn_none rfl) rfl (rd_pickF rfl rfl rfl) ?_
     refine GL_nil ?_
     refine GW_cond rfl (fun hb4 => ?_) (fun hb4 => ?_)
     ·(try simp only [decide_eq_true_eq, decide_eq_false_iff_not, Bool.not_eq_true', Bool.not_eq_false', Bool.not_eq_eq_eq_not, Bool.not_true, Bool.not_false, Int.not_lt, Int.not_le] at hb4)
      refine GW_seq ?_
      refine GW_region ?_
      refine GL_rd (v := .int _ _) (wn_none rfl) rfl (rd_assign rfl rfl) ?_
      refine GL_nil ?_
      refine GW_ret ?_
      have el : lightI l = 1 := light_bad (i := i) (by omega) (litB_no (by omega))
      exact ⟨_, res1 Try.results9 (rv_tmp (v := .int _ _) rfl rfl), by rw [el], hp⟩
     ·(try simp only [decide_eq_true_eq, decide_eq_false_iff_not, Bool.not_eq_true', Bool.not_eq_false', Bool.not_eq_eq_eq_not, Bool.not_true, Bool.not_false, Int.not_lt, Int.not_le] at hb4)
      have h2 := hb4
      refine GW_skip ?_
      refine GW_region ?_
      refine GL_rd (v := .int _ _) (wn_none rfl) rfl (rd_move rfl rfl) ?_
      refine GL_rd (wn_none rfl) rfl (rd_bin rfl rfl rfl (bo_add64 (by omega))) ?_
      refine GL_rd (v := .int _ _) (wn_none rfl) rfl (rd_assign rfl rfl) ?_
      refine GL_nil ?_
      exact ihL0 (i + 1) _ _ (by simp only []; omega) ⟨_, slots2 rfl rfl, hp, by omega, fun j hj => by rcases Nat.lt_succ_iff_lt_or_eq.1 hj with h | h; exact hok j h; subst h; exact litB_yes (by omega) (by omega)⟩
   ·(try simp only [decide_eq_true_eq, decide_eq_false_iff_not, Bool.not_eq_true', Bool.not_eq_false', Bool.not_eq_eq_eq_not, Bool.not_true, Bool.not_false, Int.not_lt, Int.not_le] at hb2)
    refine GW_exit ?_
    refine GW_seq ?_
    refine GW_region ?_
    refine GL_rd (v := .int _ _) (wn_none rfl) rfl (rd_assign rfl rfl) ?_
    refine GL_nil ?_
    refine GW_ret ?_
    obtain rfl : m = i := by omega
    have el : lightI l = 0 := light_ok (by omega) (by rw [hlm]; exact hok)
    exact ⟨_, res1 Try.results9 (rv_tmp (v := .int _ _) rfl rfl), by rw [el], hp⟩
  ·refine ⟨_, slots2 rfl rfl, hp, Nat.zero_le _, fun j hj => absurd hj (by omega)⟩
set_option maxRecDepth 100000 in
set_option maxHeartbeats 1000000 in
theorem law_hworks (w0 : World) : Does Try.prog 10 #[] w0 fun v w' => v = .bool true ∧ Hp w0 [] w' [] := by
 refine does_ofM (l := []) Try.func10 (by kernel_rfl) rfl Try.ntmps10 rfl rfl ?_
 have hp := Hp.refl w0 []
 refine GV_seq ?_
 refine GV_of (by kernel_rfl) ?_
 refine GW_region ?_
 refine GL_rd (v := .bool _) (wn_none rfl) rfl (rd_assign rfl rfl) ?_
 refine GL_nil ?_
 refine GV_seq ?_
 refine GV_of (by kernel_rfl) ?_
 refine GW_region ?_
 refine GL_rd (wn_none rfl) rfl (rd_buildA (L := (bys ad1.1)) rfl tz23 Try.underlying23 ts5 (by kernel_rfl)) ?_
 refine GL_alloc (wn_none rfl) rfl rfl tz23 rfl hp ?_
 intro g w hp
 refine GL_store (i := 0) (wn_none rfl) rfl rfl rfl rfl ts23 rfl (by rw [bys_length]; first | exact a32_len _ | rfl | simp [*]) (bys_one _) hp rfl (by first | exact Nat.le_of_ble_eq_true rfl | (simp only [bys_length, a32_len]; omega)) (splice_all _ _ (by first | (rw [bys_length, List.length_replicate]; first | exact a32_len _) | (rw [bys_length]; first | exact a32_len _) | (rw [bys_length]; rfl) | simp [bys_length, a32_len, *])) ?_
 intro w hp
 refine GL_nil ?_
 refine GV_seq ?_
 refine GV_of (by kernel_rfl) ?_
 refine GW_region ?_
 refine GL_rd (wn_none rfl) rfl (rd_loadC rfl rfl Try.underlying23 rfl ts23 (hp.get 0 rfl) (by first | (rw [bys_length]; first | exact a32_len _) | rfl | simp [bys_length, *])) ?_
 refine GL_rd (wn_none rfl) rfl (rd_buildF (L := (recC hkA)) rfl tz32 pl32 rfl (rec_fillD _ _ _ _ ad1)) ?_
 refine GL_rd (wn_none rfl) rfl (rd_loadC rfl rfl Try.underlying23 rfl ts23 (hp.get 0 rfl) (by first | (rw [bys_length]; first | exact a32_len _) | rfl | simp [bys_length, *])) ?_
 refine GL_rd (wn_none rfl) rfl (rd_buildF (L := (recC hkB)) rfl tz32 pl32 rfl (rec_fillD _ _ _ _ ad1)) ?_
 refine GL_rd (wn_none rfl) rfl (rd_loadC rfl rfl Try.underlying23 rfl ts23 (hp.get 0 rfl) (by first | (rw [bys_length]; first | exact a32_len _) | rfl | simp [bys_length, *])) ?_
 refine GL_rd (wn_none rfl) rfl (rd_buildF (L := (recC hkC)) rfl tz32 pl32 rfl (rec_fillB _ _ _ ad1)) ?_
 refine GL_lit3 (Q := hkL.flatMap recC) (wn_none rfl) rfl rfl rfl rfl rfl rfl rfl rfl Try.underlying22 ts32 tz32 (by kernel_rfl) (recC_len _) (recC_len _) (recC_len _) (three_flat _ _ _) hp ?_
 intro gl w hp
 refine GL_rd (v := .slice _ _ _) (wn_none rfl) rfl (rd_assign rfl rfl) ?_
 refine GL_nil ?_
 refine GV_seq ?_
 refine GV_of (by kernel_rfl) ?_
 refine GW_region ?_
 refine GL_rd (v := .slice _ _ _) (wn_none rfl) rfl (rd_move rfl rfl) ?_
 refine GL_rd (wn_none rfl) rfl (rd_loadC rfl rfl Try.underlying23 rfl ts23 (hp.get 1 rfl) (by first | (rw [bys_length]; first | exact a32_len _) | rfl | simp [bys_length, *])) ?_
 refine GL_call (wn_none rfl) rfl rfl (his_Of _ 3 hkL ad1 3 _ (Sl.row (hp.get 0 rfl)) (by decide)) rfl ?_
 rintro _ w ⟨hw1, rfl, hk⟩
 have hp := hp.comp hk
 obtain ⟨Aw1, cw1, rfl⟩ := row_shape (hp.get 0 rfl)
 refine GL_alloc (wn_none rfl) rfl rfl tz91 rfl hp ?_
 intro g3 w hp
 refine GL_store (i := 0) (wn_none rfl) rfl rfl rfl rfl ts91 rfl rfl (oneC rfl (oneC rfl (oneC rfl (oneC rfl (oneC rfl (oneC rfl one0)))))) hp rfl (by first | exact Nat.le_of_ble_eq_true rfl | simp [bys_length, *]) (show splice _ _ _ = hzC _ (hOf hkL ad1 3) from rfl) ?_
 intro w hp
 refine GL_nil ?_
 refine GV_seq ?_
 refine GV_of (by kernel_rfl) ?_
 refine GW_region ?_
 refine GL_rd (v := .slice _ _ _) (wn_none rfl) rfl (rd_move rfl rfl) ?_
 refine GL_rd (wn_none rfl) rfl (rd_loadC rfl rfl Try.underlying23 rfl ts23 (hp.get 3 rfl) (by first | (rw [bys_length]; first | exact a32_len _) | rfl | simp [bys_length, *])) ?_
 refine GL_call (wn_none rfl) rfl rfl (his_Of _ 3 hkL ad1 9 _ (Sl.row (hp.get 2 rfl)) (by decide)) rfl ?_
 rintro _ w ⟨hw2, rfl, hk⟩
 have hp := hp.comp hk
 obtain ⟨Aw2, cw2, rfl⟩ := row_shape (hp.get 0 rfl)
 refine GL_alloc (wn_none rfl) rfl rfl tz91 rfl hp ?_
 intro g4 w hp
 refine GL_store (i := 0) (wn_none rfl) rfl rfl rfl rfl ts91 rfl rfl (oneC rfl (oneC rfl (oneC rfl (oneC rfl (oneC rfl (oneC rfl one0)))))) hp rfl (by first | exact Nat.le_of_ble_eq_true rfl | simp [bys_length, *]) (show splice _ _ _ = hzC _ (hOf hkL ad1 9) from rfl) ?_
 intro w hp
 refine GL_nil ?_
 refine GV_seq ?_
 refine GV_of (by kernel_rfl) ?_
 refine GW_region ?_
 refine GL_alloc (wn_none rfl) rfl rfl tz3 rfl hp ?_
 intro g5 w hp
 refine GL_store (i := 0) (wn_none rfl) rfl rfl rfl rfl ts3 rfl rfl (one1 rfl) hp rfl (by first | exact Nat.le_of_ble_eq_true rfl | simp [bys_length, *]) rfl ?_
 intro w hp
 refine GL_nil ?_
 refine GV_seq ?_
 refine GV_of (by kernel_rfl) ?_
 refine GW_region ?_
 refine GL_rd (v := .slice _ _ _) (wn_none rfl) rfl (rd_move rfl rfl) ?_
 refine GL_call (wn_none rfl) rfl rfl (his_Until _ 3 hkL 5 _ (Sl.row (hp.get 5 rfl))) rfl ?_
 rintro _ w ⟨ga, gb, rfl, hk⟩
 have hp := hp.comp hk
 refine GL_rd (v := .func (.func 75) #[] #[.pointer (some ⟨ga, 0, none⟩), .pointer (some ⟨gb, 0, none⟩)]) (wn_none rfl) rfl (rd_assign rfl rfl) ?_
 refine GL_nil ?_
 refine GV_seq ?_
 refine GV_of (by kernel_rfl) ?_
 refine GW_seq ?_
 refine GW_region ?_
 refine GL_rd (v := .func (.func 75) #[] #[.pointer (some ⟨ga, 0, none⟩), .pointer (some ⟨gb, 0, none⟩)]) (wn_none rfl) rfl (rd_move rfl rfl) ?_
 refine GL_rd (wn_none rfl) rfl (rd_bin rfl rfl rfl (bo_fnil Try.underlying94)) ?_
 refine GL_nil ?_
 refine GW_false rfl ?_
 refine GW_skip ?_
 refine GV_seq ?_
 refine GV_seq ?_
 refine GV_of (by kernel_rfl) ?_
 refine GW_region ?_
 refine GL_rd (v := .func (.func 75) #[] #[.pointer (some ⟨ga, 0, none⟩), .pointer (some ⟨gb, 0, none⟩)]) (wn_none rfl) rfl (rd_move rfl rfl) ?_
 refine GL_nil ?_
 refine GV_block ?_
 have hp := ((((((((((hp.front 1 rfl).front 1 rfl).front 2 rfl).front 4 rfl).front 4 rfl).front 6 rfl).front 6 rfl).front 7 rfl).front 8 rfl).take 9)
 refine GV_range1 (α := Rec) (β := Unit) (γ := Unit) (fun r : Rec => .agg ⟨recC r⟩) (hkL.filter (uT 5)) (fun q_ z => [cells g 23 (bys ad1.1), .row 32 100 (.slice (some ⟨gl, 0, none⟩) 3 3) 3 (hkL.flatMap recC), cells g3 91 (hzC (.slice Aw1 (hOf hkL ad1 3).holds.length cw1) (hOf hkL ad1 3)), .row 9 1 (.slice Aw1 (hOf hkL ad1 3).holds.length cw1) ((hOf hkL ad1 3).holds).length (((hOf hkL ad1 3).holds).map Value.string), cells g4 91 (hzC (.slice Aw2 (hOf hkL ad1 9).holds.length cw2) (hOf hkL ad1 9)), .row 9 1 (.slice Aw2 (hOf hkL ad1 9).holds.length cw2) ((hOf hkL ad1 9).holds).length (((hOf hkL ad1 9).holds).map Value.string), cells g5 3 [.int .i64 (q_.length : Int)], cells ga 22 [.slice (some ⟨gl, 0, none⟩) 3 3], cells gb 3 [.int .i64 5]]) (fun q_ z => True) (fun c => []) (fun c => False) ((OwnU 22 3 (.slice (some ⟨gl, 0, none⟩) 3 3) 3 hkL 5 ga gb)) () rfl (by kernel_rfl) (by kernel_rfl) ((his_Iter _ 3 hkL 5 ga gb)) hp trivial (fun _ _ _ h _ => ⟨h.get 7 rfl, h.get 8 rfl, Sl.row (h.get 1 rfl)⟩) ?_ ?_ ?_
 ·intro q_ x s_ z w L1_ D1_ r_ r2_ hxs hz hp
  have hq2 : q_.length < 2 := by have h1 := congrArg List.length hxs; rw [hkU] at h1; simp only [List.length_append, List.length_cons] at h1; omega
  refine GW_skip ?_
  refine ⟨rfl, _, hp, fun w hp => ?_⟩
  refine GW_block ?_
  refine GW_region ?_
  refine GL_rd (wn_none rfl) rfl (rd_load rfl rfl Try.underlying3 rfl ((cell_of_cells (hp.get 8 rfl) _).trans rfl)) ?_
  refine GL_rd (wn_none rfl) rfl (rd_bin rfl rfl rfl (bo_add64 (by omega))) ?_
  refine GL_store (i := 8) (wn_none rfl) rfl rfl rfl rfl ts3 rfl rfl (one1 rfl) hp rfl (by first | exact Nat.le_of_ble_eq_true rfl | simp [bys_length, *]) rfl ?_
  intro w hp
  refine GL_nil ?_
  have hp := ((((((((((((hp.front 10 rfl).front 10 rfl).front 10 rfl).front 10 rfl).front 10 rfl).front 10 rfl).front 10 rfl).front 10 rfl).front 10 rfl).front 10 rfl).front 10 rfl).take 11)
  rw [show ((q_.length : Int) + 1) = ((q_ ++ [x]).length : Int) by simp] at hp
  exact ⟨(), trivial, hp⟩
 ·intro z Dm w hz hp
  rw [hkU] at hp
  refine GV_of (by kernel_rfl) ?_
  refine GW_seq ?_
  refine GW_region ?_
  refine GL_rd (v := .slice _ _ _) (wn_none rfl) rfl (rd_move rfl rfl) ?_
  refine GL_call (wn_none rfl) rfl rfl (his_By _ 3 hkL ⟨#[97, 110, 110]⟩ _ (Sl.row (hp.get 2 rfl)) (by decide)) rfl ?_
  rintro _ w ⟨rfl, hk⟩
  have hp := hp.comp hk
  refine GL_alloc (wn_none rfl) rfl rfl tz26 rfl hp ?_
  intro g6 w hp
  refine GL_store (i := 0) (wn_none rfl) rfl rfl rfl rfl ts26 rfl rfl (oneC rfl (oneC rfl (oneC rfl (oneC rfl (oneC rfl (oneC rfl one0)))))) hp rfl (by first | exact Nat.le_of_ble_eq_true rfl | simp [bys_length, *]) (show splice _ _ _ = byC hkL ⟨#[97, 110, 110]⟩ from rfl) ?_
  intro w hp
  refine GL_nil ?_
  refine GW_seq ?_
  refine GW_region ?_
  refine GL_rd (v := .slice _ _ _) (wn_none rfl) rfl (rd_move rfl rfl) ?_
  refine GL_call (wn_none rfl) rfl rfl (his_Actors _ 3 hkL _ (Sl.row (hp.get 3 rfl)) (by decide)) rfl ?_
  intro va w hk
  have hp := hp.comp hk
  rw [hkA0] at hp
  obtain ⟨Aa, ca, rfl⟩ := row_shape (hp.get 0 rfl)
  obtain ⟨gv, bv, rfl⟩ := (Sl.row (hp.get 0 rfl)).addr (by decide)
  refine GL_rd (v := .slice _ _ _) (wn_none rfl) rfl (rd_assign rfl rfl) ?_
  refine GL_nil ?_
  refine GW_seq ?_
  refine GW_region ?_
  refine GL_rd (wn_none rfl) rfl (rd_field rfl rfl fa91_0 _ rfl) ?_
  refine GL_rd (v := .slice _ _ _) (wn_none rfl) rfl (rd_load rfl rfl Try.underlying29 rfl ((cell_of_cells (hp.get 5 rfl) _).trans rfl)) ?_
  refine GL_rd (wn_none rfl) rfl (rd_len rfl rfl Try.underlying29) ?_
  refine GL_rd (wn_none rfl) rfl (rd_bin rfl rfl rfl bo_eql) ?_
  refine GL_rd (v := .bool _) (wn_none rfl) rfl (rd_move rfl rfl) ?_
  refine GL_split (t := 39) (b := _) rfl ?_ ?_
  ·intro hb; (try simp only [decide_eq_true_eq, decide_eq_false_iff_not, Bool.not_eq_true', Bool.not_eq_false', Bool.not_eq_eq_eq_not, Bool.not_true, Bool.not_false, Int.not_lt, Int.not_le] at hb)
   refine GL_rd (wn_on rfl rfl rfl rfl) rfl (rd_field rfl rfl fa91_3 _ rfl) ?_
   refine GL_rd (wn_on rfl rfl rfl rfl) rfl (rd_load rfl rfl Try.underlying4 rfl ((cell_of_cells (hp.get 5 rfl) _).trans rfl)) ?_
   refine GL_rd (wn_on rfl rfl rfl rfl) rfl (rd_not rfl rfl) ?_
   refine GL_rd (v := .bool _) (wn_none rfl) rfl (rd_pickT rfl rfl rfl) ?_
   refine GL_rd (v := .bool _) (wn_none rfl) rfl (rd_move rfl rfl) ?_
   refine GL_split (t := 44) (b := _) rfl ?_ ?_
   ·intro hb2; (try simp only [decide_eq_true_eq, decide_eq_false_iff_not, Bool.not_eq_true', Bool.not_eq_false', Bool.not_eq_eq_eq_not, Bool.not_true, Bool.not_false, Int.not_lt, Int.not_le] at hb2)
    refine GL_rd (wn_on rfl rfl rfl rfl) rfl (rd_field rfl rfl fa91_3 _ rfl) ?_
    refine GL_rd (wn_on rfl rfl rfl rfl) rfl (rd_load rfl rfl Try.underlying4 rfl ((cell_of_cells (hp.get 7 rfl) _).trans rfl)) ?_
    refine GL_rd (v := .bool _) (wn_none rfl) rfl (rd_pickT rfl rfl rfl) ?_
    refine GL_rd (v := .bool _) (wn_none rfl) rfl (rd_move rfl rfl) ?_
    refine GL_split (t := 48) (b := _) rfl ?_ ?_
    ·intro hb3; (try simp only [decide_eq_true_eq, decide_eq_false_iff_not, Bool.not_eq_true', Bool.not_eq_false', Bool.not_eq_eq_eq_not, Bool.not_true, Bool.not_false, Int.not_lt, Int.not_le] at hb3)
     refine GL_rd (wn_on rfl rfl rfl rfl) rfl (rd_field rfl rfl fa91_4 _ rfl) ?_
     refine GL_rd (wn_on rfl rfl rfl rfl) rfl (rd_load rfl rfl Try.underlying9 rfl ((cell_of_cells (hp.get 7 rfl) _).trans rfl)) ?_
     refine GL_rd (wn_on rfl rfl rfl rfl) rfl (rd_bin rfl rfl rfl bo_seql) ?_
     refine GL_rd (v := .bool _) (wn_none rfl) rfl (rd_pickT rfl rfl rfl) ?_
     refine GL_rd (v := .bool _) (wn_none rfl) rfl (rd_move rfl rfl) ?_
     refine GL_split (t := 53) (b := _) rfl ?_ ?_
     ·intro hb4; (try simp only [decide_eq_true_eq, decide_eq_false_iff_not, Bool.not_eq_true', Bool.not_eq_false', Bool.not_eq_eq_eq_not, Bool.not_true, Bool.not_false, Int.not_lt, Int.not_le] at hb4)
      refine GL_rd (wn_on rfl rfl rfl rfl) rfl (rd_field rfl rfl fa91_0 _ rfl) ?_
      refine GL_rd (v := .slice _ _ _) (wn_on rfl rfl rfl rfl) rfl (rd_load rfl rfl Try.underlying29 rfl ((cell_of_cells (hp.get 7 rfl) _).trans rfl)) ?_
      refine GL_rd (wn_on rfl rfl rfl rfl) rfl (rd_len rfl rfl Try.underlying29) ?_
      refine GL_rd (wn_on rfl rfl rfl rfl) rfl (rd_bin rfl rfl rfl bo_eql) ?_
      refine GL_rd (v := .bool _) (wn_none rfl) rfl (rd_pickT rfl rfl rfl) ?_
      refine GL_rd (v := .bool _) (wn_none rfl) rfl (rd_move rfl rfl) ?_
      refine GL_split (t := 59) (b := _) rfl ?_ ?_
      ·intro hb5; (try simp only [decide_eq_true_eq, decide_eq_false_iff_not, Bool.not_eq_true', Bool.not_eq_false', Bool.not_eq_eq_eq_not, Bool.not_true, Bool.not_false, Int.not_lt, Int.not_le] at hb5)
       refine GL_rd (wn_on rfl rfl rfl rfl) rfl (rd_load rfl rfl Try.underlying3 rfl ((cell_of_cells (hp.get 9 rfl) _).trans rfl)) ?_
       refine GL_rd (wn_on rfl rfl rfl rfl) rfl (rd_bin rfl rfl rfl bo_eql) ?_
       refine GL_rd (v := .bool _) (wn_none rfl) rfl (rd_pickT rfl rfl rfl) ?_
       refine GL_rd (v := .bool _) (wn_none rfl) rfl (rd_move rfl rfl) ?_
       refine GL_split (t := 63) (b := _) rfl ?_ ?_
       ·intro hb6; (try simp only [decide_eq_true_eq, decide_eq_false_iff_not, Bool.not_eq_true', Bool.not_eq_false', Bool.not_eq_eq_eq_not, Bool.not_true, Bool.not_false, Int.not_lt, Int.not_le] at hb6)
        refine GL_rd (v := .slice _ _ _) (wn_on rfl rfl rfl rfl) rfl (rd_move rfl rfl) ?_
        refine GL_rd (wn_on rfl rfl rfl rfl) rfl (rd_loadC rfl rfl Try.underlying23 rfl ts23 (hp.get 3 rfl) (by first | (rw [bys_length]; first | exact a32_len _) | rfl | simp [bys_length, *])) ?_
        refine GL_call (wn_on rfl rfl rfl rfl) rfl rfl (his_Span _ 3 hkL ad1 20 _ (Sl.row (hp.get 4 rfl)) (by decide) hkT (by decide)) rfl ?_
        rintro _ w ⟨rfl, hk⟩
        have hp := hp.comp hk
        rw [hkS1]
        refine GL_rd (wn_on rfl rfl rfl rfl) rfl (rd_bin rfl rfl rfl bo_eql) ?_
        refine GL_rd (v := .bool _) (wn_none rfl) rfl (rd_pickT rfl rfl rfl) ?_
        refine GL_rd (v := .bool _) (wn_none rfl) rfl (rd_move rfl rfl) ?_
        refine GL_split (t := 69) (b := _) rfl ?_ ?_
        ·intro hb7; (try simp only [decide_eq_true_eq, decide_eq_false_iff_not, Bool.not_eq_true', Bool.not_eq_false', Bool.not_eq_eq_eq_not, Bool.not_true, Bool.not_false, Int.not_lt, Int.not_le] at hb7)
         refine GL_rd (v := .slice _ _ _) (wn_on rfl rfl rfl rfl) rfl (rd_move rfl rfl) ?_
         refine GL_rd (wn_on rfl rfl rfl rfl) rfl (rd_loadC rfl rfl Try.underlying23 rfl ts23 (hp.get 3 rfl) (by first | (rw [bys_length]; first | exact a32_len _) | rfl | simp [bys_length, *])) ?_
         refine GL_call (wn_on rfl rfl rfl rfl) rfl rfl (his_Span _ 3 hkL ad1 4 _ (Sl.row (hp.get 4 rfl)) (by decide) hkT (by decide)) rfl ?_
         rintro _ w ⟨rfl, hk⟩
         have hp := hp.comp hk
         rw [hkS2]
         refine GL_rd (wn_on rfl rfl rfl rfl) rfl (rd_bin rfl rfl rfl bo_eql) ?_
         refine GL_rd (v := .bool _) (wn_none rfl) rfl (rd_pickT rfl rfl rfl) ?_
         refine GL_rd (v := .bool _) (wn_none rfl) rfl (rd_move rfl rfl) ?_
         refine GL_split (t := 75) (b := _) rfl ?_ ?_
         ·intro hb8; (try simp only [decide_eq_true_eq, decide_eq_false_iff_not, Bool.not_eq_true', Bool.not_eq_false', Bool.not_eq_eq_eq_not, Bool.not_true, Bool.not_false, Int.not_lt, Int.not_le] at hb8)
          refine GL_rd (v := .slice _ _ _) (wn_on rfl rfl rfl rfl) rfl (rd_move rfl rfl) ?_
          refine GL_call (wn_on rfl rfl rfl rfl) rfl rfl (his_Held _ 3 hkL ⟨#[99, 111, 117, 114, 116]⟩ 4 _ (Sl.row (hp.get 4 rfl)) (by decide)) rfl ?_
          intro vw w hk
          have hp := hp.comp hk
          obtain ⟨Ax, cx, rfl⟩ := row_shape (hp.get 0 rfl)
          refine GL_rd (wn_on rfl rfl rfl rfl) rfl (rd_len rfl rfl Try.underlying65) ?_
          refine GL_rd (wn_on rfl rfl rfl rfl) rfl (rd_bin rfl rfl rfl bo_eql) ?_
          refine GL_rd (v := .bool _) (wn_none rfl) rfl (rd_pickT rfl rfl rfl) ?_
          refine GL_rd (v := .bool _) (wn_none rfl) rfl (rd_move rfl rfl) ?_
          refine GL_split (t := 81) (b := _) rfl ?_ ?_
          ·intro hb9; (try simp only [decide_eq_true_eq, decide_eq_false_iff_not, Bool.not_eq_true', Bool.not_eq_false', Bool.not_eq_eq_eq_not, Bool.not_true, Bool.not_false, Int.not_lt, Int.not_le] at hb9)
           refine GL_rd (v := .slice _ _ _) (wn_on rfl rfl rfl rfl) rfl (rd_move rfl rfl) ?_
           refine GL_call (wn_on rfl rfl rfl rfl) rfl rfl (his_Held _ 3 hkL ⟨#[99, 111, 117, 114, 116]⟩ 6 _ (Sl.row (hp.get 5 rfl)) (by decide)) rfl ?_
           intro vw w hk
           have hp := hp.comp hk
           obtain ⟨Ax, cx, rfl⟩ := row_shape (hp.get 0 rfl)
           refine GL_rd (wn_on rfl rfl rfl rfl) rfl (rd_len rfl rfl Try.underlying65) ?_
           refine GL_rd (wn_on rfl rfl rfl rfl) rfl (rd_bin rfl rfl rfl bo_eql) ?_
           refine GL_rd (v := .bool _) (wn_none rfl) rfl (rd_pickT rfl rfl rfl) ?_
           refine GL_rd (v := .bool _) (wn_none rfl) rfl (rd_move rfl rfl) ?_
           refine GL_split (t := 87) (b := _) rfl ?_ ?_
           ·intro hb10; (try simp only [decide_eq_true_eq, decide_eq_false_iff_not, Bool.not_eq_true', Bool.not_eq_false', Bool.not_eq_eq_eq_not, Bool.not_true, Bool.not_false, Int.not_lt, Int.not_le] at hb10)
            refine GL_rd (v := .slice _ _ _) (wn_on rfl rfl rfl rfl) rfl (rd_move rfl rfl) ?_
            refine GL_call (wn_on rfl rfl rfl rfl) rfl rfl (his_Clips _ 3 hkL _ (Sl.row (hp.get 6 rfl)) (by decide)) rfl ?_
            intro vw w hk
            have hp := hp.comp hk
            obtain ⟨Ay, cy, rfl⟩ := row_shape (hp.get 0 rfl)
            refine GL_rd (wn_on rfl rfl rfl rfl) rfl (rd_len rfl rfl Try.underlying65) ?_
            refine GL_rd (wn_on rfl rfl rfl rfl) rfl (rd_bin rfl rfl rfl bo_eql) ?_
            refine GL_rd (v := .bool _) (wn_none rfl) rfl (rd_pickT rfl rfl rfl) ?_
            refine GL_rd (v := .bool _) (wn_none rfl) rfl (rd_move rfl rfl) ?_
            refine GL_split (t := 93) (b := _) rfl ?_ ?_
            ·intro hb11; (try simp only [decide_eq_true_eq, decide_eq_false_iff_not, Bool.not_eq_true', Bool.not_eq_false', Bool.not_eq_eq_eq_not, Bool.not_true, Bool.not_false, Int.not_lt, Int.not_le] at hb11)
             refine GL_rd (wn_on rfl rfl rfl rfl) rfl (rd_indexA (j := 3) rfl rfl rfl Try.underlying26 ts3 rfl (by omega) _ rfl) ?_
             refine GL_rd (wn_on rfl rfl rfl rfl) rfl (rd_load rfl rfl Try.underlying3 rfl ((cell_of_cells (hp.get 4 rfl) _).trans (show (byC hkL ⟨#[97, 110, 110]⟩)[_]? = some (.int .i64 (byN hkL ⟨#[97, 110, 110]⟩ 3 : Int)) from rfl))) ?_
             refine GL_rd (wn_on rfl rfl rfl rfl) rfl (rd_bin rfl rfl rfl bo_eql) ?_
             refine GL_rd (v := .bool _) (wn_none rfl) rfl (rd_pickT rfl rfl rfl) ?_
             refine GL_rd (v := .bool _) (wn_none rfl) rfl (rd_move rfl rfl) ?_
             refine GL_split (t := 98) (b := _) rfl ?_ ?_
             ·intro hb12; (try simp only [decide_eq_true_eq, decide_eq_false_iff_not, Bool.not_eq_true', Bool.not_eq_false', Bool.not_eq_eq_eq_not, Bool.not_true, Bool.not_false, Int.not_lt, Int.not_le] at hb12)
              refine GL_rd (wn_on rfl rfl rfl rfl) rfl (rd_indexA (j := 1) rfl rfl rfl Try.underlying26 ts3 rfl (by omega) _ rfl) ?_
              refine GL_rd (wn_on rfl rfl rfl rfl) rfl (rd_load rfl rfl Try.underlying3 rfl ((cell_of_cells (hp.get 4 rfl) _).trans (show (byC hkL ⟨#[97, 110, 110]⟩)[_]? = some (.int .i64 (byN hkL ⟨#[97, 110, 110]⟩ 1 : Int)) from rfl))) ?_
              refine GL_rd (wn_on rfl rfl rfl rfl) rfl (rd_bin rfl rfl rfl bo_eql) ?_
              refine GL_rd (v := .bool _) (wn_none rfl) rfl (rd_pickT rfl rfl rfl) ?_
              refine GL_rd (v := .bool _) (wn_none rfl) rfl (rd_move rfl rfl) ?_
              refine GL_split (t := 103) (b := _) rfl ?_ ?_
              ·intro hb13; (try simp only [decide_eq_true_eq, decide_eq_false_iff_not, Bool.not_eq_true', Bool.not_eq_false', Bool.not_eq_eq_eq_not, Bool.not_true, Bool.not_false, Int.not_lt, Int.not_le] at hb13)
               refine GL_rd (v := .slice _ _ _) (wn_on rfl rfl rfl rfl) rfl (rd_move rfl rfl) ?_
               refine GL_rd (wn_on rfl rfl rfl rfl) rfl (rd_len rfl rfl Try.underlying29) ?_
               refine GL_rd (wn_on rfl rfl rfl rfl) rfl (rd_bin rfl rfl rfl bo_eql) ?_
               refine GL_rd (v := .bool _) (wn_none rfl) rfl (rd_pickT rfl rfl rfl) ?_
               refine GL_rd (v := .bool _) (wn_none rfl) rfl (rd_move rfl rfl) ?_
               refine GL_split (t := 108) (b := _) rfl ?_ ?_
               ·intro hb14; (try simp only [decide_eq_true_eq, decide_eq_false_iff_not, Bool.not_eq_true', Bool.not_eq_false', Bool.not_eq_eq_eq_not, Bool.not_true, Bool.not_false, Int.not_lt, Int.not_le] at hb14)
                refine GL_rd (v := .slice _ _ _) (wn_on rfl rfl rfl rfl) rfl (rd_move rfl rfl) ?_
                refine GL_rd (wn_on rfl rfl rfl rfl) rfl (rd_indexS (j := 0) rfl rfl rfl Try.underlying29 ts9 rfl (by omega) _ rfl) ?_
                refine GL_rd (wn_on rfl rfl rfl rfl) rfl (rd_load rfl rfl Try.underlying9 rfl ((Sl.row (hp.get 3 rfl)).get _ _ (strAt_cell (l := [⟨#[97, 110, 110]⟩, ⟨#[98, 111, 98]⟩]) (i := 0) (by decide)))) ?_
                refine GL_rd (wn_on rfl rfl rfl rfl) rfl (rd_bin rfl rfl rfl (bo_boolE (q := true) bo_seql (by decide))) ?_
                refine GL_rd (v := .bool _) (wn_none rfl) rfl (rd_pickT rfl rfl rfl) ?_
                refine GL_rd (v := .bool _) (wn_none rfl) rfl (rd_assign rfl rfl) ?_
                refine GL_nil ?_
                refine GW_ret ?_
                refine (FM_of [Dm] ?_).1
                refine Shut_cons (i := 5) hp rfl fun w hp => ?_
                refine Shut_nil ?_
                exact ⟨_, res1 Try.results10 (rv_tmp (v := .bool _) rfl rfl), rfl, hp.mods⟩
               ·intro hb14; (try simp only [decide_eq_true_eq, decide_eq_false_iff_not, Bool.not_eq_true', Bool.not_eq_false', Bool.not_eq_eq_eq_not, Bool.not_true, Bool.not_false, Int.not_lt, Int.not_le] at hb14)
                exact absurd hb14 (by simp [hkH1, hkG1, hkG2, hkW2, hkH2, hkD1, hkD2, hkK, hkB3, hkB1])
              ·intro hb13; (try simp only [decide_eq_true_eq, decide_eq_false_iff_not, Bool.not_eq_true', Bool.not_eq_false', Bool.not_eq_eq_eq_not, Bool.not_true, Bool.not_false, Int.not_lt, Int.not_le] at hb13)
               exact absurd hb13 (by simp [hkH1, hkG1, hkG2, hkW2, hkH2, hkD1, hkD2, hkK, hkB3, hkB1])
             ·intro hb12; (try simp only [decide_eq_true_eq, decide_eq_false_iff_not, Bool.not_eq_true', Bool.not_eq_false', Bool.not_eq_eq_eq_not, Bool.not_true, Bool.not_false, Int.not_lt, Int.not_le] at hb12)
              exact absurd hb12 (by simp [hkH1, hkG1, hkG2, hkW2, hkH2, hkD1, hkD2, hkK, hkB3, hkB1])
            ·intro hb11; (try simp only [decide_eq_true_eq, decide_eq_false_iff_not, Bool.not_eq_true', Bool.not_eq_false', Bool.not_eq_eq_eq_not, Bool.not_true, Bool.not_false, Int.not_lt, Int.not_le] at hb11)
             exact absurd hb11 (by simp [hkH1, hkG1, hkG2, hkW2, hkH2, hkD1, hkD2, hkK, hkB3, hkB1])
           ·intro hb10; (try simp only [decide_eq_true_eq, decide_eq_false_iff_not, Bool.not_eq_true', Bool.not_eq_false', Bool.not_eq_eq_eq_not, Bool.not_true, Bool.not_false, Int.not_lt, Int.not_le] at hb10)
            exact absurd hb10 (by simp [hkH1, hkG1, hkG2, hkW2, hkH2, hkD1, hkD2, hkK, hkB3, hkB1])
          ·intro hb9; (try simp only [decide_eq_true_eq, decide_eq_false_iff_not, Bool.not_eq_true', Bool.not_eq_false', Bool.not_eq_eq_eq_not, Bool.not_true, Bool.not_false, Int.not_lt, Int.not_le] at hb9)
           exact absurd hb9 (by simp [hkH1, hkG1, hkG2, hkW2, hkH2, hkD1, hkD2, hkK, hkB3, hkB1])
         ·intro hb8; (try simp only [decide_eq_true_eq, decide_eq_false_iff_not, Bool.not_eq_true', Bool.not_eq_false', Bool.not_eq_eq_eq_not, Bool.not_true, Bool.not_false, Int.not_lt, Int.not_le] at hb8)
          exact absurd hb8 (by simp [hkH1, hkG1, hkG2, hkW2, hkH2, hkD1, hkD2, hkK, hkB3, hkB1])
        ·intro hb7; (try simp only [decide_eq_true_eq, decide_eq_false_iff_not, Bool.not_eq_true', Bool.not_eq_false', Bool.not_eq_eq_eq_not, Bool.not_true, Bool.not_false, Int.not_lt, Int.not_le] at hb7)
         exact absurd hb7 (by simp [hkH1, hkG1, hkG2, hkW2, hkH2, hkD1, hkD2, hkK, hkB3, hkB1])
       ·intro hb6; (try simp only [decide_eq_true_eq, decide_eq_false_iff_not, Bool.not_eq_true', Bool.not_eq_false', Bool.not_eq_eq_eq_not, Bool.not_true, Bool.not_false, Int.not_lt, Int.not_le] at hb6)
        exact absurd hb6 (by simp [hkH1, hkG1, hkG2, hkW2, hkH2, hkD1, hkD2, hkK, hkB3, hkB1])
      ·intro hb5; (try simp only [decide_eq_true_eq, decide_eq_false_iff_not, Bool.not_eq_true', Bool.not_eq_false', Bool.not_eq_eq_eq_not, Bool.not_true, Bool.not_false, Int.not_lt, Int.not_le] at hb5)
       exact absurd hb5 (by simp [hkH1, hkG1, hkG2, hkW2, hkH2, hkD1, hkD2, hkK, hkB3, hkB1])
     ·intro hb4; (try simp only [decide_eq_true_eq, decide_eq_false_iff_not, Bool.not_eq_true', Bool.not_eq_false', Bool.not_eq_eq_eq_not, Bool.not_true, Bool.not_false, Int.not_lt, Int.not_le] at hb4)
      exact absurd hb4 (by simp [hkH1, hkG1, hkG2, hkW2, hkH2, hkD1, hkD2, hkK, hkB3, hkB1])
    ·intro hb3; (try simp only [decide_eq_true_eq, decide_eq_false_iff_not, Bool.not_eq_true', Bool.not_eq_false', Bool.not_eq_eq_eq_not, Bool.not_true, Bool.not_false, Int.not_lt, Int.not_le] at hb3)
     exact absurd hb3 (by simp [hkH1, hkG1, hkG2, hkW2, hkH2, hkD1, hkD2, hkK, hkB3, hkB1])
   ·intro hb2; (try simp only [decide_eq_true_eq, decide_eq_false_iff_not, Bool.not_eq_true', Bool.not_eq_false', Bool.not_eq_eq_eq_not, Bool.not_true, Bool.not_false, Int.not_lt, Int.not_le] at hb2)
    exact absurd hb2 (by simp [hkH1, hkG1, hkG2, hkW2, hkH2, hkD1, hkD2, hkK, hkB3, hkB1])
  ·intro hb; (try simp only [decide_eq_true_eq, decide_eq_false_iff_not, Bool.not_eq_true', Bool.not_eq_false', Bool.not_eq_eq_eq_not, Bool.not_true, Bool.not_false, Int.not_lt, Int.not_le] at hb)
   exact absurd hb (by simp [hkH1, hkG1, hkG2, hkW2, hkH2, hkD1, hkD2, hkK, hkB3, hkB1])
 ·intro c Dm w hc hp
  exact hc.elim
end Go.Proofs.Ytdbkmpnknkldlaa
