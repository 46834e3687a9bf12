/- Walks of functions of the program. -/
import Derived.Test.YtdbkmpnknkldlaaHFHis
set_option linter.unusedVariables false
set_option linter.unusedSimpArgs false
namespace Go.Proofs.Ytdbkmpnknkldlaa
open Go.Mo Go.RowKit
set_option maxHeartbeats 1000000 in
theorem his_Of (sv : Value) (m : Nat) (l : List Rec) (a : A32) (t : Int) (w0 : World) (hI : Sl w0 sv 100 m (l.flatMap recC)) (hm : m ≤ 65000) : Does Try.prog 39 #[sv, .agg ⟨bys a.1⟩, .int .i64 t] w0 fun v w' => ∃ hv, v = .agg ⟨hzC hv (hOf l a t)⟩ ∧ Hp w0 [] w' [.row 9 1 hv ((hOf l a t).holds).length (((hOf l a t).holds).map Value.string)] := by
 obtain ⟨A, c, rfl⟩ := sl_shape hI
 have hlm := Sl.recs hI
 have hmle := hI.le
 refine does_ofM (l := [.slice A m c, .agg ⟨bys a.1⟩, .int .i64 t]) Try.func39 (by kernel_rfl) rfl Try.ntmps39 rfl rfl ?_
 have hp := Hp.refl w0 []
 refine GV_seq ?_
 refine GV_of (by kernel_rfl) ?_
 refine GW_region ?_
 refine GL_box (wn_none rfl) rfl rfl rfl rfl hp ?_
 intro g w hp
 refine GL_alloc (wn_none rfl) rfl rfl tz91 rfl hp ?_
 intro g2 w hp
 refine GL_nil ?_
 refine GV_seq ?_
 refine GV_of (by kernel_rfl) ?_
 refine GW_region ?_
 refine GL_alloc (wn_none rfl) rfl rfl tz91 rfl hp ?_
 intro g3 w hp
 refine GL_nil ?_
 refine GV_seq ?_
 refine GV_seq ?_
 refine GV_of (by kernel_rfl) ?_
 refine GW_region ?_
 refine GL_rd (v := .slice _ _ _) (wn_none rfl) rfl (rd_move rfl rfl) ?_
 refine GL_rd (v := .int _ _) (wn_none rfl) rfl (rd_move rfl rfl) ?_
 refine GL_call (wn_none rfl) rfl rfl (his_Until _ m l t _ (hI.keep hp.mod)) rfl ?_
 rintro _ w ⟨ga, gb, rfl, hk⟩
 have hp := hp.comp hk
 refine GL_nil ?_
 refine GV_block ?_
 have hp := hp.nilRow 9 1
 have hp := (((((((hp.front 2 rfl).front 2 rfl).front 2 rfl).front 3 rfl).front 4 rfl).front 5 rfl).take 6)
 refine GV_range1 (α := Rec) (β := Value) (γ := Unit) (fun r : Rec => .agg ⟨recC r⟩) (l.filter (uT t)) (fun q_ z => [cells g 23 (bys a.1), cells g2 91 [.slice none 0 0, .bool false, .int .i64 0, .bool false, .string ⟨#[]⟩, .string ⟨#[]⟩], cells g3 91 (hzC z (hF a q_)), .row 9 1 z ((hF a q_).holds).length (((hF a q_).holds).map Value.string), cells ga 22 [(.slice A m c)], cells gb 3 [.int .i64 t]]) (fun q_ z => True) (fun c => []) (fun c => False) ((OwnU 22 3 (.slice A m c) m l t ga gb)) (.slice none 0 0) rfl (by kernel_rfl) (by kernel_rfl) ((his_Iter _ m l t ga gb)) hp trivial (fun _ _ _ h _ => ⟨h.get 4 rfl, h.get 5 rfl, hI.keep h.mod⟩) ?_ ?_ ?_
 ·intro q_ x s_ z w L1_ D1_ r_ r2_ hxs hz hp
  have hq2 : q_.length < l.length := by have h1 := congrArg List.length hxs; have h2 := List.length_filter_le (uT t) l; simp only [List.length_append, List.length_cons] at h1; omega
  have hq1 := hF_len a q_
  refine GW_region ?_
  refine GL_alloc (wn_none rfl) rfl rfl tz32 rfl hp ?_
  intro g4 w hp
  refine GL_store (i := 0) (wn_none rfl) rfl rfl rfl rfl ts32 rfl (recC_len _) (recC_one _) hp rfl (by first | exact Nat.le_of_ble_eq_true rfl | (rw [recC_len]; decide)) (splice_all _ _ (by first | rw [recC_len, recC_len] | (rw [recC_len]; rfl))) ?_
  intro w hp
  refine GL_nil ?_
  refine ⟨rfl, _, (hp.front 1 rfl), fun w hp => ?_⟩
  refine GW_block ?_
  refine GW_seq ?_
  refine GW_seq ?_
  refine GW_region ?_
  refine GL_rd (wn_none rfl) rfl (rd_field rfl rfl fa32_3 _ rfl) ?_
  refine GL_rd (wn_none rfl) rfl (rd_loadN (L := bys _) rfl rfl Try.underlying23 rfl ts23 (clip_len _) (fun jq u hj => (cell_of_cells (hp.get 1 rfl) _).trans (rec_clip hj))) ?_
  refine GL_rd (wn_none rfl) rfl (rd_loadC rfl rfl Try.underlying23 rfl ts23 (hp.get 3 rfl) (by first | (rw [bys_length]; first | exact a32_len _) | rfl | simp [bys_length, *])) ?_
  refine GL_rd (wn_none rfl) rfl (rd_bin rfl rfl rfl (bo_arrB Try.underlying23 Try.underlying5 ts5 (by kernel_rfl) (by first | exact a32_len _ | simp [*]) (by first | exact a32_len _ | simp [*])).2) ?_
  refine GL_nil ?_
  refine GW_cond rfl (fun hb => ?_) (fun hb => ?_)
  ·(try simp only [decide_eq_true_eq, decide_eq_false_iff_not, Bool.not_eq_true', Bool.not_eq_false', Bool.not_eq_eq_eq_not, Bool.not_true, Bool.not_false, Int.not_lt, Int.not_le] at hb)
   have hne : ¬ x.clip = a := fun e => hb (congrArg Subtype.val e)
   refine GW_exit ?_
   have hp := (((((((((hp.front 8 rfl).front 8 rfl).front 8 rfl).front 8 rfl).front 8 rfl).front 8 rfl).front 8 rfl).front 7 rfl).take 8)
   have e1 := hF_skip (q := q_) hne
   rw [← e1] at hp
   exact ⟨z, trivial, hp⟩
  ·(try simp only [decide_eq_true_eq, decide_eq_false_iff_not, Bool.not_eq_true', Bool.not_eq_false', Bool.not_eq_eq_eq_not, Bool.not_true, Bool.not_false, Int.not_lt, Int.not_le] at hb)
   have heq := a32_ext hb
   refine GW_skip ?_
   refine GW_seq ?_
   refine GW_seq ?_
   refine GW_region ?_
   refine GL_rd (wn_none rfl) rfl (rd_field rfl rfl fa91_3 _ rfl) ?_
   refine GL_rd (wn_none rfl) rfl (rd_load rfl rfl Try.underlying4 rfl ((cell_of_cells (hp.get 5 rfl) _).trans rfl)) ?_
   refine GL_nil ?_
   refine GW_cond rfl (fun hb2 => ?_) (fun hb2 => ?_)
   ·(try simp only [decide_eq_true_eq, decide_eq_false_iff_not, Bool.not_eq_true', Bool.not_eq_false', Bool.not_eq_eq_eq_not, Bool.not_true, Bool.not_false, Int.not_lt, Int.not_le] at hb2)
    have hg : (hF a q_).gone = true := hb2
    refine GW_region ?_
    refine GL_rd (wn_none rfl) rfl (rd_buildS (L := [.slice none 0 0, .bool false, .int .i64 0, .bool false, .string ⟨#[]⟩, .string ⟨#[]⟩]) rfl tz91 pl91 (by kernel_rfl)) ?_
    refine GL_store (i := 5) (wn_none rfl) rfl rfl rfl rfl ts91 rfl rfl (oneC rfl (oneC rfl (oneC rfl (oneC rfl (oneC rfl (oneC rfl one0)))))) hp rfl (by first | exact Nat.le_of_ble_eq_true rfl | simp [bys_length, *]) (show splice _ _ _ = hzC (.slice none 0 0) hzZ from rfl) ?_
    intro w hp
    refine GL_nil ?_
    refine GW_region ?_
    refine GL_rd (wn_none rfl) rfl (rd_loadC rfl rfl Try.underlying91 rfl ts91 (hp.get 5 rfl) (by first | (rw [bys_length]; first | exact a32_len _) | rfl | simp [bys_length, *])) ?_
    refine GL_rd (wn_none rfl) rfl (rd_loadC rfl rfl Try.underlying32 rfl ts32 (hp.get 1 rfl) (recC_len _)) ?_
    have hp := hp.nilRow 9 1
    refine GL_call (wn_none rfl) rfl rfl (his_next (.slice none 0 0) hzZ x _ (hp.get 0 rfl) (by decide)) rfl ?_
    rintro _ w ⟨hv2, rfl, hk⟩
    have hp := hp.turnAtMore 0 rfl hk
    obtain ⟨A2, c2, rfl⟩ := row_shape (hp.get 0 rfl)
    refine GL_store (i := 6) (wn_none rfl) rfl rfl rfl rfl ts91 rfl rfl (oneC rfl (oneC rfl (oneC rfl (oneC rfl (oneC rfl (oneC rfl one0)))))) hp rfl (by first | exact Nat.le_of_ble_eq_true rfl | simp [bys_length, *]) (show splice _ _ _ = hzC (.slice A2 (hNext hzZ x).holds.length c2) (hNext hzZ x) from rfl) ?_
    intro w hp
    refine GL_nil ?_
    have hp := (((((((((hp.front 9 rfl).front 9 rfl).front 2 rfl).front 8 rfl).front 8 rfl).front 8 rfl).front 8 rfl).front 7 rfl).take 8)
    have e1 := hF_back (q := q_) heq hg
    rw [← e1] at hp
    exact ⟨_, trivial, hp⟩
   ·(try simp only [decide_eq_true_eq, decide_eq_false_iff_not, Bool.not_eq_true', Bool.not_eq_false', Bool.not_eq_eq_eq_not, Bool.not_true, Bool.not_false, Int.not_lt, Int.not_le] at hb2)
    have hg : (hF a q_).gone = false := hb2
    refine GW_skip ?_
    refine GW_region ?_
    refine GL_rd (wn_none rfl) rfl (rd_loadC rfl rfl Try.underlying91 rfl ts91 (hp.get 5 rfl) (by first | (rw [bys_length]; first | exact a32_len _) | rfl | simp [bys_length, *])) ?_
    refine GL_rd (wn_none rfl) rfl (rd_loadC rfl rfl Try.underlying32 rfl ts32 (hp.get 1 rfl) (recC_len _)) ?_
    refine GL_call (wn_none rfl) rfl rfl (his_next z (hF a q_) x _ (hp.get 6 rfl) (by omega)) rfl ?_
    rintro _ w ⟨hv2, rfl, hk⟩
    have hp := hp.turnAtMore 6 rfl hk
    obtain ⟨A2, c2, rfl⟩ := row_shape (hp.get 0 rfl)
    refine GL_store (i := 6) (wn_none rfl) rfl rfl rfl rfl ts91 rfl rfl (oneC rfl (oneC rfl (oneC rfl (oneC rfl (oneC rfl (oneC rfl one0)))))) hp rfl (by first | exact Nat.le_of_ble_eq_true rfl | simp [bys_length, *]) (show splice _ _ _ = hzC (.slice A2 (hNext (hF a q_) x).holds.length c2) (hNext (hF a q_) x) from rfl) ?_
    intro w hp
    refine GL_nil ?_
    have hp := (((((((((hp.front 8 rfl).front 8 rfl).front 2 rfl).front 8 rfl).front 8 rfl).front 8 rfl).front 8 rfl).front 7 rfl).take 8)
    have e1 := hF_go (q := q_) heq hg
    rw [← e1] at hp
    exact ⟨_, trivial, hp⟩
 ·intro z Dm w hz hp
  obtain ⟨Az, cz, rfl⟩ := row_shape (hp.get 4 rfl)
  refine GV_of (by kernel_rfl) ?_
  refine GW_seq ?_
  refine GW_region ?_
  refine GL_rd (wn_none rfl) rfl (rd_loadC rfl rfl Try.underlying91 rfl ts91 (hp.get 3 rfl) (by first | (rw [bys_length]; first | exact a32_len _) | rfl | simp [bys_length, *])) ?_
  refine GL_store (i := 2) (wn_none rfl) rfl rfl rfl rfl ts91 rfl rfl (oneC rfl (oneC rfl (oneC rfl (oneC rfl (oneC rfl (oneC rfl one0)))))) hp rfl (by first | exact Nat.le_of_ble_eq_true rfl | simp [bys_length, *]) (show splice _ _ _ = hzC _ (hOf l a t) from rfl) ?_
  intro w hp
  refine GL_nil ?_
  refine GW_ret ?_
  refine (FM_of [Dm] ?_).1
  refine Shut_cons (i := 0) hp rfl fun w hp => ?_
  refine Shut_nil ?_
  have hp2 := ((hp.front 4 rfl).take 1)
  exact ⟨_, res1 Try.results39 (rv_cell rfl rfl Try.underlying91 rfl ts91 rfl (hp.get 2 rfl)), _, rfl, hp2⟩
 ·intro c Dm w hc hp
  exact hc.elim
theorem his_Clips (sv : Value) (m : Nat) (l : List Rec) (w0 : World) (hI : Sl w0 sv 100 m (l.flatMap recC)) (hm : m ≤ 65000) : Does Try.prog 42 #[sv] w0 fun v w' => Hp w0 [] w' [.row 23 32 v ((clipsL l)).length (((clipsL l)).flatMap aC)] := by
 obtain ⟨A, c, rfl⟩ := sl_shape hI
 have hlm := Sl.recs hI
 have hmle := hI.le
 refine does_of (l := [.slice A m c]) Try.func42 (by kernel_rfl) rfl Try.ntmps42 rfl rfl (by kernel_rfl) ?_
 have hp := Hp.refl w0 []
 refine GW_seq ?_
 refine GW_region ?_
 refine GL_rd (v := .slice _ _ _) (wn_none rfl) rfl (rd_assign rfl rfl) ?_
 refine GL_nil ?_
 refine GW_seq ?_
 refine GW_region ?_
 refine GL_rd (v := .slice _ _ _) (wn_none rfl) rfl (rd_assign rfl rfl) ?_
 refine GL_nil ?_
 refine GW_seq ?_
 refine GW_seq ?_
 refine GW_region ?_
 refine GL_rd (v := .slice _ _ _) (wn_none rfl) rfl (rd_move rfl rfl) ?_
 refine GL_rd (wn_none rfl) rfl (rd_len rfl rfl Try.underlying22) ?_
 refine GL_rd (v := .int _ _) (wn_none rfl) rfl (rd_move rfl rfl) ?_
 refine GL_nil ?_
 refine GW_block ?_
 refine GW_loop ?_
 refine Lp_ind (α := Nat × Value) (fun a_0 f_0 w' => match a_0 with | (i, v) => ∃ fz, f_0 = (upd (upd (upd (upd fz 3 (v)) 6 (.slice A m c)) 7 (.int .i64 (m : Int))) 8 (.int .i64 (i : Int))) ∧ Hp w0 [] w' [.row 23 32 v ((clipsL (l.take i))).length (((clipsL (l.take i))).flatMap aC)] ∧ (i ≤ m)) (fun a_0 => match a_0 with | (i, v) => m - i) ?_ (0, .slice none 0 0) _ _ ?_
 ·rintro ⟨i, v⟩ f wz ⟨fz, rfl, hp, hi0⟩ ihL0
  refine Lp_round ?_
  refine GW_seq ?_
  refine GW_region ?_
  refine GL_rd (wn_none rfl) rfl (rd_bin rfl rfl rfl bo_lss) ?_
  refine GL_nil ?_
  refine GW_seq ?_
  refine GW_cond rfl (fun hb => ?_) (fun hb => ?_)
  ·(try simp only [decide_eq_true_eq, decide_eq_false_iff_not, Bool.not_eq_true', Bool.not_eq_false', Bool.not_eq_eq_eq_not, Bool.not_true, Bool.not_false, Int.not_lt, Int.not_le] at hb)
   obtain ⟨gA, bA, rfl⟩ := hI.addr (by rw [flat_length recC_len]; omega)
   refine GW_skip ?_
   refine GW_seq ?_
   refine GW_block ?_
   refine GW_seq ?_
   refine GW_region ?_
   refine GL_rd (wn_none rfl) rfl (rd_indexS (j := i) rfl rfl rfl Try.underlying22 ts32 rfl (by omega) _ rfl) ?_
   refine GL_rd (wn_none rfl) rfl (rd_loadN (L := recC _) rfl rfl Try.underlying32 rfl ts32 (recC_len _) (fun jq u hj => Sl.recE (hI.keep hp.mod) i (by first | omega | assumption | exact Nat.lt_succ_self _) hj)) ?_
   refine GL_alloc (wn_none rfl) rfl rfl tz32 rfl hp ?_
   intro g w hp
   refine GL_store (i := 0) (wn_none rfl) rfl rfl rfl rfl ts32 rfl (recC_len _) (recC_one _) hp rfl (by first | exact Nat.le_of_ble_eq_true rfl | (rw [recC_len]; decide)) (splice_all _ _ (by first | rw [recC_len, recC_len] | (rw [recC_len]; rfl))) ?_
   intro w hp
   refine GL_nil ?_
   refine GW_seq ?_
   refine GW_region ?_
   refine GL_rd (v := v) (wn_none rfl) rfl (rd_move rfl rfl) ?_
   refine GL_rd (wn_none rfl) rfl (rd_field rfl rfl fa32_3 _ rfl) ?_
   refine GL_rd (wn_none rfl) rfl (rd_loadN (L := bys _) rfl rfl Try.underlying23 rfl ts23 (clip_len _) (fun jq u hj => (cell_of_cells (hp.get 0 rfl) _).trans (rec_clip hj))) ?_
   refine GL_call (wn_none rfl) rfl rfl (sl_HasA _ _ (clipsL (l.take i)) (recAt l i).clip _ (Sl.row (hp.get 1 rfl))) rfl ?_
   rintro _ w ⟨rfl, hk⟩
   have hp := hp.comp hk
   refine GL_rd (wn_none rfl) rfl (rd_not rfl rfl) ?_
   refine GL_nil ?_
   refine GW_cond rfl (fun hb2 => ?_) (fun hb2 => ?_)
   ·(try simp only [decide_eq_true_eq, decide_eq_false_iff_not, Bool.not_eq_true', Bool.not_eq_false', Bool.not_eq_eq_eq_not, Bool.not_true, Bool.not_false, Int.not_lt, Int.not_le] at hb2)
    have e1 := clips_new (l := l) (i := i) (by omega) hb2
    refine GW_region ?_
    refine GL_rd (v := v) (wn_none rfl) rfl (rd_move rfl rfl) ?_
    refine GL_rd (wn_none rfl) rfl (rd_field rfl rfl fa32_3 _ rfl) ?_
    refine GL_rd (wn_none rfl) rfl (rd_loadN (L := bys _) rfl rfl Try.underlying23 rfl ts23 (clip_len _) (fun jq u hj => (cell_of_cells (hp.get 0 rfl) _).trans (rec_clip hj))) ?_
    refine GL_lit1 (L := (aC (recAt l i).clip)) (wn_none rfl) rfl rfl rfl rfl Try.underlying65 ts23 tz23 (by kernel_rfl) (aC_len _) hp ?_
    intro g2 w hp
    refine GL_append (i := 2) (wn_none rfl) rfl rfl rfl rfl Try.underlying65 ti23 rfl (by decide) hp rfl (Sl.row (hp.get 0 rfl)) (aC_one _) (by have h1 := clips_len (l.take i); rw [List.length_take] at h1; omega) (by have h1 := clips_len (l.take i); rw [List.length_take] at h1; omega) ?_
    intro v w hp
    rw [adR_snoc, ← e1] at hp
    refine GL_rd (v := v) (wn_none rfl) rfl (rd_assign rfl rfl) ?_
    refine GL_nil ?_
    refine GW_region ?_
    refine GL_rd (wn_none rfl) rfl (rd_bin rfl rfl rfl (bo_add64 (by omega))) ?_
    refine GL_rd (v := .int _ _) (wn_none rfl) rfl (rd_move rfl rfl) ?_
    refine GL_nil ?_
    have hp := ((hp.front 2 rfl).take 1)
    exact ihL0 (i + 1, v) _ _ (by simp only []; omega) ⟨_, slots4 rfl rfl rfl rfl, hp, by omega⟩
   ·(try simp only [decide_eq_true_eq, decide_eq_false_iff_not, Bool.not_eq_true', Bool.not_eq_false', Bool.not_eq_eq_eq_not, Bool.not_true, Bool.not_false, Int.not_lt, Int.not_le] at hb2)
    have e1 := clips_in (l := l) (i := i) (by omega) hb2
    refine GW_skip ?_
    refine GW_region ?_
    refine GL_rd (wn_none rfl) rfl (rd_bin rfl rfl rfl (bo_add64 (by omega))) ?_
    refine GL_rd (v := .int _ _) (wn_none rfl) rfl (rd_move rfl rfl) ?_
    refine GL_nil ?_
    rw [← e1] at hp
    have hp := ((hp.front 1 rfl).take 1)
    exact ihL0 (i + 1, v) _ _ (by simp only []; omega) ⟨_, slots4 rfl rfl rfl rfl, hp, by omega⟩
  ·(try simp only [decide_eq_true_eq, decide_eq_false_iff_not, Bool.not_eq_true', Bool.not_eq_false', Bool.not_eq_eq_eq_not, Bool.not_true, Bool.not_false, Int.not_lt, Int.not_le] at hb)
   refine GW_exit ?_
   refine GW_seq ?_
   refine GW_region ?_
   refine GL_rd (v := v) (wn_none rfl) rfl (rd_move rfl rfl) ?_
   refine GL_rd (v := v) (wn_none rfl) rfl (rd_assign rfl rfl) ?_
   refine GL_nil ?_
   refine GW_ret ?_
   obtain rfl : m = i := by omega
   rw [List.take_of_length_le (by omega)] at hp
   exact ⟨_, res1 Try.results42 (rv_tmp (v := v) rfl rfl), hp⟩
 ·have hp := hp.nilRow 23 32
  refine ⟨_, slots4 rfl rfl rfl rfl, hp, Nat.zero_le _⟩
set_option maxHeartbeats 1000000 in
theorem his_Held (sv : Value) (m : Nat) (l : List Rec) (nm : ByteArray) (t : Int) (w0 : World) (hI : Sl w0 sv 100 m (l.flatMap recC)) (hm : m ≤ 65000) : Does Try.prog 41 #[sv, .string nm, .int .i64 t] w0 fun v w' => Hp w0 [] w' [.row 23 32 v ((heldL l nm t)).length (((heldL l nm t)).flatMap aC)] := by
 obtain ⟨A, c, rfl⟩ := sl_shape hI
 have hlm := Sl.recs hI
 have hmle := hI.le
 have hcl := clips_len l
 refine does_of (l := [.slice A m c, .string nm, .int .i64 t]) Try.func41 (by kernel_rfl) rfl Try.ntmps41 rfl rfl (by kernel_rfl) ?_
 have hp := Hp.refl w0 []
 refine GW_seq ?_
 refine GW_region ?_
 refine GL_rd (v := .slice _ _ _) (wn_none rfl) rfl (rd_assign rfl rfl) ?_
 refine GL_nil ?_
 refine GW_seq ?_
 refine GW_region ?_
 refine GL_rd (v := .slice _ _ _) (wn_none rfl) rfl (rd_assign rfl rfl) ?_
 refine GL_nil ?_
 refine GW_seq ?_
 refine GW_seq ?_
 refine GW_region ?_
 refine GL_rd (v := .slice _ _ _) (wn_none rfl) rfl (rd_move rfl rfl) ?_
 refine GL_call (wn_none rfl) rfl rfl (his_Clips _ m l _ (hI.keep hp.mod) hm) rfl ?_
 intro vc w hk
 have hp := hp.comp hk
 obtain ⟨Ac, cc, rfl⟩ := row_shape (hp.get 0 rfl)
 refine GL_rd (wn_none rfl) rfl (rd_len rfl rfl Try.underlying65) ?_
 refine GL_rd (v := .int _ _) (wn_none rfl) rfl (rd_move rfl rfl) ?_
 refine GL_nil ?_
 refine GW_block ?_
 refine GW_loop ?_
 refine Lp_ind (α := Nat × Value × Option Addr) (fun a_0 f_0 w' => match a_0 with | (i, v, Ac) => ∃ fz, f_0 = (upd (upd (upd (upd (upd (upd (upd fz 0 (.slice A m c)) 1 (.string nm)) 2 (.int .i64 t)) 7 (v)) 12 (.slice Ac (clipsL l).length cc)) 13 (.int .i64 ((clipsL l).length : Int))) 14 (.int .i64 (i : Int))) ∧ Hp w0 [] w' [.row 23 32 v ((((clipsL l).take i).filter (heldB l nm t))).length (((((clipsL l).take i).filter (heldB l nm t))).flatMap aC), .row 23 32 (.slice Ac (clipsL l).length cc) ((clipsL l)).length (((clipsL l)).flatMap aC)] ∧ (i ≤ (clipsL l).length)) (fun a_0 => match a_0 with | (i, v, Ac) => (clipsL l).length - i) ?_ (0, .slice none 0 0, Ac) _ _ ?_
 ·rintro ⟨i, v, Ac⟩ f wz ⟨fz, rfl, hp, hi0⟩ ihL0
  refine Lp_round ?_
  refine GW_seq ?_
  refine GW_region ?_
  refine GL_rd (wn_none rfl) rfl (rd_bin rfl rfl rfl bo_lss) ?_
  refine GL_nil ?_
  refine GW_seq ?_
  refine GW_cond rfl (fun hb => ?_) (fun hb => ?_)
  ·(try simp only [decide_eq_true_eq, decide_eq_false_iff_not, Bool.not_eq_true', Bool.not_eq_false', Bool.not_eq_eq_eq_not, Bool.not_true, Bool.not_false, Int.not_lt, Int.not_le] at hb)
   obtain ⟨gC, bC, rfl⟩ := (Sl.row (hp.get 1 rfl)).addr (by rw [flat_length aC_len]; omega)
   refine GW_skip ?_
   refine GW_seq ?_
   refine GW_block ?_
   refine GW_seq ?_
   refine GW_region ?_
   refine GL_rd (wn_none rfl) rfl (rd_indexS (j := i) rfl rfl rfl Try.underlying65 ts23 rfl (by omega) _ rfl) ?_
   refine GL_rd (wn_none rfl) rfl (rd_loadN (L := bys (adA (clipsL l) i).1) rfl rfl Try.underlying23 rfl ts23 (aC_len _) (fun j u hj => (Sl.row (hp.get 1 rfl)).elem aC_len i j (aC_lt hj) (adA_some (l := (clipsL l)) (i := i) (by omega)) hj)) ?_
   refine GL_alloc (wn_none rfl) rfl rfl tz23 rfl hp ?_
   intro g w hp
   refine GL_store (i := 0) (wn_none rfl) rfl rfl rfl rfl ts23 rfl (by rw [bys_length]; first | exact a32_len _ | rfl | simp [*]) (bys_one _) hp rfl (by first | exact Nat.le_of_ble_eq_true rfl | (simp only [bys_length, a32_len]; omega)) (splice_all _ _ (by first | (rw [bys_length, List.length_replicate]; first | exact a32_len _) | (rw [bys_length]; first | exact a32_len _) | (rw [bys_length]; rfl) | simp [bys_length, a32_len, *])) ?_
   intro w hp
   refine GL_nil ?_
   refine GW_seq ?_
   refine GW_region ?_
   refine GL_rd (v := .slice _ _ _) (wn_none rfl) rfl (rd_move rfl rfl) ?_
   refine GL_rd (wn_none rfl) rfl (rd_loadC rfl rfl Try.underlying23 rfl ts23 (hp.get 0 rfl) (by first | (rw [bys_length]; first | exact a32_len _) | rfl | simp [bys_length, *])) ?_
   refine GL_rd (v := .int _ _) (wn_none rfl) rfl (rd_move rfl rfl) ?_
   refine GL_call (wn_none rfl) rfl rfl (his_Of _ m l (adA (clipsL l) i) t _ (hI.keep hp.mod) hm) rfl ?_
   rintro _ w ⟨hv, rfl, hk⟩
   have hp := hp.comp hk
   obtain ⟨Ah, ch, rfl⟩ := row_shape (hp.get 0 rfl)
   refine GL_alloc (wn_none rfl) rfl rfl tz91 rfl hp ?_
   intro g2 w hp
   refine GL_store (i := 0) (wn_none rfl) rfl rfl rfl rfl ts91 rfl rfl (oneC rfl (oneC rfl (oneC rfl (oneC rfl (oneC rfl (oneC rfl one0)))))) hp rfl (by first | exact Nat.le_of_ble_eq_true rfl | simp [bys_length, *]) (show splice _ _ _ = hzC _ (hOf l (adA (clipsL l) i) t) from rfl) ?_
   intro w hp
   refine GL_nil ?_
   refine GW_seq ?_
   refine GW_region ?_
   refine GL_rd (wn_none rfl) rfl (rd_field rfl rfl fa91_3 _ rfl) ?_
   refine GL_rd (wn_none rfl) rfl (rd_load rfl rfl Try.underlying4 rfl ((cell_of_cells (hp.get 0 rfl) _).trans rfl)) ?_
   refine GL_rd (wn_none rfl) rfl (rd_not rfl rfl) ?_
   refine GL_rd (v := .bool _) (wn_none rfl) rfl (rd_move rfl rfl) ?_
   refine GL_split (t := 25) (b := _) rfl ?_ ?_
   ·intro hb2; (try simp only [decide_eq_true_eq, decide_eq_false_iff_not, Bool.not_eq_true', Bool.not_eq_false', Bool.not_eq_eq_eq_not, Bool.not_true, Bool.not_false, Int.not_lt, Int.not_le] at hb2)
    have hg : (hOf l (adA (clipsL l) i) t).gone = false := by simpa using hb2
    refine GL_rd (wn_on rfl rfl rfl rfl) rfl (rd_field rfl rfl fa91_0 _ rfl) ?_
    refine GL_rd (v := .slice _ _ _) (wn_on rfl rfl rfl rfl) rfl (rd_load rfl rfl Try.underlying29 rfl ((cell_of_cells (hp.get 0 rfl) _).trans rfl)) ?_
    refine GL_rd (v := .string _) (wn_on rfl rfl rfl rfl) rfl (rd_move rfl rfl) ?_
    refine GL_call (wn_on rfl rfl rfl rfl) rfl rfl (sl_HasS _ _ (hOf l (adA (clipsL l) i) t).holds nm _ (Sl.row (hp.get 1 rfl))) rfl ?_
    rintro _ w ⟨rfl, hk⟩
    have hp := hp.comp hk
    refine GL_rd (v := .bool _) (wn_none rfl) rfl (rd_pickT rfl rfl rfl) ?_
    refine GL_nil ?_
    refine GW_cond rfl (fun hb3 => ?_) (fun hb3 => ?_)
    ·(try simp only [decide_eq_true_eq, decide_eq_false_iff_not, Bool.not_eq_true', Bool.not_eq_false', Bool.not_eq_eq_eq_not, Bool.not_true, Bool.not_false, Int.not_lt, Int.not_le] at hb3)
     have hin : nm ∈ (hOf l (adA (clipsL l) i) t).holds := hb3
     have e1 := filt_yes (p := heldB l nm t) (adA_some (l := clipsL l) (i := i) (by omega)) (by rw [heldB, hg, decide_eq_true hin]; rfl)
     refine GW_region ?_
     refine GL_rd (v := v) (wn_none rfl) rfl (rd_move rfl rfl) ?_
     refine GL_rd (wn_none rfl) rfl (rd_loadC rfl rfl Try.underlying23 rfl ts23 (hp.get 2 rfl) (by first | (rw [bys_length]; first | exact a32_len _) | rfl | simp [bys_length, *])) ?_
     refine GL_lit1 (L := (aC (adA (clipsL l) i))) (wn_none rfl) rfl rfl rfl rfl Try.underlying65 ts23 tz23 (by kernel_rfl) (aC_len _) hp ?_
     intro g3 w hp
     refine GL_append (i := 4) (wn_none rfl) rfl rfl rfl rfl Try.underlying65 ti23 rfl (by decide) hp rfl (Sl.row (hp.get 0 rfl)) (aC_one _) (by have h1 := List.length_filter_le (heldB l nm t) ((clipsL l).take i); rw [List.length_take] at h1; omega) (by have h1 := List.length_filter_le (heldB l nm t) ((clipsL l).take i); rw [List.length_take] at h1; omega) ?_
     intro v w hp
     rw [adR_snoc, ← e1] at hp
     refine GL_rd (v := v) (wn_none rfl) rfl (rd_assign rfl rfl) ?_
     refine GL_nil ?_
     refine GW_region ?_
     refine GL_rd (wn_none rfl) rfl (rd_bin rfl rfl rfl (bo_add64 (by omega))) ?_
     refine GL_rd (v := .int _ _) (wn_none rfl) rfl (rd_move rfl rfl) ?_
     refine GL_nil ?_
     have hp := (((hp.front 5 rfl).front 5 rfl).take 2)
     exact ihL0 (i + 1, v, _) _ _ (by simp only []; omega) ⟨_, slots7 rfl rfl rfl rfl rfl rfl rfl, hp, by omega⟩
    ·(try simp only [decide_eq_true_eq, decide_eq_false_iff_not, Bool.not_eq_true', Bool.not_eq_false', Bool.not_eq_eq_eq_not, Bool.not_true, Bool.not_false, Int.not_lt, Int.not_le] at hb3)
     have hin : ¬ nm ∈ (hOf l (adA (clipsL l) i) t).holds := hb3
     refine GW_skip ?_
     refine GW_region ?_
     refine GL_rd (wn_none rfl) rfl (rd_bin rfl rfl rfl (bo_add64 (by omega))) ?_
     refine GL_rd (v := .int _ _) (wn_none rfl) rfl (rd_move rfl rfl) ?_
     refine GL_nil ?_
     have e1 := filt_none (p := heldB l nm t) (adA_some (l := clipsL l) (i := i) (by omega)) (by rw [heldB, hg, decide_eq_false hin]; rfl)
     rw [← e1] at hp
     have hp := (((hp.front 4 rfl).front 4 rfl).take 2)
     exact ihL0 (i + 1, v, _) _ _ (by simp only []; omega) ⟨_, slots7 rfl rfl rfl rfl rfl rfl rfl, hp, by omega⟩
   ·intro hb2; (try simp only [decide_eq_true_eq, decide_eq_false_iff_not, Bool.not_eq_true', Bool.not_eq_false', Bool.not_eq_eq_eq_not, Bool.not_true, Bool.not_false, Int.not_lt, Int.not_le] at hb2)
    have hg : (hOf l (adA (clipsL l) i) t).gone = true := by simpa using hb2
    refine GL_pass (nw_off rfl rfl rfl rfl rfl) rfl ?_
    refine GL_pass (nw_off rfl rfl rfl rfl rfl) rfl ?_
    refine GL_pass (nw_off rfl rfl rfl rfl rfl) rfl ?_
    refine GL_pass (nw_off rfl rfl rfl rfl rfl) rfl ?_
    refine GL_rd (v := .bool _) (wn_none rfl) rfl (rd_pickF rfl rfl rfl) ?_
    refine GL_nil ?_
    refine GW_false rfl ?_
    refine GW_skip ?_
    refine GW_region ?_
    refine GL_rd (wn_none rfl) rfl (rd_bin rfl rfl rfl (bo_add64 (by omega))) ?_
    refine GL_rd (v := .int _ _) (wn_none rfl) rfl (rd_move rfl rfl) ?_
    refine GL_nil ?_
    have e1 := filt_none (p := heldB l nm t) (adA_some (l := clipsL l) (i := i) (by omega)) (by rw [heldB, hg]; rfl)
    rw [← e1] at hp
    have hp := (((hp.front 4 rfl).front 4 rfl).take 2)
    exact ihL0 (i + 1, v, _) _ _ (by simp only []; omega) ⟨_, slots7 rfl rfl rfl rfl rfl rfl rfl, hp, by omega⟩
  ·(try simp only [decide_eq_true_eq, decide_eq_false_iff_not, Bool.not_eq_true', Bool.not_eq_false', Bool.not_eq_eq_eq_not, Bool.not_true, Bool.not_false, Int.not_lt, Int.not_le] at hb)
   refine GW_exit ?_
   refine GW_seq ?_
   refine GW_region ?_
   refine GL_rd (v := v) (wn_none rfl) rfl (rd_move rfl rfl) ?_
   refine GL_rd (v := v) (wn_none rfl) rfl (rd_assign rfl rfl) ?_
   refine GL_nil ?_
   refine GW_ret ?_
   obtain rfl : i = (clipsL l).length := by omega
   rw [List.take_length] at hp
   have hp := ((hp.front 0 rfl).take 1)
   exact ⟨_, res1 Try.results41 (rv_tmp (v := v) rfl rfl), hp⟩
 ·have hp := hp.nilRow 23 32
  refine ⟨_, slots7 rfl rfl rfl rfl rfl rfl rfl, hp, Nat.zero_le _⟩
end Go.Proofs.Ytdbkmpnknkldlaa
