/- Walks of functions of the program. -/
import Derived.Test.YtdbkmpnknkldlaaHFHis
import Derived.Test.YtdbkmpnknkldlaaHHisW
set_option linter.unusedVariables false
set_option linter.unusedSimpArgs false
namespace Go.Proofs.Ytdbkmpnknkldlaa
open Go.Mo Go.RowKit
theorem sl_SortS {w : World} {n : Nat} {v : Value} {l : List ByteArray} (hr : (Res.row 9 1 v n (l.map Value.string)).at_ w) (hl : l.length ≤ 65535) : Does Try.prog 43 #[v] w fun _ w' => Hp w v.ownBlock.toList w' [.row 9 1 v n ((sortS l).map Value.string)] := sort_does ⟨Try.f43, Try.func43, by kernel_rfl, by kernel_rfl⟩ Go.Proofs.Try.slices_Sort_string Go.Proofs.Try.slices_Sort_string_none hr hl
theorem sl_CompactS {w : World} {n : Nat} {v : Value} {l : List ByteArray} (hr : (Res.row 9 1 v n (l.map Value.string)).at_ w) : Does Try.prog 44 #[v] w fun v' w' => Hp w v.ownBlock.toList w' [.row 9 1 v' (compactS l).length ((compactS l).map Value.string)] := compact_does ⟨Try.f44, Try.func44, by kernel_rfl, by kernel_rfl⟩ Go.Proofs.Try.slices_Compact_string Go.Proofs.Try.slices_Compact_string_empty hr
theorem his_held (A : Option Addr) (c : Nat) (s : HS) (w0 : World) : Does Try.prog 45 #[.agg ⟨hzC (.slice A s.holds.length c) s⟩] w0 fun v w' => v = .bool (heldH s) ∧ Hp w0 [] w' [] := by
 refine does_of (l := [.agg ⟨hzC (.slice A s.holds.length c) s⟩]) Try.func45 (by kernel_rfl) rfl Try.ntmps45 rfl rfl (by kernel_rfl) ?_
 have hp := Hp.refl w0 []
 refine GW_seq ?_
 refine GW_region ?_
 refine GL_box (wn_none rfl) rfl rfl rfl rfl hp ?_
 intro g w hp
 refine GL_rd (v := .bool _) (wn_none rfl) rfl (rd_assign rfl rfl) ?_
 refine GL_nil ?_
 refine GW_seq ?_
 refine GW_region ?_
 refine GL_rd (wn_none rfl) rfl (rd_field rfl rfl fa91_0 _ rfl) ?_
 refine GL_rd (v := .slice _ _ _) (wn_none rfl) rfl (rd_load rfl rfl Try.underlying29 rfl ((cell_of_cells (hp.get 0 rfl) _).trans rfl)) ?_
 refine GL_rd (wn_none rfl) rfl (rd_len rfl rfl Try.underlying29) ?_
 refine GL_rd (wn_none rfl) rfl (rd_bin rfl rfl rfl bo_gtr) ?_
 refine GL_rd (v := .bool _) (wn_none rfl) rfl (rd_move rfl rfl) ?_
 refine GL_split (t := 7) (b := _) rfl ?_ ?_
 ·intro hb; (try simp only [decide_eq_true_eq, decide_eq_false_iff_not, Bool.not_eq_true', Bool.not_eq_false', Bool.not_eq_eq_eq_not, Bool.not_true, Bool.not_false, Int.not_lt, Int.not_le] at hb)
  have h1 := hb
  refine GL_rd (wn_on rfl rfl rfl rfl) rfl (rd_field rfl rfl fa91_3 _ rfl) ?_
  refine GL_rd (wn_on rfl rfl rfl rfl) rfl (rd_load rfl rfl Try.underlying4 rfl ((cell_of_cells (hp.get 0 rfl) _).trans rfl)) ?_
  refine GL_rd (wn_on rfl rfl rfl rfl) rfl (rd_not rfl rfl) ?_
  refine GL_rd (v := .bool _) (wn_none rfl) rfl (rd_pickT rfl rfl rfl) ?_
  refine GL_rd (v := .bool _) (wn_none rfl) rfl (rd_assign rfl rfl) ?_
  refine GL_nil ?_
  refine GW_ret ?_
  have e : heldH s = !s.gone := by rw [heldH, decide_eq_true (show 0 < s.holds.length by omega)]; rfl
  exact ⟨_, res1 Try.results45 (rv_tmp (v := .bool _) rfl rfl), by rw [e], hp.mods⟩
 ·intro hb; (try simp only [decide_eq_true_eq, decide_eq_false_iff_not, Bool.not_eq_true', Bool.not_eq_false', Bool.not_eq_eq_eq_not, Bool.not_true, Bool.not_false, Int.not_lt, Int.not_le] at hb)
  have h1 := hb
  refine GL_pass (nw_off rfl rfl rfl rfl rfl) rfl ?_
  refine GL_pass (nw_off rfl rfl rfl rfl rfl) rfl ?_
  refine GL_pass (nw_off rfl rfl rfl rfl rfl) rfl ?_
  refine GL_rd (v := .bool _) (wn_none rfl) rfl (rd_pickF rfl rfl rfl) ?_
  refine GL_rd (v := .bool _) (wn_none rfl) rfl (rd_assign rfl rfl) ?_
  refine GL_nil ?_
  refine GW_ret ?_
  have e : heldH s = false := by rw [heldH, decide_eq_false (show ¬ 0 < s.holds.length by omega)]; rfl
  exact ⟨_, res1 Try.results45 (rv_tmp (v := .bool _) rfl rfl), by rw [e], hp.mods⟩
set_option maxHeartbeats 1000000 in
theorem his_Span (sv : Value) (m : Nat) (l : List Rec) (a : A32) (t : Int) (w0 : World) (hI : Sl w0 sv 100 m (l.flatMap recC)) (hm : m ≤ 1000) (hT : ∀ r ∈ l, 0 ≤ r.time ∧ r.time ≤ 1099511627776) (ht0 : 0 ≤ t ∧ t ≤ 1099511627776) : Does Try.prog 14 #[sv, .agg ⟨bys a.1⟩, .int .i64 t] w0 fun v w' => v = .int .i64 (spanL l a t) ∧ Hp w0 [] w' [] := by
 obtain ⟨A, c, rfl⟩ := sl_shape hI
 have hlm := Sl.recs hI
 have hmle := hI.le
 refine does_ofM (l := [.slice A m c, .agg ⟨bys a.1⟩, .int .i64 t]) Try.func14 (by kernel_rfl) rfl Try.ntmps14 rfl rfl ?_
 have hp := Hp.refl w0 []
 refine GV_seq ?_
 refine GV_of (by kernel_rfl) ?_
 refine GW_region ?_
 refine GL_box (wn_none rfl) rfl rfl rfl rfl hp ?_
 intro g w hp
 refine GL_rd (v := .int _ _) (wn_none rfl) rfl (rd_assign rfl rfl) ?_
 refine GL_nil ?_
 refine GV_seq ?_
 refine GV_of (by kernel_rfl) ?_
 refine GW_region ?_
 refine GL_alloc (wn_none rfl) rfl rfl tz91 rfl hp ?_
 intro g2 w hp
 refine GL_nil ?_
 refine GV_seq ?_
 refine GV_of (by kernel_rfl) ?_
 refine GW_region ?_
 refine GL_alloc (wn_none rfl) rfl rfl tz3 rfl hp ?_
 intro g3 w hp
 refine GL_alloc (wn_none rfl) rfl rfl tz3 rfl hp ?_
 intro g4 w hp
 refine GL_store (i := 1) (wn_none rfl) rfl rfl rfl rfl ts3 rfl rfl (one1 rfl) hp rfl (by first | exact Nat.le_of_ble_eq_true rfl | simp [bys_length, *]) rfl ?_
 intro w hp
 refine GL_store (i := 0) (wn_none rfl) rfl rfl rfl rfl ts3 rfl rfl (one1 rfl) hp rfl (by first | exact Nat.le_of_ble_eq_true rfl | simp [bys_length, *]) rfl ?_
 intro w hp
 refine GL_nil ?_
 refine GV_seq ?_
 refine GV_seq ?_
 refine GV_of (by kernel_rfl) ?_
 refine GW_region ?_
 refine GL_rd (v := .slice _ _ _) (wn_none rfl) rfl (rd_move rfl rfl) ?_
 refine GL_rd (v := .int _ _) (wn_none rfl) rfl (rd_move rfl rfl) ?_
 refine GL_call (wn_none rfl) rfl rfl (his_Until _ m l t _ (hI.keep hp.mod)) rfl ?_
 rintro _ w ⟨ga, gb, rfl, hk⟩
 have hp := hp.comp hk
 refine GL_nil ?_
 refine GV_block ?_
 have hp := hp.nilRow 9 1
 have hp := ((((((((hp.front 2 rfl).front 2 rfl).front 2 rfl).front 3 rfl).front 4 rfl).front 5 rfl).front 6 rfl).take 7)
 refine GV_range1 (α := Rec) (β := Value) (γ := Unit) (fun r : Rec => .agg ⟨recC r⟩) (l.filter (uT t)) (fun q_ z => [cells g 23 (bys a.1), cells g2 91 (hzC z (hF a q_)), cells g3 3 [.int .i64 (nF a q_)], cells g4 3 [.int .i64 (lastF a q_)], .row 9 1 z ((hF a q_).holds).length (((hF a q_).holds).map Value.string), cells ga 22 [(.slice A m c)], cells gb 3 [.int .i64 t]]) (fun q_ z => True) (fun c => []) (fun c => False) ((OwnU 22 3 (.slice A m c) m l t ga gb)) (.slice none 0 0) rfl (by kernel_rfl) (by kernel_rfl) ((his_Iter _ m l t ga gb)) hp trivial (fun _ _ _ h _ => ⟨h.get 5 rfl, h.get 6 rfl, hI.keep h.mod⟩) ?_ ?_ ?_
 ·intro q_ x s_ z w L1_ D1_ r_ r2_ hxs hz hp
  have hq2 : q_.length < l.length := by have h1 := congrArg List.length hxs; have h2 := List.length_filter_le (uT t) l; simp only [List.length_append, List.length_cons] at h1; omega
  have hq1 := hF_len a q_
  have hqt : ∀ r ∈ q_ ++ x :: s_, 0 ≤ r.time ∧ r.time ≤ 1099511627776 := fun r hr => hT r (List.mem_filter.1 (hxs ▸ hr)).1
  have hsb := sp_bounds (a := a) (q := q_) (fun r hr => hqt r (List.mem_append_left _ hr))
  have hxb := hqt x (by simp)
  obtain ⟨Az, cz, rfl⟩ := row_shape (hp.get 6 rfl)
  refine GW_region ?_
  refine GL_alloc (wn_none rfl) rfl rfl tz32 rfl hp ?_
  intro g5 w hp
  refine GL_store (i := 0) (wn_none rfl) rfl rfl rfl rfl ts32 rfl (recC_len _) (recC_one _) hp rfl (by first | exact Nat.le_of_ble_eq_true rfl | (rw [recC_len]; decide)) (splice_all _ _ (by first | rw [recC_len, recC_len] | (rw [recC_len]; rfl))) ?_
  intro w hp
  refine GL_nil ?_
  refine ⟨rfl, _, (hp.front 1 rfl), fun w hp => ?_⟩
  refine GW_block ?_
  refine GW_seq ?_
  refine GW_seq ?_
  refine GW_region ?_
  refine GL_rd (wn_none rfl) rfl (rd_field rfl rfl fa32_3 _ rfl) ?_
  refine GL_rd (wn_none rfl) rfl (rd_loadN (L := bys _) rfl rfl Try.underlying23 rfl ts23 (clip_len _) (fun jq u hj => (cell_of_cells (hp.get 1 rfl) _).trans (rec_clip hj))) ?_
  refine GL_rd (wn_none rfl) rfl (rd_loadC rfl rfl Try.underlying23 rfl ts23 (hp.get 3 rfl) (by first | (rw [bys_length]; first | exact a32_len _) | rfl | simp [bys_length, *])) ?_
  refine GL_rd (wn_none rfl) rfl (rd_bin rfl rfl rfl (bo_arrB Try.underlying23 Try.underlying5 ts5 (by kernel_rfl) (by first | exact a32_len _ | simp [*]) (by first | exact a32_len _ | simp [*])).2) ?_
  refine GL_nil ?_
  refine GW_cond rfl (fun hb => ?_) (fun hb => ?_)
  ·(try simp only [decide_eq_true_eq, decide_eq_false_iff_not, Bool.not_eq_true', Bool.not_eq_false', Bool.not_eq_eq_eq_not, Bool.not_true, Bool.not_false, Int.not_lt, Int.not_le] at hb)
   have hne : ¬ x.clip = a := fun e => hb (congrArg Subtype.val e)
   refine GW_exit ?_
   have hp := ((((((((((hp.front 9 rfl).front 9 rfl).front 9 rfl).front 9 rfl).front 9 rfl).front 9 rfl).front 9 rfl).front 9 rfl).front 8 rfl).take 9)
   have e1 := hF_skip (q := q_) hne
   have e2 := sp_skip (q := q_) hne
   rw [← e1, ← e2.1, ← e2.2] at hp
   exact ⟨_, trivial, hp⟩
  ·(try simp only [decide_eq_true_eq, decide_eq_false_iff_not, Bool.not_eq_true', Bool.not_eq_false', Bool.not_eq_eq_eq_not, Bool.not_true, Bool.not_false, Int.not_lt, Int.not_le] at hb)
   have heq := a32_ext hb
   refine GW_skip ?_
   refine GW_seq ?_
   refine GW_seq ?_
   refine GW_region ?_
   refine GL_rd (wn_none rfl) rfl (rd_loadC rfl rfl Try.underlying91 rfl ts91 (hp.get 4 rfl) (by first | (rw [bys_length]; first | exact a32_len _) | rfl | simp [bys_length, *])) ?_
   refine GL_call (wn_none rfl) rfl rfl (his_held _ _ (hF a q_) _) rfl ?_
   rintro _ w ⟨rfl, hk⟩
   have hp := hp.comp hk
   refine GL_nil ?_
   refine GW_cond rfl (fun hb2 => ?_) (fun hb2 => ?_)
   ·(try simp only [decide_eq_true_eq, decide_eq_false_iff_not, Bool.not_eq_true', Bool.not_eq_false', Bool.not_eq_eq_eq_not, Bool.not_true, Bool.not_false, Int.not_lt, Int.not_le] at hb2)
    have hh : heldH (hF a q_) = true := hb2
    refine GW_region ?_
    refine GL_rd (wn_none rfl) rfl (rd_load rfl rfl Try.underlying3 rfl ((cell_of_cells (hp.get 5 rfl) _).trans rfl)) ?_
    refine GL_rd (wn_none rfl) rfl (rd_field rfl rfl fa32_1 _ rfl) ?_
    refine GL_rd (wn_none rfl) rfl (rd_load rfl rfl Try.underlying3 rfl ((cell_of_cells (hp.get 1 rfl) _).trans (rec_time _))) ?_
    refine GL_rd (wn_none rfl) rfl (rd_load rfl rfl Try.underlying3 rfl ((cell_of_cells (hp.get 6 rfl) _).trans rfl)) ?_
    refine GL_rd (wn_none rfl) rfl (rd_bin rfl rfl rfl (bo_sub64 (by omega))) ?_
    refine GL_rd (wn_none rfl) rfl (rd_bin rfl rfl rfl (bo_add64 (by omega))) ?_
    refine GL_store (i := 5) (wn_none rfl) rfl rfl rfl rfl ts3 rfl rfl (one1 rfl) hp rfl (by first | exact Nat.le_of_ble_eq_true rfl | simp [bys_length, *]) rfl ?_
    intro w hp
    refine GL_nil ?_
    refine GW_seq ?_
    refine GW_seq ?_
    refine GW_region ?_
    refine GL_rd (wn_none rfl) rfl (rd_field rfl rfl fa91_3 _ rfl) ?_
    refine GL_rd (wn_none rfl) rfl (rd_load rfl rfl Try.underlying4 rfl ((cell_of_cells (hp.get 4 rfl) _).trans rfl)) ?_
    refine GL_nil ?_
    refine GW_cond rfl (fun hb3 => ?_) (fun hb3 => ?_)
    ·(try simp only [decide_eq_true_eq, decide_eq_false_iff_not, Bool.not_eq_true', Bool.not_eq_false', Bool.not_eq_eq_eq_not, Bool.not_true, Bool.not_false, Int.not_lt, Int.not_le] at hb3)
     have hg : (hF a q_).gone = true := hb3
     refine GW_region ?_
     refine GL_rd (wn_none rfl) rfl (rd_buildS (L := [.slice none 0 0, .bool false, .int .i64 0, .bool false, .string ⟨#[]⟩, .string ⟨#[]⟩]) rfl tz91 pl91 (by kernel_rfl)) ?_
     refine GL_store (i := 4) (wn_none rfl) rfl rfl rfl rfl ts91 rfl rfl (oneC rfl (oneC rfl (oneC rfl (oneC rfl (oneC rfl (oneC rfl one0)))))) hp rfl (by first | exact Nat.le_of_ble_eq_true rfl | simp [bys_length, *]) (show splice _ _ _ = hzC (.slice none 0 0) hzZ from rfl) ?_
     intro w hp
     refine GL_nil ?_
     refine GW_drawnK 7 (.one 1 true (.one 3 true (.one 4 true (.one 0 false (.one 2 false (.one 5 false (.one 6 false .nil))))))) mixed (by kernel_rfl) hp (fun _ h => (h.sub (.cons _ (.cons_cons _ (.cons _ (.cons _ (.cons _ (.cons _ (.cons _ (.cons _ (.cons _ (.cons _ .slnil)))))))))))) fun w hp => ?_
     have hpS := (hp.sub (.cons _ (.cons_cons _ (.cons _ (.cons _ (.cons _ (.cons _ (.cons _ (.cons _ (.cons _ (.cons _ .slnil)))))))))))
     refine GO_rd rfl rfl (wn_none rfl) rfl hpS (fun w hp => (rd_loadC rfl rfl Try.underlying32 rfl ts32 (hp.get 0 rfl) (recC_len _))) ?_
     refine GO_rdT rfl (wn_none rfl) rfl (fun w => (rd_field rfl rfl fa32_1 _ rfl)) ?_
     refine GO_rd rfl rfl (wn_none rfl) rfl hpS (fun w hp => (rd_load rfl rfl Try.underlying3 rfl ((cell_of_cells (hp.get 0 rfl) _).trans (rec_time _)))) ?_
     refine GO_of_GL rfl ?_
     refine GL_rd (wn_none rfl) rfl (rd_loadC rfl rfl Try.underlying91 rfl ts91 (hp.get 4 rfl) (by first | (rw [bys_length]; first | exact a32_len _) | rfl | simp [bys_length, *])) (GL_nil ⟨fun _ => hpS, ?_⟩)
     have hp := hp.nilRow 9 1
     refine GO_of_GL rfl ?_
     refine GL_call (wn_none rfl) rfl rfl (his_next _ hzZ x _ (hp.get 0 rfl) (by decide)) rfl ?_
     rintro _ w ⟨hv2, rfl, hk⟩
     have hp := hp.turnAtMore 0 rfl hk
     obtain ⟨A2, c2, rfl⟩ := row_shape (hp.get 0 rfl)
     have hpS2 := (hp.sub (.cons _ (.cons _ (.cons_cons _ (.cons _ (.cons _ (.cons _ (.cons _ (.cons _ (.cons _ (.cons _ (.cons _ .slnil))))))))))))
     refine GL_nil ⟨fun _ => hpS2, ?_⟩
     refine GO_of_GL rfl ?_
     refine GL_store (i := 5) (wn_none rfl) rfl rfl rfl rfl ts91 rfl rfl (oneC rfl (oneC rfl (oneC rfl (oneC rfl (oneC rfl (oneC rfl one0)))))) hp rfl (by first | exact Nat.le_of_ble_eq_true rfl | simp [bys_length, *]) (show splice _ _ _ = hzC (.slice A2 (hNext hzZ x).holds.length c2) (hNext hzZ x) from rfl) ?_
     intro w hp
     have hpS3 := (hp.sub (.cons _ (.cons _ (.cons_cons _ (.cons _ (.cons _ (.cons _ (.cons _ (.cons _ (.cons _ (.cons _ (.cons _ .slnil))))))))))))
     refine GL_nil ⟨fun _ => hpS3, ?_⟩
     refine GO_of_GL rfl ?_
     refine GL_store (i := 7) (wn_none rfl) rfl rfl rfl rfl ts3 rfl rfl (one1 rfl) hp rfl (by first | exact Nat.le_of_ble_eq_true rfl | simp [bys_length, *]) rfl ?_
     intro w hp
     have hpS4 := (hp.sub (.cons _ (.cons _ (.cons_cons _ (.cons _ (.cons _ (.cons _ (.cons _ (.cons _ (.cons _ (.cons _ (.cons _ .slnil))))))))))))
     refine GL_nil ⟨fun _ => hpS4, ?_⟩
     refine GO_nil ?_
     have hp := ((((((((((hp.front 10 rfl).front 10 rfl).front 2 rfl).front 9 rfl).front 9 rfl).front 9 rfl).front 9 rfl).front 9 rfl).front 8 rfl).take 9)
     have e1 := hF_back (q := q_) heq hg
     have e2 := sp_held (q := q_) heq hh
     have e3 := sp_last (q := q_) heq
     rw [← e1, ← e2, ← e3] at hp
     exact ⟨_, trivial, hp⟩
    ·(try simp only [decide_eq_true_eq, decide_eq_false_iff_not, Bool.not_eq_true', Bool.not_eq_false', Bool.not_eq_eq_eq_not, Bool.not_true, Bool.not_false, Int.not_lt, Int.not_le] at hb3)
     have hg : (hF a q_).gone = false := hb3
     refine GW_skip ?_
     refine GW_drawnK 7 (.one 1 true (.one 3 true (.one 4 true (.one 0 false (.one 2 false (.one 5 false (.one 6 false .nil))))))) mixed (by kernel_rfl) hp (fun _ h => (h.sub (.cons _ (.cons_cons _ (.cons _ (.cons _ (.cons _ (.cons _ (.cons _ (.cons _ (.cons _ (.cons _ .slnil)))))))))))) fun w hp => ?_
     have hpS5 := (hp.sub (.cons _ (.cons_cons _ (.cons _ (.cons _ (.cons _ (.cons _ (.cons _ (.cons _ (.cons _ (.cons _ .slnil)))))))))))
     refine GO_rd rfl rfl (wn_none rfl) rfl hpS5 (fun w hp => (rd_loadC rfl rfl Try.underlying32 rfl ts32 (hp.get 0 rfl) (recC_len _))) ?_
     refine GO_rdT rfl (wn_none rfl) rfl (fun w => (rd_field rfl rfl fa32_1 _ rfl)) ?_
     refine GO_rd rfl rfl (wn_none rfl) rfl hpS5 (fun w hp => (rd_load rfl rfl Try.underlying3 rfl ((cell_of_cells (hp.get 0 rfl) _).trans (rec_time _)))) ?_
     refine GO_of_GL rfl ?_
     refine GL_rd (wn_none rfl) rfl (rd_loadC rfl rfl Try.underlying91 rfl ts91 (hp.get 4 rfl) (by first | (rw [bys_length]; first | exact a32_len _) | rfl | simp [bys_length, *])) (GL_nil ⟨fun _ => hpS5, ?_⟩)
     refine GO_of_GL rfl ?_
     refine GL_call (wn_none rfl) rfl rfl (his_next _ (hF a q_) x _ (hp.get 7 rfl) (by omega)) rfl ?_
     rintro _ w ⟨hv2, rfl, hk⟩
     have hp := hp.turnAtMore 7 rfl hk
     obtain ⟨A2, c2, rfl⟩ := row_shape (hp.get 0 rfl)
     have hpS6 := (hp.sub (.cons _ (.cons _ (.cons_cons _ (.cons _ (.cons _ (.cons _ (.cons _ (.cons _ (.cons _ (.cons _ .slnil)))))))))))
     refine GL_nil ⟨fun _ => hpS6, ?_⟩
     refine GO_of_GL rfl ?_
     refine GL_store (i := 5) (wn_none rfl) rfl rfl rfl rfl ts91 rfl rfl (oneC rfl (oneC rfl (oneC rfl (oneC rfl (oneC rfl (oneC rfl one0)))))) hp rfl (by first | exact Nat.le_of_ble_eq_true rfl | simp [bys_length, *]) (show splice _ _ _ = hzC (.slice A2 (hNext (hF a q_) x).holds.length c2) (hNext (hF a q_) x) from rfl) ?_
     intro w hp
     have hpS7 := (hp.sub (.cons _ (.cons _ (.cons_cons _ (.cons _ (.cons _ (.cons _ (.cons _ (.cons _ (.cons _ (.cons _ .slnil)))))))))))
     refine GL_nil ⟨fun _ => hpS7, ?_⟩
     refine GO_of_GL rfl ?_
     refine GL_store (i := 7) (wn_none rfl) rfl rfl rfl rfl ts3 rfl rfl (one1 rfl) hp rfl (by first | exact Nat.le_of_ble_eq_true rfl | simp [bys_length, *]) rfl ?_
     intro w hp
     have hpS8 := (hp.sub (.cons _ (.cons _ (.cons_cons _ (.cons _ (.cons _ (.cons _ (.cons _ (.cons _ (.cons _ (.cons _ .slnil)))))))))))
     refine GL_nil ⟨fun _ => hpS8, ?_⟩
     refine GO_nil ?_
     have hp := ((((((((((hp.front 9 rfl).front 9 rfl).front 2 rfl).front 9 rfl).front 9 rfl).front 9 rfl).front 9 rfl).front 9 rfl).front 8 rfl).take 9)
     have e1 := hF_go (q := q_) heq hg
     have e2 := sp_held (q := q_) heq hh
     have e3 := sp_last (q := q_) heq
     rw [← e1, ← e2, ← e3] at hp
     exact ⟨_, trivial, hp⟩
   ·(try simp only [decide_eq_true_eq, decide_eq_false_iff_not, Bool.not_eq_true', Bool.not_eq_false', Bool.not_eq_eq_eq_not, Bool.not_true, Bool.not_false, Int.not_lt, Int.not_le] at hb2)
    have hh : heldH (hF a q_) = false := hb2
    refine GW_skip ?_
    refine GW_seq ?_
    refine GW_seq ?_
    refine GW_region ?_
    refine GL_rd (wn_none rfl) rfl (rd_field rfl rfl fa91_3 _ rfl) ?_
    refine GL_rd (wn_none rfl) rfl (rd_load rfl rfl Try.underlying4 rfl ((cell_of_cells (hp.get 4 rfl) _).trans rfl)) ?_
    refine GL_nil ?_
    refine GW_cond rfl (fun hb4 => ?_) (fun hb4 => ?_)
    ·(try simp only [decide_eq_true_eq, decide_eq_false_iff_not, Bool.not_eq_true', Bool.not_eq_false', Bool.not_eq_eq_eq_not, Bool.not_true, Bool.not_false, Int.not_lt, Int.not_le] at hb4)
     have hg : (hF a q_).gone = true := hb4
     refine GW_region ?_
     refine GL_rd (wn_none rfl) rfl (rd_buildS (L := [.slice none 0 0, .bool false, .int .i64 0, .bool false, .string ⟨#[]⟩, .string ⟨#[]⟩]) rfl tz91 pl91 (by kernel_rfl)) ?_
     refine GL_store (i := 4) (wn_none rfl) rfl rfl rfl rfl ts91 rfl rfl (oneC rfl (oneC rfl (oneC rfl (oneC rfl (oneC rfl (oneC rfl one0)))))) hp rfl (by first | exact Nat.le_of_ble_eq_true rfl | simp [bys_length, *]) (show splice _ _ _ = hzC (.slice none 0 0) hzZ from rfl) ?_
     intro w hp
     refine GL_nil ?_
     refine GW_drawnK 7 (.one 1 true (.one 3 true (.one 4 true (.one 0 false (.one 2 false (.one 5 false (.one 6 false .nil))))))) mixed (by kernel_rfl) hp (fun _ h => (h.sub (.cons _ (.cons_cons _ (.cons _ (.cons _ (.cons _ (.cons _ (.cons _ (.cons _ (.cons _ (.cons _ .slnil)))))))))))) fun w hp => ?_
     have hpS9 := (hp.sub (.cons _ (.cons_cons _ (.cons _ (.cons _ (.cons _ (.cons _ (.cons _ (.cons _ (.cons _ (.cons _ .slnil)))))))))))
     refine GO_rd rfl rfl (wn_none rfl) rfl hpS9 (fun w hp => (rd_loadC rfl rfl Try.underlying32 rfl ts32 (hp.get 0 rfl) (recC_len _))) ?_
     refine GO_rdT rfl (wn_none rfl) rfl (fun w => (rd_field rfl rfl fa32_1 _ rfl)) ?_
     refine GO_rd rfl rfl (wn_none rfl) rfl hpS9 (fun w hp => (rd_load rfl rfl Try.underlying3 rfl ((cell_of_cells (hp.get 0 rfl) _).trans (rec_time _)))) ?_
     refine GO_of_GL rfl ?_
     refine GL_rd (wn_none rfl) rfl (rd_loadC rfl rfl Try.underlying91 rfl ts91 (hp.get 4 rfl) (by first | (rw [bys_length]; first | exact a32_len _) | rfl | simp [bys_length, *])) (GL_nil ⟨fun _ => hpS9, ?_⟩)
     have hp := hp.nilRow 9 1
     refine GO_of_GL rfl ?_
     refine GL_call (wn_none rfl) rfl rfl (his_next _ hzZ x _ (hp.get 0 rfl) (by decide)) rfl ?_
     rintro _ w ⟨hv2, rfl, hk⟩
     have hp := hp.turnAtMore 0 rfl hk
     obtain ⟨A2, c2, rfl⟩ := row_shape (hp.get 0 rfl)
     have hpS10 := (hp.sub (.cons _ (.cons _ (.cons_cons _ (.cons _ (.cons _ (.cons _ (.cons _ (.cons _ (.cons _ (.cons _ (.cons _ .slnil))))))))))))
     refine GL_nil ⟨fun _ => hpS10, ?_⟩
     refine GO_of_GL rfl ?_
     refine GL_store (i := 5) (wn_none rfl) rfl rfl rfl rfl ts91 rfl rfl (oneC rfl (oneC rfl (oneC rfl (oneC rfl (oneC rfl (oneC rfl one0)))))) hp rfl (by first | exact Nat.le_of_ble_eq_true rfl | simp [bys_length, *]) (show splice _ _ _ = hzC (.slice A2 (hNext hzZ x).holds.length c2) (hNext hzZ x) from rfl) ?_
     intro w hp
     have hpS11 := (hp.sub (.cons _ (.cons _ (.cons_cons _ (.cons _ (.cons _ (.cons _ (.cons _ (.cons _ (.cons _ (.cons _ (.cons _ .slnil))))))))))))
     refine GL_nil ⟨fun _ => hpS11, ?_⟩
     refine GO_of_GL rfl ?_
     refine GL_store (i := 7) (wn_none rfl) rfl rfl rfl rfl ts3 rfl rfl (one1 rfl) hp rfl (by first | exact Nat.le_of_ble_eq_true rfl | simp [bys_length, *]) rfl ?_
     intro w hp
     have hpS12 := (hp.sub (.cons _ (.cons _ (.cons_cons _ (.cons _ (.cons _ (.cons _ (.cons _ (.cons _ (.cons _ (.cons _ (.cons _ .slnil))))))))))))
     refine GL_nil ⟨fun _ => hpS12, ?_⟩
     refine GO_nil ?_
     have hp := ((((((((((hp.front 10 rfl).front 10 rfl).front 2 rfl).front 9 rfl).front 9 rfl).front 9 rfl).front 9 rfl).front 9 rfl).front 8 rfl).take 9)
     have e1 := hF_back (q := q_) heq hg
     have e2 := sp_free (q := q_) heq hh
     have e3 := sp_last (q := q_) heq
     rw [← e1, ← e2, ← e3] at hp
     exact ⟨_, trivial, hp⟩
    ·(try simp only [decide_eq_true_eq, decide_eq_false_iff_not, Bool.not_eq_true', Bool.not_eq_false', Bool.not_eq_eq_eq_not, Bool.not_true, Bool.not_false, Int.not_lt, Int.not_le] at hb4)
     have hg : (hF a q_).gone = false := hb4
     refine GW_skip ?_
     refine GW_drawnK 7 (.one 1 true (.one 3 true (.one 4 true (.one 0 false (.one 2 false (.one 5 false (.one 6 false .nil))))))) mixed (by kernel_rfl) hp (fun _ h => (h.sub (.cons _ (.cons_cons _ (.cons _ (.cons _ (.cons _ (.cons _ (.cons _ (.cons _ (.cons _ (.cons _ .slnil)))))))))))) fun w hp => ?_
     have hpS13 := (hp.sub (.cons _ (.cons_cons _ (.cons _ (.cons _ (.cons _ (.cons _ (.cons _ (.cons _ (.cons _ (.cons _ .slnil)))))))))))
     refine GO_rd rfl rfl (wn_none rfl) rfl hpS13 (fun w hp => (rd_loadC rfl rfl Try.underlying32 rfl ts32 (hp.get 0 rfl) (recC_len _))) ?_
     refine GO_rdT rfl (wn_none rfl) rfl (fun w => (rd_field rfl rfl fa32_1 _ rfl)) ?_
     refine GO_rd rfl rfl (wn_none rfl) rfl hpS13 (fun w hp => (rd_load rfl rfl Try.underlying3 rfl ((cell_of_cells (hp.get 0 rfl) _).trans (rec_time _)))) ?_
     refine GO_of_GL rfl ?_
     refine GL_rd (wn_none rfl) rfl (rd_loadC rfl rfl Try.underlying91 rfl ts91 (hp.get 4 rfl) (by first | (rw [bys_length]; first | exact a32_len _) | rfl | simp [bys_length, *])) (GL_nil ⟨fun _ => hpS13, ?_⟩)
     refine GO_of_GL rfl ?_
     refine GL_call (wn_none rfl) rfl rfl (his_next _ (hF a q_) x _ (hp.get 7 rfl) (by omega)) rfl ?_
     rintro _ w ⟨hv2, rfl, hk⟩
     have hp := hp.turnAtMore 7 rfl hk
     obtain ⟨A2, c2, rfl⟩ := row_shape (hp.get 0 rfl)
     have hpS14 := (hp.sub (.cons _ (.cons _ (.cons_cons _ (.cons _ (.cons _ (.cons _ (.cons _ (.cons _ (.cons _ (.cons _ .slnil)))))))))))
     refine GL_nil ⟨fun _ => hpS14, ?_⟩
     refine GO_of_GL rfl ?_
     refine GL_store (i := 5) (wn_none rfl) rfl rfl rfl rfl ts91 rfl rfl (oneC rfl (oneC rfl (oneC rfl (oneC rfl (oneC rfl (oneC rfl one0)))))) hp rfl (by first | exact Nat.le_of_ble_eq_true rfl | simp [bys_length, *]) (show splice _ _ _ = hzC (.slice A2 (hNext (hF a q_) x).holds.length c2) (hNext (hF a q_) x) from rfl) ?_
     intro w hp
     have hpS15 := (hp.sub (.cons _ (.cons _ (.cons_cons _ (.cons _ (.cons _ (.cons _ (.cons _ (.cons _ (.cons _ (.cons _ .slnil)))))))))))
     refine GL_nil ⟨fun _ => hpS15, ?_⟩
     refine GO_of_GL rfl ?_
     refine GL_store (i := 7) (wn_none rfl) rfl rfl rfl rfl ts3 rfl rfl (one1 rfl) hp rfl (by first | exact Nat.le_of_ble_eq_true rfl | simp [bys_length, *]) rfl ?_
     intro w hp
     have hpS16 := (hp.sub (.cons _ (.cons _ (.cons_cons _ (.cons _ (.cons _ (.cons _ (.cons _ (.cons _ (.cons _ (.cons _ .slnil)))))))))))
     refine GL_nil ⟨fun _ => hpS16, ?_⟩
     refine GO_nil ?_
     have hp := ((((((((((hp.front 9 rfl).front 9 rfl).front 2 rfl).front 9 rfl).front 9 rfl).front 9 rfl).front 9 rfl).front 9 rfl).front 8 rfl).take 9)
     have e1 := hF_go (q := q_) heq hg
     have e2 := sp_free (q := q_) heq hh
     have e3 := sp_last (q := q_) heq
     rw [← e1, ← e2, ← e3] at hp
     exact ⟨_, trivial, hp⟩
 ·intro z Dm w hz hp
  obtain ⟨Az, cz, rfl⟩ := row_shape (hp.get 5 rfl)
  have hsb := sp_bounds (a := a) (q := (l.filter (uT t))) (fun r hr => hT r (List.mem_filter.1 hr).1)
  have hql := List.length_filter_le (uT t) l
  refine GV_of (by kernel_rfl) ?_
  refine GW_seq ?_
  refine GW_seq ?_
  refine GW_region ?_
  refine GL_rd (wn_none rfl) rfl (rd_loadC rfl rfl Try.underlying91 rfl ts91 (hp.get 2 rfl) (by first | (rw [bys_length]; first | exact a32_len _) | rfl | simp [bys_length, *])) ?_
  refine GL_call (wn_none rfl) rfl rfl (his_held _ _ (hF a (l.filter (uT t))) _) rfl ?_
  rintro _ w ⟨rfl, hk⟩
  have hp := hp.comp hk
  refine GL_nil ?_
  refine GW_cond rfl (fun hb5 => ?_) (fun hb5 => ?_)
  ·(try simp only [decide_eq_true_eq, decide_eq_false_iff_not, Bool.not_eq_true', Bool.not_eq_false', Bool.not_eq_eq_eq_not, Bool.not_true, Bool.not_false, Int.not_lt, Int.not_le] at hb5)
   have hh : heldH (hF a (l.filter (uT t))) = true := hb5
   have es : spanL l a t = _ := if_pos hh
   refine GW_region ?_
   refine GL_rd (wn_none rfl) rfl (rd_load rfl rfl Try.underlying3 rfl ((cell_of_cells (hp.get 3 rfl) _).trans rfl)) ?_
   refine GL_rd (v := .int _ _) (wn_none rfl) rfl (rd_move rfl rfl) ?_
   refine GL_rd (wn_none rfl) rfl (rd_load rfl rfl Try.underlying3 rfl ((cell_of_cells (hp.get 4 rfl) _).trans rfl)) ?_
   refine GL_rd (wn_none rfl) rfl (rd_bin rfl rfl rfl (bo_sub64 (by omega))) ?_
   refine GL_rd (wn_none rfl) rfl (rd_bin rfl rfl rfl (bo_add64 (by omega))) ?_
   refine GL_store (i := 3) (wn_none rfl) rfl rfl rfl rfl ts3 rfl rfl (one1 rfl) hp rfl (by first | exact Nat.le_of_ble_eq_true rfl | simp [bys_length, *]) rfl ?_
   intro w hp
   refine GL_nil ?_
   refine GW_seq ?_
   refine GW_region ?_
   refine GL_rd (wn_none rfl) rfl (rd_load rfl rfl Try.underlying3 rfl ((cell_of_cells (hp.get 3 rfl) _).trans rfl)) ?_
   refine GL_rd (v := .int _ _) (wn_none rfl) rfl (rd_assign rfl rfl) ?_
   refine GL_nil ?_
   refine GW_ret ?_
   refine (FM_of [Dm] ?_).1
   refine Shut_cons (i := 0) hp rfl fun w hp => ?_
   refine Shut_nil ?_
   exact ⟨_, res1 Try.results14 (rv_tmp (v := .int _ _) rfl rfl), by rw [es], hp.mods⟩
  ·(try simp only [decide_eq_true_eq, decide_eq_false_iff_not, Bool.not_eq_true', Bool.not_eq_false', Bool.not_eq_eq_eq_not, Bool.not_true, Bool.not_false, Int.not_lt, Int.not_le] at hb5)
   have hh : heldH (hF a (l.filter (uT t))) = false := hb5
   have es : spanL l a t = _ := if_neg (show ¬ heldH (hF a (l.filter (uT t))) = true by rw [hh]; decide)
   refine GW_skip ?_
   refine GW_seq ?_
   refine GW_region ?_
   refine GL_rd (wn_none rfl) rfl (rd_load rfl rfl Try.underlying3 rfl ((cell_of_cells (hp.get 3 rfl) _).trans rfl)) ?_
   refine GL_rd (v := .int _ _) (wn_none rfl) rfl (rd_assign rfl rfl) ?_
   refine GL_nil ?_
   refine GW_ret ?_
   refine (FM_of [Dm] ?_).1
   refine Shut_cons (i := 0) hp rfl fun w hp => ?_
   refine Shut_nil ?_
   exact ⟨_, res1 Try.results14 (rv_tmp (v := .int _ _) rfl rfl), by rw [es], hp.mods⟩
 ·intro c Dm w hc hp
  exact hc.elim
set_option maxHeartbeats 1000000 in
theorem his_By (sv : Value) (m : Nat) (l : List Rec) (nm : ByteArray) (w0 : World) (hI : Sl w0 sv 100 m (l.flatMap recC)) (hm : m ≤ 65000) : Does Try.prog 11 #[sv, .string nm] w0 fun v w' => v = .agg ⟨byC l nm⟩ ∧ Hp w0 [] w' [] := by
 obtain ⟨A, c, rfl⟩ := sl_shape hI
 have hlm := Sl.recs hI
 have hmle := hI.le
 refine does_of (l := [.slice A m c, .string nm]) Try.func11 (by kernel_rfl) rfl Try.ntmps11 rfl rfl (by kernel_rfl) ?_
 have hp := Hp.refl w0 []
 refine GW_seq ?_
 refine GW_region ?_
 refine GL_alloc (wn_none rfl) rfl rfl tz26 rfl hp ?_
 intro g w hp
 refine GL_nil ?_
 refine GW_seq ?_
 refine GW_region ?_
 refine GL_alloc (wn_none rfl) rfl rfl tz26 rfl hp ?_
 intro g2 w hp
 refine GL_nil ?_
 refine GW_seq ?_
 refine GW_seq ?_
 refine GW_region ?_
 refine GL_rd (v := .slice _ _ _) (wn_none rfl) rfl (rd_move rfl rfl) ?_
 refine GL_rd (wn_none rfl) rfl (rd_len rfl rfl Try.underlying22) ?_
 refine GL_rd (v := .int _ _) (wn_none rfl) rfl (rd_move rfl rfl) ?_
 refine GL_nil ?_
 refine GW_block ?_
 refine GW_loop ?_
 refine Lp_ind (α := Nat) (fun a_0 f_0 w' => match a_0 with | i => ∃ fz, f_0 = (upd (upd (upd (upd (upd (upd fz 1 (.string nm)) 4 (.pointer (some ⟨g, 0, none⟩))) 5 (.pointer (some ⟨g2, 0, none⟩))) 8 (.slice A m c)) 9 (.int .i64 (m : Int))) 10 (.int .i64 (i : Int))) ∧ Hp w0 [] w' [cells g2 26 (byC (l.take i) nm), cells g 26 (List.replicate 6 (.int .i64 0))] ∧ (i ≤ m)) (fun a_0 => match a_0 with | i => m - i) ?_ 0 _ _ ?_
 ·rintro i f wz ⟨fz, rfl, hp, hi0⟩ ihL0
  refine Lp_round ?_
  refine GW_seq ?_
  refine GW_region ?_
  refine GL_rd (wn_none rfl) rfl (rd_bin rfl rfl rfl bo_lss) ?_
  refine GL_nil ?_
  refine GW_seq ?_
  refine GW_cond rfl (fun hb => ?_) (fun hb => ?_)
  ·(try simp only [decide_eq_true_eq, decide_eq_false_iff_not, Bool.not_eq_true', Bool.not_eq_false', Bool.not_eq_eq_eq_not, Bool.not_true, Bool.not_false, Int.not_lt, Int.not_le] at hb)
   obtain ⟨gA, bA, rfl⟩ := hI.addr (by rw [flat_length recC_len]; omega)
   refine GW_skip ?_
   refine GW_seq ?_
   refine GW_block ?_
   refine GW_seq ?_
   refine GW_region ?_
   refine GL_rd (wn_none rfl) rfl (rd_indexS (j := i) rfl rfl rfl Try.underlying22 ts32 rfl (by omega) _ rfl) ?_
   refine GL_rd (wn_none rfl) rfl (rd_loadN (L := recC _) rfl rfl Try.underlying32 rfl ts32 (recC_len _) (fun jq u hj => Sl.recE (hI.keep hp.mod) i (by first | omega | assumption | exact Nat.lt_succ_self _) hj)) ?_
   refine GL_alloc (wn_none rfl) rfl rfl tz32 rfl hp ?_
   intro g3 w hp
   refine GL_store (i := 0) (wn_none rfl) rfl rfl rfl rfl ts32 rfl (recC_len _) (recC_one _) hp rfl (by first | exact Nat.le_of_ble_eq_true rfl | (rw [recC_len]; decide)) (splice_all _ _ (by first | rw [recC_len, recC_len] | (rw [recC_len]; rfl))) ?_
   intro w hp
   refine GL_nil ?_
   refine GW_seq ?_
   refine GW_region ?_
   refine GL_rd (wn_none rfl) rfl (rd_field rfl rfl fa32_2 _ rfl) ?_
   refine GL_rd (wn_none rfl) rfl (rd_load rfl rfl Try.underlying9 rfl ((cell_of_cells (hp.get 0 rfl) _).trans (rec_actor _))) ?_
   refine GL_rd (v := .string _) (wn_none rfl) rfl (rd_move rfl rfl) ?_
   refine GL_rd (wn_none rfl) rfl (rd_bin rfl rfl rfl bo_seql) ?_
   refine GL_rd (v := .bool _) (wn_none rfl) rfl (rd_move rfl rfl) ?_
   refine GL_split (t := 18) (b := _) rfl ?_ ?_
   ·intro hb2; (try simp only [decide_eq_true_eq, decide_eq_false_iff_not, Bool.not_eq_true', Bool.not_eq_false', Bool.not_eq_eq_eq_not, Bool.not_true, Bool.not_false, Int.not_lt, Int.not_le] at hb2)
    have h1 := hb2
    refine GL_rd (wn_on rfl rfl rfl rfl) rfl (rd_field rfl rfl fa32_0 _ rfl) ?_
    refine GL_rd (wn_on rfl rfl rfl rfl) rfl (rd_load rfl rfl Try.underlying3 rfl ((cell_of_cells (hp.get 0 rfl) _).trans (rec_kind _))) ?_
    refine GL_rd (wn_on rfl rfl rfl rfl) rfl (rd_bin rfl rfl rfl bo_geq) ?_
    refine GL_rd (v := .bool _) (wn_none rfl) rfl (rd_pickT rfl rfl rfl) ?_
    refine GL_rd (v := .bool _) (wn_none rfl) rfl (rd_move rfl rfl) ?_
    refine GL_split (t := 23) (b := _) rfl ?_ ?_
    ·intro hb3; (try simp only [decide_eq_true_eq, decide_eq_false_iff_not, Bool.not_eq_true', Bool.not_eq_false', Bool.not_eq_eq_eq_not, Bool.not_true, Bool.not_false, Int.not_lt, Int.not_le] at hb3)
     have h2 := hb3
     refine GL_rd (wn_on rfl rfl rfl rfl) rfl (rd_field rfl rfl fa32_0 _ rfl) ?_
     refine GL_rd (wn_on rfl rfl rfl rfl) rfl (rd_load rfl rfl Try.underlying3 rfl ((cell_of_cells (hp.get 0 rfl) _).trans (rec_kind _))) ?_
     refine GL_rd (wn_on rfl rfl rfl rfl) rfl (rd_bin rfl rfl rfl bo_lss) ?_
     refine GL_rd (v := .bool _) (wn_none rfl) rfl (rd_pickT rfl rfl rfl) ?_
     refine GL_nil ?_
     refine GW_cond rfl (fun hb4 => ?_) (fun hb4 => ?_)
     ·(try simp only [decide_eq_true_eq, decide_eq_false_iff_not, Bool.not_eq_true', Bool.not_eq_false', Bool.not_eq_eq_eq_not, Bool.not_true, Bool.not_false, Int.not_lt, Int.not_le] at hb4)
      have h3 := hb4
      have hn1 := fun k => byN_le (l.take i) nm k
      rcases (show (recAt l i).kind = 0 ∨ (recAt l i).kind = 1 ∨ (recAt l i).kind = 2 ∨ (recAt l i).kind = 3 ∨ (recAt l i).kind = 4 ∨ (recAt l i).kind = 5 by omega) with hk | hk | hk | hk | hk | hk
      ·
       have hn2 := hn1 0
       rw [List.length_take] at hn2
       refine GW_region ?_
       refine GL_rd (wn_none rfl) rfl (rd_field rfl rfl fa32_0 _ rfl) ?_
       refine GL_rd (wn_none rfl) rfl (rd_load rfl rfl Try.underlying3 rfl ((cell_of_cells (hp.get 0 rfl) _).trans (rec_kind _))) ?_
       refine GL_rd (wn_none rfl) rfl (rd_indexA (j := 0) rfl rfl rfl Try.underlying26 ts3 (by rw [hk]; rfl) (by decide) _ rfl) ?_
       refine GL_rd (wn_none rfl) rfl (rd_load rfl rfl Try.underlying3 rfl ((cell_of_cells (hp.get 1 rfl) _).trans (show (byC (l.take i) nm)[_]? = some (.int .i64 (byN (l.take i) nm 0 : Int)) from rfl))) ?_
       refine GL_rd (wn_none rfl) rfl (rd_bin rfl rfl rfl (bo_add64 (by omega))) ?_
       refine GL_rd (wn_none rfl) rfl (rd_indexA (j := 0) rfl rfl rfl Try.underlying26 ts3 (by rw [hk]; rfl) (by decide) _ rfl) ?_
       refine GL_store (i := 1) (wn_none rfl) rfl rfl rfl rfl ts3 rfl rfl (one1 rfl) hp rfl (by first | exact Nat.le_of_ble_eq_true rfl | simp [bys_length, *]) (byC_yes (q := (l.take i)) (r := (recAt l i)) (nm := nm) (j := 0) h1 (by decide) hk) ?_
       intro w hp
       refine GL_nil ?_
       refine GW_region ?_
       refine GL_rd (wn_none rfl) rfl (rd_bin rfl rfl rfl (bo_add64 (by omega))) ?_
       refine GL_rd (v := .int _ _) (wn_none rfl) rfl (rd_move rfl rfl) ?_
       refine GL_nil ?_
       rw [← take_recs (by omega)] at hp
       have hp := (((hp.front 2 rfl).front 2 rfl).take 2)
       exact ihL0 (i + 1) _ _ (by simp only []; omega) ⟨_, slots6 rfl rfl rfl rfl rfl rfl, hp, by omega⟩
      ·
       have hn2 := hn1 1
       rw [List.length_take] at hn2
       refine GW_region ?_
       refine GL_rd (wn_none rfl) rfl (rd_field rfl rfl fa32_0 _ rfl) ?_
       refine GL_rd (wn_none rfl) rfl (rd_load rfl rfl Try.underlying3 rfl ((cell_of_cells (hp.get 0 rfl) _).trans (rec_kind _))) ?_
       refine GL_rd (wn_none rfl) rfl (rd_indexA (j := 1) rfl rfl rfl Try.underlying26 ts3 (by rw [hk]; rfl) (by decide) _ rfl) ?_
       refine GL_rd (wn_none rfl) rfl (rd_load rfl rfl Try.underlying3 rfl ((cell_of_cells (hp.get 1 rfl) _).trans (show (byC (l.take i) nm)[_]? = some (.int .i64 (byN (l.take i) nm 1 : Int)) from rfl))) ?_
       refine GL_rd (wn_none rfl) rfl (rd_bin rfl rfl rfl (bo_add64 (by omega))) ?_
       refine GL_rd (wn_none rfl) rfl (rd_indexA (j := 1) rfl rfl rfl Try.underlying26 ts3 (by rw [hk]; rfl) (by decide) _ rfl) ?_
       refine GL_store (i := 1) (wn_none rfl) rfl rfl rfl rfl ts3 rfl rfl (one1 rfl) hp rfl (by first | exact Nat.le_of_ble_eq_true rfl | simp [bys_length, *]) (byC_yes (q := (l.take i)) (r := (recAt l i)) (nm := nm) (j := 1) h1 (by decide) hk) ?_
       intro w hp
       refine GL_nil ?_
       refine GW_region ?_
       refine GL_rd (wn_none rfl) rfl (rd_bin rfl rfl rfl (bo_add64 (by omega))) ?_
       refine GL_rd (v := .int _ _) (wn_none rfl) rfl (rd_move rfl rfl) ?_
       refine GL_nil ?_
       rw [← take_recs (by omega)] at hp
       have hp := (((hp.front 2 rfl).front 2 rfl).take 2)
       exact ihL0 (i + 1) _ _ (by simp only []; omega) ⟨_, slots6 rfl rfl rfl rfl rfl rfl, hp, by omega⟩
      ·
       have hn2 := hn1 2
       rw [List.length_take] at hn2
       refine GW_region ?_
       refine GL_rd (wn_none rfl) rfl (rd_field rfl rfl fa32_0 _ rfl) ?_
       refine GL_rd (wn_none rfl) rfl (rd_load rfl rfl Try.underlying3 rfl ((cell_of_cells (hp.get 0 rfl) _).trans (rec_kind _))) ?_
       refine GL_rd (wn_none rfl) rfl (rd_indexA (j := 2) rfl rfl rfl Try.underlying26 ts3 (by rw [hk]; rfl) (by decide) _ rfl) ?_
       refine GL_rd (wn_none rfl) rfl (rd_load rfl rfl Try.underlying3 rfl ((cell_of_cells (hp.get 1 rfl) _).trans (show (byC (l.take i) nm)[_]? = some (.int .i64 (byN (l.take i) nm 2 : Int)) from rfl))) ?_
       refine GL_rd (wn_none rfl) rfl (rd_bin rfl rfl rfl (bo_add64 (by omega))) ?_
       refine GL_rd (wn_none rfl) rfl (rd_indexA (j := 2) rfl rfl rfl Try.underlying26 ts3 (by rw [hk]; rfl) (by decide) _ rfl) ?_
       refine GL_store (i := 1) (wn_none rfl) rfl rfl rfl rfl ts3 rfl rfl (one1 rfl) hp rfl (by first | exact Nat.le_of_ble_eq_true rfl | simp [bys_length, *]) (byC_yes (q := (l.take i)) (r := (recAt l i)) (nm := nm) (j := 2) h1 (by decide) hk) ?_
       intro w hp
       refine GL_nil ?_
       refine GW_region ?_
       refine GL_rd (wn_none rfl) rfl (rd_bin rfl rfl rfl (bo_add64 (by omega))) ?_
       refine GL_rd (v := .int _ _) (wn_none rfl) rfl (rd_move rfl rfl) ?_
       refine GL_nil ?_
       rw [← take_recs (by omega)] at hp
       have hp := (((hp.front 2 rfl).front 2 rfl).take 2)
       exact ihL0 (i + 1) _ _ (by simp only []; omega) ⟨_, slots6 rfl rfl rfl rfl rfl rfl, hp, by omega⟩
      ·
       have hn2 := hn1 3
       rw [List.length_take] at hn2
       refine GW_region ?_
       refine GL_rd (wn_none rfl) rfl (rd_field rfl rfl fa32_0 _ rfl) ?_
       refine GL_rd (wn_none rfl) rfl (rd_load rfl rfl Try.underlying3 rfl ((cell_of_cells (hp.get 0 rfl) _).trans (rec_kind _))) ?_
       refine GL_rd (wn_none rfl) rfl (rd_indexA (j := 3) rfl rfl rfl Try.underlying26 ts3 (by rw [hk]; rfl) (by decide) _ rfl) ?_
       refine GL_rd (wn_none rfl) rfl (rd_load rfl rfl Try.underlying3 rfl ((cell_of_cells (hp.get 1 rfl) _).trans (show (byC (l.take i) nm)[_]? = some (.int .i64 (byN (l.take i) nm 3 : Int)) from rfl))) ?_
       refine GL_rd (wn_none rfl) rfl (rd_bin rfl rfl rfl (bo_add64 (by omega))) ?_
       refine GL_rd (wn_none rfl) rfl (rd_indexA (j := 3) rfl rfl rfl Try.underlying26 ts3 (by rw [hk]; rfl) (by decide) _ rfl) ?_
       refine GL_store (i := 1) (wn_none rfl) rfl rfl rfl rfl ts3 rfl rfl (one1 rfl) hp rfl (by first | exact Nat.le_of_ble_eq_true rfl | simp [bys_length, *]) (byC_yes (q := (l.take i)) (r := (recAt l i)) (nm := nm) (j := 3) h1 (by decide) hk) ?_
       intro w hp
       refine GL_nil ?_
       refine GW_region ?_
       refine GL_rd (wn_none rfl) rfl (rd_bin rfl rfl rfl (bo_add64 (by omega))) ?_
       refine GL_rd (v := .int _ _) (wn_none rfl) rfl (rd_move rfl rfl) ?_
       refine GL_nil ?_
       rw [← take_recs (by omega)] at hp
       have hp := (((hp.front 2 rfl).front 2 rfl).take 2)
       exact ihL0 (i + 1) _ _ (by simp only []; omega) ⟨_, slots6 rfl rfl rfl rfl rfl rfl, hp, by omega⟩
      ·
       have hn2 := hn1 4
       rw [List.length_take] at hn2
       refine GW_region ?_
       refine GL_rd (wn_none rfl) rfl (rd_field rfl rfl fa32_0 _ rfl) ?_
       refine GL_rd (wn_none rfl) rfl (rd_load rfl rfl Try.underlying3 rfl ((cell_of_cells (hp.get 0 rfl) _).trans (rec_kind _))) ?_
       refine GL_rd (wn_none rfl) rfl (rd_indexA (j := 4) rfl rfl rfl Try.underlying26 ts3 (by rw [hk]; rfl) (by decide) _ rfl) ?_
       refine GL_rd (wn_none rfl) rfl (rd_load rfl rfl Try.underlying3 rfl ((cell_of_cells (hp.get 1 rfl) _).trans (show (byC (l.take i) nm)[_]? = some (.int .i64 (byN (l.take i) nm 4 : Int)) from rfl))) ?_
       refine GL_rd (wn_none rfl) rfl (rd_bin rfl rfl rfl (bo_add64 (by omega))) ?_
       refine GL_rd (wn_none rfl) rfl (rd_indexA (j := 4) rfl rfl rfl Try.underlying26 ts3 (by rw [hk]; rfl) (by decide) _ rfl) ?_
       refine GL_store (i := 1) (wn_none rfl) rfl rfl rfl rfl ts3 rfl rfl (one1 rfl) hp rfl (by first | exact Nat.le_of_ble_eq_true rfl | simp [bys_length, *]) (byC_yes (q := (l.take i)) (r := (recAt l i)) (nm := nm) (j := 4) h1 (by decide) hk) ?_
       intro w hp
       refine GL_nil ?_
       refine GW_region ?_
       refine GL_rd (wn_none rfl) rfl (rd_bin rfl rfl rfl (bo_add64 (by omega))) ?_
       refine GL_rd (v := .int _ _) (wn_none rfl) rfl (rd_move rfl rfl) ?_
       refine GL_nil ?_
       rw [← take_recs (by omega)] at hp
       have hp := (((hp.front 2 rfl).front 2 rfl).take 2)
       exact ihL0 (i + 1) _ _ (by simp only []; omega) ⟨_, slots6 rfl rfl rfl rfl rfl rfl, hp, by omega⟩
      ·
       have hn2 := hn1 5
       rw [List.length_take] at hn2
       refine GW_region ?_
       refine GL_rd (wn_none rfl) rfl (rd_field rfl rfl fa32_0 _ rfl) ?_
       refine GL_rd (wn_none rfl) rfl (rd_load rfl rfl Try.underlying3 rfl ((cell_of_cells (hp.get 0 rfl) _).trans (rec_kind _))) ?_
       refine GL_rd (wn_none rfl) rfl (rd_indexA (j := 5) rfl rfl rfl Try.underlying26 ts3 (by rw [hk]; rfl) (by decide) _ rfl) ?_
       refine GL_rd (wn_none rfl) rfl (rd_load rfl rfl Try.underlying3 rfl ((cell_of_cells (hp.get 1 rfl) _).trans (show (byC (l.take i) nm)[_]? = some (.int .i64 (byN (l.take i) nm 5 : Int)) from rfl))) ?_
       refine GL_rd (wn_none rfl) rfl (rd_bin rfl rfl rfl (bo_add64 (by omega))) ?_
       refine GL_rd (wn_none rfl) rfl (rd_indexA (j := 5) rfl rfl rfl Try.underlying26 ts3 (by rw [hk]; rfl) (by decide) _ rfl) ?_
       refine GL_store (i := 1) (wn_none rfl) rfl rfl rfl rfl ts3 rfl rfl (one1 rfl) hp rfl (by first | exact Nat.le_of_ble_eq_true rfl | simp [bys_length, *]) (byC_yes (q := (l.take i)) (r := (recAt l i)) (nm := nm) (j := 5) h1 (by decide) hk) ?_
       intro w hp
       refine GL_nil ?_
       refine GW_region ?_
       refine GL_rd (wn_none rfl) rfl (rd_bin rfl rfl rfl (bo_add64 (by omega))) ?_
       refine GL_rd (v := .int _ _) (wn_none rfl) rfl (rd_move rfl rfl) ?_
       refine GL_nil ?_
       rw [← take_recs (by omega)] at hp
       have hp := (((hp.front 2 rfl).front 2 rfl).take 2)
       exact ihL0 (i + 1) _ _ (by simp only []; omega) ⟨_, slots6 rfl rfl rfl rfl rfl rfl, hp, by omega⟩
     ·(try simp only [decide_eq_true_eq, decide_eq_false_iff_not, Bool.not_eq_true', Bool.not_eq_false', Bool.not_eq_eq_eq_not, Bool.not_true, Bool.not_false, Int.not_lt, Int.not_le] at hb4)
      have e1 := byC_no (q := (l.take i)) (r := (recAt l i)) (nm := nm) (fun e => absurd e.2.2 (by have := hb4; omega))
      refine GW_skip ?_
      refine GW_region ?_
      refine GL_rd (wn_none rfl) rfl (rd_bin rfl rfl rfl (bo_add64 (by omega))) ?_
      refine GL_rd (v := .int _ _) (wn_none rfl) rfl (rd_move rfl rfl) ?_
      refine GL_nil ?_
      rw [← e1] at hp
      rw [← take_recs (by omega)] at hp
      have hp := (((hp.front 2 rfl).front 2 rfl).take 2)
      exact ihL0 (i + 1) _ _ (by simp only []; omega) ⟨_, slots6 rfl rfl rfl rfl rfl rfl, hp, by omega⟩
    ·intro hb3; (try simp only [decide_eq_true_eq, decide_eq_false_iff_not, Bool.not_eq_true', Bool.not_eq_false', Bool.not_eq_eq_eq_not, Bool.not_true, Bool.not_false, Int.not_lt, Int.not_le] at hb3)
     have e1 := byC_no (q := (l.take i)) (r := (recAt l i)) (nm := nm) (fun e => absurd e.2.1 (by have := hb3; omega))
     refine GL_pass (nw_off rfl rfl rfl rfl rfl) rfl ?_
     refine GL_pass (nw_off rfl rfl rfl rfl rfl) rfl ?_
     refine GL_pass (nw_off rfl rfl rfl rfl rfl) rfl ?_
     refine GL_rd (v := .bool _) (wn_none rfl) rfl (rd_pickF rfl rfl rfl) ?_
     refine GL_nil ?_
     refine GW_false rfl ?_
     refine GW_skip ?_
     refine GW_region ?_
     refine GL_rd (wn_none rfl) rfl (rd_bin rfl rfl rfl (bo_add64 (by omega))) ?_
     refine GL_rd (v := .int _ _) (wn_none rfl) rfl (rd_move rfl rfl) ?_
     refine GL_nil ?_
     rw [← e1] at hp
     rw [← take_recs (by omega)] at hp
     have hp := (((hp.front 2 rfl).front 2 rfl).take 2)
     exact ihL0 (i + 1) _ _ (by simp only []; omega) ⟨_, slots6 rfl rfl rfl rfl rfl rfl, hp, by omega⟩
   ·intro hb2; (try simp only [decide_eq_true_eq, decide_eq_false_iff_not, Bool.not_eq_true', Bool.not_eq_false', Bool.not_eq_eq_eq_not, Bool.not_true, Bool.not_false, Int.not_lt, Int.not_le] at hb2)
    have e1 := byC_no (q := (l.take i)) (r := (recAt l i)) (nm := nm) (fun e => hb2 e.1)
    refine GL_pass (nw_off rfl rfl rfl rfl rfl) rfl ?_
    refine GL_pass (nw_off rfl rfl rfl rfl rfl) rfl ?_
    refine GL_pass (nw_off rfl rfl rfl rfl rfl) rfl ?_
    refine GL_rd (v := .bool _) (wn_none rfl) rfl (rd_pickF rfl rfl rfl) ?_
    refine GL_rd (v := .bool _) (wn_none rfl) rfl (rd_move rfl rfl) ?_
    refine GL_pass (nw_off rfl rfl rfl rfl rfl) rfl ?_
    refine GL_pass (nw_off rfl rfl rfl rfl rfl) rfl ?_
    refine GL_pass (nw_off rfl rfl rfl rfl rfl) rfl ?_
    refine GL_rd (v := .bool _) (wn_none rfl) rfl (rd_pickF rfl rfl rfl) ?_
    refine GL_nil ?_
    refine GW_false rfl ?_
    refine GW_skip ?_
    refine GW_region ?_
    refine GL_rd (wn_none rfl) rfl (rd_bin rfl rfl rfl (bo_add64 (by omega))) ?_
    refine GL_rd (v := .int _ _) (wn_none rfl) rfl (rd_move rfl rfl) ?_
    refine GL_nil ?_
    rw [← e1] at hp
    rw [← take_recs (by omega)] at hp
    have hp := (((hp.front 2 rfl).front 2 rfl).take 2)
    exact ihL0 (i + 1) _ _ (by simp only []; omega) ⟨_, slots6 rfl rfl rfl rfl rfl rfl, hp, by omega⟩
  ·(try simp only [decide_eq_true_eq, decide_eq_false_iff_not, Bool.not_eq_true', Bool.not_eq_false', Bool.not_eq_eq_eq_not, Bool.not_true, Bool.not_false, Int.not_lt, Int.not_le] at hb)
   obtain rfl : m = i := by omega
   rw [List.take_of_length_le (by omega)] at hp
   refine GW_exit ?_
   refine GW_seq ?_
   refine GW_region ?_
   refine GL_rd (wn_none rfl) rfl (rd_loadC rfl rfl Try.underlying26 rfl ts26 (hp.get 0 rfl) (by first | (rw [bys_length]; first | exact a32_len _) | rfl | simp [bys_length, *])) ?_
   refine GL_store (i := 1) (wn_none rfl) rfl rfl rfl rfl ts26 rfl rfl (oneC rfl (oneC rfl (oneC rfl (oneC rfl (oneC rfl (oneC rfl one0)))))) hp rfl (by first | exact Nat.le_of_ble_eq_true rfl | simp [bys_length, *]) (show splice _ _ _ = byC l nm from rfl) ?_
   intro w hp
   refine GL_nil ?_
   refine GW_ret ?_
   exact ⟨_, res1 Try.results11 (rv_cell rfl rfl Try.underlying26 rfl ts26 rfl (hp.get 1 rfl)), rfl, hp.mods⟩
 ·refine ⟨_, slots6 rfl rfl rfl rfl rfl rfl, hp, Nat.zero_le _⟩
theorem his_Actors (sv : Value) (m : Nat) (l : List Rec) (w0 : World) (hI : Sl w0 sv 100 m (l.flatMap recC)) (hm : m ≤ 65000) : Does Try.prog 13 #[sv] w0 fun v w' => Hp w0 [] w' [.row 9 1 v ((actL l)).length (((actL l)).map Value.string)] := by
 obtain ⟨A, c, rfl⟩ := sl_shape hI
 have hlm := Sl.recs hI
 have hmle := hI.le
 refine does_of (l := [.slice A m c]) Try.func13 (by kernel_rfl) rfl Try.ntmps13 rfl rfl (by kernel_rfl) ?_
 have hp := Hp.refl w0 []
 refine GW_seq ?_
 refine GW_region ?_
 refine GL_rd (v := .slice _ _ _) (wn_none rfl) rfl (rd_assign rfl rfl) ?_
 refine GL_nil ?_
 refine GW_seq ?_
 refine GW_region ?_
 refine GL_rd (v := .slice _ _ _) (wn_none rfl) rfl (rd_assign rfl rfl) ?_
 refine GL_nil ?_
 refine GW_seq ?_
 refine GW_seq ?_
 refine GW_region ?_
 refine GL_rd (v := .slice _ _ _) (wn_none rfl) rfl (rd_move rfl rfl) ?_
 refine GL_rd (wn_none rfl) rfl (rd_len rfl rfl Try.underlying22) ?_
 refine GL_rd (v := .int _ _) (wn_none rfl) rfl (rd_move rfl rfl) ?_
 refine GL_nil ?_
 refine GW_block ?_
 refine GW_loop ?_
 refine Lp_ind (α := Nat × Value) (fun a_0 f_0 w' => match a_0 with | (i, v) => ∃ fz, f_0 = (upd (upd (upd (upd fz 3 (v)) 6 (.slice A m c)) 7 (.int .i64 (m : Int))) 8 (.int .i64 (i : Int))) ∧ Hp w0 [] w' [.row 9 1 v (((l.take i).map (·.actor))).length ((((l.take i).map (·.actor))).map Value.string)] ∧ (i ≤ m)) (fun a_0 => match a_0 with | (i, v) => m - i) ?_ (0, .slice none 0 0) _ _ ?_
 ·rintro ⟨i, v⟩ f wz ⟨fz, rfl, hp, hi0⟩ ihL0
  refine Lp_round ?_
  refine GW_seq ?_
  refine GW_region ?_
  refine GL_rd (wn_none rfl) rfl (rd_bin rfl rfl rfl bo_lss) ?_
  refine GL_nil ?_
  refine GW_seq ?_
  refine GW_cond rfl (fun hb => ?_) (fun hb => ?_)
  ·(try simp only [decide_eq_true_eq, decide_eq_false_iff_not, Bool.not_eq_true', Bool.not_eq_false', Bool.not_eq_eq_eq_not, Bool.not_true, Bool.not_false, Int.not_lt, Int.not_le] at hb)
   obtain ⟨gA, bA, rfl⟩ := hI.addr (by rw [flat_length recC_len]; omega)
   refine GW_skip ?_
   refine GW_seq ?_
   refine GW_block ?_
   refine GW_seq ?_
   refine GW_region ?_
   refine GL_rd (wn_none rfl) rfl (rd_indexS (j := i) rfl rfl rfl Try.underlying22 ts32 rfl (by omega) _ rfl) ?_
   refine GL_rd (wn_none rfl) rfl (rd_loadN (L := recC _) rfl rfl Try.underlying32 rfl ts32 (recC_len _) (fun jq u hj => Sl.recE (hI.keep hp.mod) i (by first | omega | assumption | exact Nat.lt_succ_self _) hj)) ?_
   refine GL_alloc (wn_none rfl) rfl rfl tz32 rfl hp ?_
   intro g w hp
   refine GL_store (i := 0) (wn_none rfl) rfl rfl rfl rfl ts32 rfl (recC_len _) (recC_one _) hp rfl (by first | exact Nat.le_of_ble_eq_true rfl | (rw [recC_len]; decide)) (splice_all _ _ (by first | rw [recC_len, recC_len] | (rw [recC_len]; rfl))) ?_
   intro w hp
   refine GL_nil ?_
   refine GW_region ?_
   refine GL_rd (v := v) (wn_none rfl) rfl (rd_move rfl rfl) ?_
   refine GL_rd (wn_none rfl) rfl (rd_field rfl rfl fa32_2 _ rfl) ?_
   refine GL_rd (wn_none rfl) rfl (rd_load rfl rfl Try.underlying9 rfl ((cell_of_cells (hp.get 0 rfl) _).trans (rec_actor _))) ?_
   refine GL_lit (L := [.string (recAt l i).actor]) (wn_none rfl) rfl rfl Try.underlying29 ts9 tz9 rfl (by kernel_rfl) rfl rfl hp ?_
   intro g2 w hp
   refine GL_append (i := 2) (wn_none rfl) rfl rfl rfl rfl Try.underlying29 ti9 rfl (by decide) hp rfl (Sl.row (hp.get 0 rfl)) (one1 rfl) (by simp only [List.length_map, List.length_take]; omega) (by simp only [List.length_map, List.length_take]; omega) ?_
   intro v w hp
   rw [stR_snoc, ← acts_snoc (by omega)] at hp
   refine GL_rd (v := v) (wn_none rfl) rfl (rd_assign rfl rfl) ?_
   refine GL_nil ?_
   refine GW_region ?_
   refine GL_rd (wn_none rfl) rfl (rd_bin rfl rfl rfl (bo_add64 (by omega))) ?_
   refine GL_rd (v := .int _ _) (wn_none rfl) rfl (rd_move rfl rfl) ?_
   refine GL_nil ?_
   have hp := ((hp.front 2 rfl).take 1)
   exact ihL0 (i + 1, v) _ _ (by simp only []; omega) ⟨_, slots4 rfl rfl rfl rfl, hp, by omega⟩
  ·(try simp only [decide_eq_true_eq, decide_eq_false_iff_not, Bool.not_eq_true', Bool.not_eq_false', Bool.not_eq_eq_eq_not, Bool.not_true, Bool.not_false, Int.not_lt, Int.not_le] at hb)
   obtain rfl : m = i := by omega
   rw [List.take_of_length_le (by omega)] at hp
   refine GW_exit ?_
   refine GW_seq ?_
   refine GW_region ?_
   refine GL_rd (v := v) (wn_none rfl) rfl (rd_move rfl rfl) ?_
   refine GL_call (wn_none rfl) rfl rfl (sl_SortS (hp.get 0 rfl) (by rw [List.length_map]; omega)) rfl ?_
   intro _ w hk
   have hp := hp.turnAtMore 0 rfl hk
   refine GL_nil ?_
   refine GW_seq ?_
   refine GW_region ?_
   refine GL_rd (v := v) (wn_none rfl) rfl (rd_move rfl rfl) ?_
   refine GL_call (wn_none rfl) rfl rfl (sl_CompactS (hp.get 0 rfl)) rfl ?_
   intro v2 w hk
   have hp := hp.turnAtMore 0 rfl hk
   refine GL_rd (v := v2) (wn_none rfl) rfl (rd_assign rfl rfl) ?_
   refine GL_nil ?_
   refine GW_ret ?_
   have hp := ((hp.front 0 rfl).take 1)
   exact ⟨_, res1 Try.results13 (rv_tmp (v := v2) rfl rfl), hp⟩
 ·have hp := hp.nilRow 9 1
  refine ⟨_, slots4 rfl rfl rfl rfl, hp, Nat.zero_le _⟩
end Go.Proofs.Ytdbkmpnknkldlaa
