/- Walks of functions of the program. -/
import Derived.Test.YtpagpmioopaciaaQFQuR
set_option linter.unusedVariables false
set_option linter.unusedSimpArgs false
namespace Go.Proofs.Ytpagpmioopaciaa
open Go.Mo Go.RowKit
set_option maxHeartbeats 8000000 in
theorem law_qworks (w0 : World) : Does Try.prog 10 #[] w0 fun v w' => v = .bool true ∧ Hp w0 [] w' [] := by
 refine does_of (l := []) Try.func10 (by kernel_rfl) rfl Try.ntmps10 rfl rfl (by kernel_rfl) ?_
 have hp := Hp.refl w0 []
 refine GW_seq ?_
 refine GW_region ?_
 refine GL_rd (v := .bool _) (wn_none rfl) rfl (rd_assign rfl rfl) ?_
 refine GL_nil ?_
 refine GW_seq ?_
 refine GW_region ?_
 refine GL_rd (wn_none rfl) rfl (rd_buildS (L := (plC ⟨3, 2, 2, 4⟩)) rfl tz23 pl23 (by kernel_rfl)) ?_
 refine GL_call (wn_none rfl) rfl rfl (im_New ⟨3, 2, 2, 4⟩ _ (by decide)) rfl ?_
 rintro _ w ⟨gx, mg, tg, cq, mq, tv, cv, mv, ev, rfl, hk⟩
 have hp := hp.comp hk
 refine GL_rd (v := .tuple _) (wn_none rfl) rfl (rd_move rfl rfl) ?_
 refine GL_rd (v := .pointer (some ⟨gx, 0, none⟩)) (wn_none rfl) rfl (rd_extract rfl rfl rfl) ?_
 refine GL_rd (v := .int _ _) (wn_none rfl) rfl (rd_extract rfl rfl rfl) ?_
 refine GL_rd (v := .pointer (some ⟨gx, 0, none⟩)) (wn_none rfl) rfl (rd_assign rfl rfl) ?_
 refine GL_rd (v := .int _ _) (wn_none rfl) rfl (rd_assign rfl rfl) ?_
 refine GL_nil ?_
 refine GW_seq ?_
 refine GW_seq ?_
 refine GW_region ?_
 refine GL_rd (v := .pointer (some ⟨gx, 0, none⟩)) (wn_none rfl) rfl (rd_move rfl rfl) ?_
 refine GL_rd (wn_none rfl) rfl (rd_bin rfl rfl rfl (bo_pnil Try.underlying29)) ?_
 refine GL_rd (v := .bool _) (wn_none rfl) rfl (rd_move rfl rfl) ?_
 refine GL_rd (v := .int _ _) (wn_on rfl rfl rfl rfl) rfl (rd_move rfl rfl) ?_
 refine GL_rd (wn_on rfl rfl rfl rfl) rfl (rd_bin rfl rfl rfl (bo_boolE (q := false) bo_neq (by decide))) ?_
 refine GL_rd (v := .bool _) (wn_none rfl) rfl (rd_pickF rfl rfl rfl) ?_
 refine GL_nil ?_
 refine GW_false rfl ?_
 refine GW_skip ?_
 refine GW_seq ?_
 refine GW_region ?_
 refine GL_rd (v := .pointer (some ⟨gx, 0, none⟩)) (wn_none rfl) rfl (rd_move rfl rfl) ?_
 refine GL_call (wn_none rfl) rfl rfl (q_Of gx (imN ⟨3, 2, 2, 4⟩ mg tg cq tv cv mv ev) _ (imN_at (hp.get 0 rfl)) ⟨by show (0 : Int) ≤ 4; decide, by show (4 : Int) ≤ 80; decide⟩ (by show (List.replicate _ (0 : UInt8)).length ≤ 200; rw [List.length_replicate]; decide) (Nat.zero_le _)) rfl ?_
 rintro v0 w ⟨hv, hk⟩
 have hp := hp.comp hk
 obtain rfl : v0 = .agg ⟨rmC ⟨3, 2, 2, 4, 3⟩⟩ := hv.trans (by rw [roomR_new ⟨by decide, by decide, by decide⟩])
 refine GL_alloc (wn_none rfl) rfl rfl tz93 rfl hp ?_
 intro g w hp
 refine GL_store (i := 0) (wn_none rfl) rfl rfl rfl rfl ts93 rfl rfl (oneC rfl (oneC rfl (oneC rfl (oneC rfl (oneC rfl one0))))) hp rfl (by first | exact Nat.le_of_ble_eq_true rfl | simp [bys_length, *]) rfl ?_
 intro w hp
 refine GL_nil ?_
 refine GW_seq ?_
 refine GW_region ?_
 refine GL_lit (L := (bys [97, 98, 99])) (wn_none rfl) rfl rfl Try.underlying33 ts5 tz5 rfl (by kernel_rfl) rfl rfl hp ?_
 intro g2 w hp
 refine GL_convB (i := 0) (wn_none rfl) rfl rfl rfl Try.underlying33 Try.underlying5 hp rfl ?_
 intro w hp
 refine GL_make (m := 300) (wn_none rfl) rfl rfl rfl Try.underlying33 ti5 rfl rfl (by omega) (by omega) hp ?_
 intro g3 w hp
 refine GL_lit (L := [.slice (some ⟨g2, 0, none⟩) 3 3, .slice (some ⟨g3, 0, none⟩) 300 300]) (wn_none rfl) rfl rfl Try.underlying32 ts33 tz33 rfl (by kernel_rfl) rfl rfl hp ?_
 intro g4 w hp
 refine GL_call (wn_none rfl) rfl rfl (q_Need 1 2 _ [(.slice (some ⟨g2, 0, none⟩) 3 3, [97, 98, 99]), (.slice (some ⟨g3, 0, none⟩) 300 300, List.replicate 300 0)] _ (Sl.row (hp.get 0 rfl)) (by intro x hx; simp only [List.mem_cons, List.not_mem_nil, or_false] at hx; rcases hx with rfl | rfl; exact Sl.blk (hp.get 2 rfl) 1 _ rfl (by simp [maxLen]); exact (by rw [List.length_replicate, bys_replicate]; exact Sl.row (hp.get 1 rfl))) ⟨by show 2 ≤ 65536; decide, by intro x hx; simp only [List.mem_cons, List.not_mem_nil, or_false] at hx; rcases hx with rfl | rfl; (show 3 ≤ 65536; decide); (rw [List.length_replicate]; decide)⟩) rfl ?_
 rintro v0 w ⟨hv, hk⟩
 have hp := hp.comp hk
 obtain rfl : v0 = .agg ⟨rmC ⟨3, 2, 1, 2, 0⟩⟩ := hv.trans (by simp only [List.map_cons, List.map_nil, List.length_replicate]; rfl)
 refine GL_alloc (wn_none rfl) rfl rfl tz93 rfl hp ?_
 intro g5 w hp
 refine GL_store (i := 0) (wn_none rfl) rfl rfl rfl rfl ts93 rfl rfl (oneC rfl (oneC rfl (oneC rfl (oneC rfl (oneC rfl one0))))) hp rfl (by first | exact Nat.le_of_ble_eq_true rfl | simp [bys_length, *]) rfl ?_
 intro w hp
 refine GL_nil ?_
 refine GW_seq ?_
 refine GW_region ?_
 refine GL_call (wn_none rfl) rfl rfl (q_Plan 2 300 1 1 _) rfl ?_
 rintro v0 w ⟨hv, hk⟩
 have hp := hp.comp hk
 obtain rfl : v0 = .tuple #[.agg ⟨plC ⟨4, 2, 1, 1⟩⟩, .int .i64 0] := hv.trans (by rfl)
 refine GL_rd (v := .tuple _) (wn_none rfl) rfl (rd_move rfl rfl) ?_
 refine GL_rd (v := .agg ⟨_⟩) (wn_none rfl) rfl (rd_extract rfl rfl rfl) ?_
 refine GL_rd (v := .int _ _) (wn_none rfl) rfl (rd_extract rfl rfl rfl) ?_
 refine GL_alloc (wn_none rfl) rfl rfl tz23 rfl hp ?_
 intro g6 w hp
 refine GL_store (i := 0) (wn_none rfl) rfl rfl rfl rfl ts23 rfl rfl (oneC rfl (oneC rfl (oneC rfl (oneC rfl one0)))) hp rfl (by first | exact Nat.le_of_ble_eq_true rfl | simp [bys_length, *]) rfl ?_
 intro w hp
 refine GL_rd (v := .int _ _) (wn_none rfl) rfl (rd_assign rfl rfl) ?_
 refine GL_nil ?_
 refine GW_seq ?_
 refine GW_region ?_
 refine GL_call (wn_none rfl) rfl rfl (q_Plan 0 1 1 1 _) rfl ?_
 rintro v0 w ⟨hv, hk⟩
 have hp := hp.comp hk
 obtain rfl : v0 = .tuple #[.agg ⟨plC ⟨0, 0, 0, 0⟩⟩, .int .i64 1] := hv.trans (by rfl)
 refine GL_rd (v := .tuple _) (wn_none rfl) rfl (rd_move rfl rfl) ?_
 refine GL_rd (v := .agg ⟨_⟩) (wn_none rfl) rfl (rd_extract rfl rfl rfl) ?_
 refine GL_rd (v := .int _ _) (wn_none rfl) rfl (rd_extract rfl rfl rfl) ?_
 refine GL_alloc (wn_none rfl) rfl rfl tz23 rfl hp ?_
 intro g7 w hp
 refine GL_store (i := 0) (wn_none rfl) rfl rfl rfl rfl ts23 rfl rfl (oneC rfl (oneC rfl (oneC rfl (oneC rfl one0)))) hp rfl (by first | exact Nat.le_of_ble_eq_true rfl | simp [bys_length, *]) rfl ?_
 intro w hp
 refine GL_rd (v := .int _ _) (wn_none rfl) rfl (rd_assign rfl rfl) ?_
 refine GL_nil ?_
 refine GW_seq ?_
 refine GW_region ?_
 refine GL_rd (wn_none rfl) rfl (rd_loadC rfl rfl Try.underlying93 rfl ts93 (hp.get 6 rfl) (by first | (rw [bys_length]; first | exact a32_len _) | rfl | simp [bys_length, *])) ?_
 refine GL_rd (wn_none rfl) rfl (rd_buildS (L := (rmC ⟨3, 2, 2, 4, 3⟩)) rfl tz93 pl93 (by kernel_rfl)) ?_
 refine GL_rd (wn_none rfl) rfl (rd_bin rfl rfl rfl (bo_ints (xs := [3, 2, 2, 4, 3]) (ys := [3, 2, 2, 4, 3]) ia93 rfl rfl).1) ?_
 refine GL_rd (v := .bool _) (wn_none rfl) rfl (rd_move rfl rfl) ?_
 refine GL_split (t := 38) (b := _) rfl ?_ ?_
 ·intro hb; (try simp only [decide_eq_true_eq, decide_eq_false_iff_not, Bool.not_eq_true', Bool.not_eq_false', Bool.not_eq_eq_eq_not, Bool.not_true, Bool.not_false, Int.not_lt, Int.not_le] at hb)
  refine GL_rd (wn_on rfl rfl rfl rfl) rfl (rd_loadC rfl rfl Try.underlying93 rfl ts93 (hp.get 2 rfl) (by first | (rw [bys_length]; first | exact a32_len _) | rfl | simp [bys_length, *])) ?_
  refine GL_rd (wn_on rfl rfl rfl rfl) rfl (rd_buildS (L := (rmC ⟨3, 2, 1, 2, 0⟩)) rfl tz93 pl93 (by kernel_rfl)) ?_
  refine GL_rd (wn_on rfl rfl rfl rfl) rfl (rd_bin rfl rfl rfl (bo_ints (xs := [3, 2, 1, 2, 0]) (ys := [3, 2, 1, 2, 0]) ia93 rfl rfl).1) ?_
  refine GL_rd (v := .bool _) (wn_none rfl) rfl (rd_pickT rfl rfl rfl) ?_
  refine GL_rd (v := .bool _) (wn_none rfl) rfl (rd_move rfl rfl) ?_
  refine GL_split (t := 43) (b := _) rfl ?_ ?_
  ·intro hb2; (try simp only [decide_eq_true_eq, decide_eq_false_iff_not, Bool.not_eq_true', Bool.not_eq_false', Bool.not_eq_eq_eq_not, Bool.not_true, Bool.not_false, Int.not_lt, Int.not_le] at hb2)
   refine GL_rd (wn_on rfl rfl rfl rfl) rfl (rd_loadC rfl rfl Try.underlying93 rfl ts93 (hp.get 2 rfl) (by first | (rw [bys_length]; first | exact a32_len _) | rfl | simp [bys_length, *])) ?_
   refine GL_rd (wn_on rfl rfl rfl rfl) rfl (rd_loadC rfl rfl Try.underlying93 rfl ts93 (hp.get 6 rfl) (by first | (rw [bys_length]; first | exact a32_len _) | rfl | simp [bys_length, *])) ?_
   refine GL_call (wn_on rfl rfl rfl rfl) rfl rfl (q_Less ⟨3, 2, 1, 2, 0⟩ ⟨3, 2, 2, 4, 3⟩ _) rfl ?_
   rintro v0 w ⟨hv, hk⟩
   have hp := hp.comp hk
   obtain rfl : v0 = .bool true := hv.trans (by rfl)
   refine GL_rd (v := .bool _) (wn_none rfl) rfl (rd_pickT rfl rfl rfl) ?_
   refine GL_rd (v := .bool _) (wn_none rfl) rfl (rd_move rfl rfl) ?_
   refine GL_rd (v := .pointer (some ⟨gx, 0, none⟩)) (wn_on rfl rfl rfl rfl) rfl (rd_move rfl rfl) ?_
   refine GL_lit (L := (bys [97, 98, 99])) (wn_on rfl rfl rfl rfl) rfl rfl Try.underlying33 ts5 tz5 rfl (by kernel_rfl) rfl rfl hp ?_
   intro g8 w hp
   refine GL_convB (i := 0) (wn_on rfl rfl rfl rfl) rfl rfl rfl Try.underlying33 Try.underlying5 hp rfl ?_
   intro w hp
   refine GL_lit (L := [.slice (some ⟨g8, 0, none⟩) 3 3]) (wn_on rfl rfl rfl rfl) rfl rfl Try.underlying32 ts33 tz33 rfl (by kernel_rfl) rfl rfl hp ?_
   intro g9 w hp
   refine GL_call (wn_on rfl rfl rfl rfl) rfl rfl (q_Fits gx (imN ⟨3, 2, 2, 4⟩ mg tg cq tv cv mv ev) 1 2 _ [(.slice (some ⟨g8, 0, none⟩) 3 3, [97, 98, 99])] _ (Sl.row (hp.get 0 rfl)) (by intro x hx; simp only [List.mem_cons, List.not_mem_nil, or_false] at hx; subst hx; exact Sl.blk (hp.get 1 rfl) 1 _ rfl (by simp [maxLen])) (imN_at (hp.get 9 rfl)) ⟨by show (0 : Int) ≤ 4; decide, by show (4 : Int) ≤ 80; decide⟩ (by show (List.replicate _ (0 : UInt8)).length ≤ 200; rw [List.length_replicate]; decide) (Nat.zero_le _) ⟨by show 1 ≤ 65536; decide, by intro x hx; simp only [List.mem_cons, List.not_mem_nil, or_false] at hx; subst hx; show 3 ≤ 65536; decide⟩) rfl ?_
   rintro v0 w ⟨hv, hk⟩
   have hp := hp.comp hk
   obtain rfl : v0 = .bool true := hv.trans (by rw [roomR_new ⟨by decide, by decide, by decide⟩]; simp only [List.map_cons, List.map_nil]; rfl)
   refine GL_rd (v := .bool _) (wn_none rfl) rfl (rd_pickT rfl rfl rfl) ?_
   refine GL_rd (v := .bool _) (wn_none rfl) rfl (rd_move rfl rfl) ?_
   refine GL_rd (v := .pointer (some ⟨gx, 0, none⟩)) (wn_on rfl rfl rfl rfl) rfl (rd_move rfl rfl) ?_
   refine GL_call (wn_on rfl rfl rfl rfl) rfl rfl (q_Fits gx (imN ⟨3, 2, 2, 4⟩ mg tg cq tv cv mv ev) 3 0 (.slice none 0 0) [] _ (Sl.nil _ 1) (by intro x hx; cases hx) (imN_at (hp.get 9 rfl)) ⟨by show (0 : Int) ≤ 4; decide, by show (4 : Int) ≤ 80; decide⟩ (by show (List.replicate _ (0 : UInt8)).length ≤ 200; rw [List.length_replicate]; decide) (Nat.zero_le _) ⟨by decide, by intro x hx; cases hx⟩) rfl ?_
   rintro v0 w ⟨hv, hk⟩
   have hp := hp.comp hk
   obtain rfl : v0 = .bool false := hv.trans (by rw [roomR_new ⟨by decide, by decide, by decide⟩]; rfl)
   refine GL_rd (wn_on rfl rfl rfl rfl) rfl (rd_not rfl rfl) ?_
   refine GL_rd (v := .bool _) (wn_none rfl) rfl (rd_pickT rfl rfl rfl) ?_
   refine GL_rd (v := .bool _) (wn_none rfl) rfl (rd_move rfl rfl) ?_
   refine GL_rd (v := .pointer (some ⟨gx, 0, none⟩)) (wn_on rfl rfl rfl rfl) rfl (rd_move rfl rfl) ?_
   refine GL_make (m := 600) (wn_on rfl rfl rfl rfl) rfl rfl rfl Try.underlying33 ti5 rfl rfl (by omega) (by omega) hp ?_
   intro g10 w hp
   refine GL_call (wn_on rfl rfl rfl rfl) rfl rfl (q_Fresh0 gx (imN ⟨3, 2, 2, 4⟩ mg tg cq tv cv mv ev) _ (List.replicate 600 0) _ (imN_at (hp.get 10 rfl)) (by rw [List.length_replicate, bys_replicate]; exact Sl.row (hp.get 0 rfl)) (by rw [List.length_replicate]; decide) (enAll_new _) (by show 1 ≤ (List.replicate _ enZ).length; rw [List.length_replicate]; decide)) rfl ?_
   rintro v0 w ⟨hv, hk⟩
   have hp := hp.comp hk
   obtain rfl : v0 = .int .i64 2 := hv.trans (by rw [fresh600]; rfl)
   refine GL_rd (wn_on rfl rfl rfl rfl) rfl (rd_bin rfl rfl rfl bo_eql) ?_
   refine GL_rd (v := .bool _) (wn_none rfl) rfl (rd_pickT rfl rfl rfl) ?_
   refine GL_rd (v := .bool _) (wn_none rfl) rfl (rd_move rfl rfl) ?_
   refine GL_split (t := 66) (b := _) rfl ?_ ?_
   ·intro hb3; (try simp only [decide_eq_true_eq, decide_eq_false_iff_not, Bool.not_eq_true', Bool.not_eq_false', Bool.not_eq_eq_eq_not, Bool.not_true, Bool.not_false, Int.not_lt, Int.not_le] at hb3)
    refine GL_rd (v := .pointer (some ⟨gx, 0, none⟩)) (wn_on rfl rfl rfl rfl) rfl (rd_move rfl rfl) ?_
    refine GL_make (m := 600) (wn_on rfl rfl rfl rfl) rfl rfl rfl Try.underlying33 ti5 rfl rfl (by omega) (by omega) hp ?_
    intro g11 w hp
    refine GL_call (wn_on rfl rfl rfl rfl) rfl rfl (q_Saved0 gx (imN ⟨3, 2, 2, 4⟩ mg tg cq tv cv mv ev) _ (List.replicate 600 0) _ (imN_at (hp.get 11 rfl)) (by rw [List.length_replicate, bys_replicate]; exact Sl.row (hp.get 0 rfl)) (by rw [List.length_replicate]; decide) (enAll_new _) (by show 1 ≤ (List.replicate _ enZ).length; rw [List.length_replicate]; decide)) rfl ?_
    rintro v0 w ⟨hv, hk⟩
    have hp := hp.comp hk
    obtain rfl : v0 = .int .i64 1 := hv.trans (by rw [fresh600, List.length_replicate]; rfl)
    refine GL_rd (wn_on rfl rfl rfl rfl) rfl (rd_bin rfl rfl rfl bo_eql) ?_
    refine GL_rd (v := .bool _) (wn_none rfl) rfl (rd_pickT rfl rfl rfl) ?_
    refine GL_rd (v := .bool _) (wn_none rfl) rfl (rd_move rfl rfl) ?_
    refine GL_split (t := 72) (b := _) rfl ?_ ?_
    ·intro hb4; (try simp only [decide_eq_true_eq, decide_eq_false_iff_not, Bool.not_eq_true', Bool.not_eq_false', Bool.not_eq_eq_eq_not, Bool.not_true, Bool.not_false, Int.not_lt, Int.not_le] at hb4)
     refine GL_rd (v := .pointer (some ⟨gx, 0, none⟩)) (wn_on rfl rfl rfl rfl) rfl (rd_move rfl rfl) ?_
     refine GL_rd (wn_on rfl rfl rfl rfl) rfl (rd_buildA (L := (bys (List.replicate 32 0))) rfl tz66 Try.underlying66 ts5 (by kernel_rfl)) ?_
     refine GL_call (wn_on rfl rfl rfl rfl) rfl rfl (q_Frees0 gx (imN ⟨3, 2, 2, 4⟩ mg tg cq tv cv mv ev) a32Z _ (imN_at (hp.get 11 rfl)) (txF_new _ _)) rfl ?_
     rintro _ w ⟨rfl, hk⟩
     have hp := hp.comp hk
     refine GL_rd (wn_on rfl rfl rfl rfl) rfl (rd_bin rfl rfl rfl bo_eql) ?_
     refine GL_rd (v := .bool _) (wn_none rfl) rfl (rd_pickT rfl rfl rfl) ?_
     refine GL_rd (v := .bool _) (wn_none rfl) rfl (rd_move rfl rfl) ?_
     refine GL_split (t := 78) (b := _) rfl ?_ ?_
     ·intro hb5; (try simp only [decide_eq_true_eq, decide_eq_false_iff_not, Bool.not_eq_true', Bool.not_eq_false', Bool.not_eq_eq_eq_not, Bool.not_true, Bool.not_false, Int.not_lt, Int.not_le] at hb5)
      refine GL_rd (v := .int _ _) (wn_on rfl rfl rfl rfl) rfl (rd_move rfl rfl) ?_
      refine GL_rd (wn_on rfl rfl rfl rfl) rfl (rd_bin rfl rfl rfl bo_eql) ?_
      refine GL_rd (v := .bool _) (wn_none rfl) rfl (rd_pickT rfl rfl rfl) ?_
      refine GL_rd (v := .bool _) (wn_none rfl) rfl (rd_move rfl rfl) ?_
      refine GL_split (t := 82) (b := _) rfl ?_ ?_
      ·intro hb6; (try simp only [decide_eq_true_eq, decide_eq_false_iff_not, Bool.not_eq_true', Bool.not_eq_false', Bool.not_eq_eq_eq_not, Bool.not_true, Bool.not_false, Int.not_lt, Int.not_le] at hb6)
       refine GL_rd (wn_on rfl rfl rfl rfl) rfl (rd_field rfl rfl fa23_0 _ rfl) ?_
       refine GL_rd (wn_on rfl rfl rfl rfl) rfl (rd_load rfl rfl Try.underlying3 rfl ((cell_of_cells (hp.get 5 rfl) _).trans rfl)) ?_
       refine GL_rd (wn_on rfl rfl rfl rfl) rfl (rd_bin rfl rfl rfl bo_eql) ?_
       refine GL_rd (v := .bool _) (wn_none rfl) rfl (rd_pickT rfl rfl rfl) ?_
       refine GL_rd (v := .bool _) (wn_none rfl) rfl (rd_move rfl rfl) ?_
       refine GL_split (t := 87) (b := _) rfl ?_ ?_
       ·intro hb7; (try simp only [decide_eq_true_eq, decide_eq_false_iff_not, Bool.not_eq_true', Bool.not_eq_false', Bool.not_eq_eq_eq_not, Bool.not_true, Bool.not_false, Int.not_lt, Int.not_le] at hb7)
        refine GL_rd (v := .int _ _) (wn_on rfl rfl rfl rfl) rfl (rd_move rfl rfl) ?_
        refine GL_rd (wn_on rfl rfl rfl rfl) rfl (rd_bin rfl rfl rfl bo_eql) ?_
        refine GL_rd (v := .bool _) (wn_none rfl) rfl (rd_pickT rfl rfl rfl) ?_
        refine GL_rd (v := .bool _) (wn_none rfl) rfl (rd_move rfl rfl) ?_
        refine GL_split (t := 91) (b := _) rfl ?_ ?_
        ·intro hb8; (try simp only [decide_eq_true_eq, decide_eq_false_iff_not, Bool.not_eq_true', Bool.not_eq_false', Bool.not_eq_eq_eq_not, Bool.not_true, Bool.not_false, Int.not_lt, Int.not_le] at hb8)
         refine GL_call (wn_on rfl rfl rfl rfl) rfl rfl (q_OfNil _) rfl ?_
         rintro _ w ⟨rfl, hk⟩
         have hp := hp.comp hk
         refine GL_rd (wn_on rfl rfl rfl rfl) rfl (rd_buildS (L := (rmC rmZ)) rfl tz93 pl93 (by kernel_rfl)) ?_
         refine GL_rd (wn_on rfl rfl rfl rfl) rfl (rd_bin rfl rfl rfl (bo_ints (xs := [0, 0, 0, 0, 0]) (ys := [0, 0, 0, 0, 0]) ia93 rfl rfl).1) ?_
         refine GL_rd (v := .bool _) (wn_none rfl) rfl (rd_pickT rfl rfl rfl) ?_
         refine GL_rd (v := .bool _) (wn_none rfl) rfl (rd_assign rfl rfl) ?_
         refine GL_nil ?_
         refine GW_ret ?_
         exact ⟨_, res1 Try.results10 (rv_tmp (v := .bool _) rfl rfl), rfl, hp.mods⟩
        ·intro hb8; (try simp only [decide_eq_true_eq, decide_eq_false_iff_not, Bool.not_eq_true', Bool.not_eq_false', Bool.not_eq_eq_eq_not, Bool.not_true, Bool.not_false, Int.not_lt, Int.not_le] at hb8)
         first | exact absurd rfl hb8 | exact absurd trivial hb8 | exact (by simp at hb8)
       ·intro hb7; (try simp only [decide_eq_true_eq, decide_eq_false_iff_not, Bool.not_eq_true', Bool.not_eq_false', Bool.not_eq_eq_eq_not, Bool.not_true, Bool.not_false, Int.not_lt, Int.not_le] at hb7)
        first | exact absurd rfl hb7 | exact absurd trivial hb7 | exact (by simp at hb7)
      ·intro hb6; (try simp only [decide_eq_true_eq, decide_eq_false_iff_not, Bool.not_eq_true', Bool.not_eq_false', Bool.not_eq_eq_eq_not, Bool.not_true, Bool.not_false, Int.not_lt, Int.not_le] at hb6)
       first | exact absurd rfl hb6 | exact absurd trivial hb6 | exact (by simp at hb6)
     ·intro hb5; (try simp only [decide_eq_true_eq, decide_eq_false_iff_not, Bool.not_eq_true', Bool.not_eq_false', Bool.not_eq_eq_eq_not, Bool.not_true, Bool.not_false, Int.not_lt, Int.not_le] at hb5)
      first | exact absurd rfl hb5 | exact absurd trivial hb5 | exact (by simp at hb5)
    ·intro hb4; (try simp only [decide_eq_true_eq, decide_eq_false_iff_not, Bool.not_eq_true', Bool.not_eq_false', Bool.not_eq_eq_eq_not, Bool.not_true, Bool.not_false, Int.not_lt, Int.not_le] at hb4)
     first | exact absurd rfl hb4 | exact absurd trivial hb4 | exact (by simp at hb4)
   ·intro hb3; (try simp only [decide_eq_true_eq, decide_eq_false_iff_not, Bool.not_eq_true', Bool.not_eq_false', Bool.not_eq_eq_eq_not, Bool.not_true, Bool.not_false, Int.not_lt, Int.not_le] at hb3)
    first | exact absurd rfl hb3 | exact absurd trivial hb3 | exact (by simp at hb3)
  ·intro hb2; (try simp only [decide_eq_true_eq, decide_eq_false_iff_not, Bool.not_eq_true', Bool.not_eq_false', Bool.not_eq_eq_eq_not, Bool.not_true, Bool.not_false, Int.not_lt, Int.not_le] at hb2)
   first | exact absurd rfl hb2 | exact absurd trivial hb2 | exact (by simp at hb2)
 ·intro hb; (try simp only [decide_eq_true_eq, decide_eq_false_iff_not, Bool.not_eq_true', Bool.not_eq_false', Bool.not_eq_eq_eq_not, Bool.not_true, Bool.not_false, Int.not_lt, Int.not_le] at hb)
  first | exact absurd rfl hb | exact absurd trivial hb | exact (by simp at hb)
set_option maxHeartbeats 4000000 in
theorem law_QuotaPlans (t b c a : Int) (w0 : World) : Does Try.prog 3 #[.int .i64 t, .int .i64 b, .int .i64 c, .int .i64 a] w0 fun v w' => v = .bool true ∧ Hp w0 [] w' [] := by
 refine does_of (l := [.int .i64 t, .int .i64 b, .int .i64 c, .int .i64 a]) Try.func3 (by kernel_rfl) rfl Try.ntmps3 rfl rfl (by kernel_rfl) ?_
 have hp := Hp.refl w0 []
 refine GW_seq ?_
 refine GW_region ?_
 refine GL_rd (v := .bool _) (wn_none rfl) rfl (rd_assign rfl rfl) ?_
 refine GL_nil ?_
 refine GW_seq ?_
 refine GW_region ?_
 refine GL_rd (v := .int _ _) (wn_none rfl) rfl (rd_move rfl rfl) ?_
 refine GL_rd (v := .int _ _) (wn_none rfl) rfl (rd_move rfl rfl) ?_
 refine GL_rd (v := .int _ _) (wn_none rfl) rfl (rd_move rfl rfl) ?_
 refine GL_rd (v := .int _ _) (wn_none rfl) rfl (rd_move rfl rfl) ?_
 refine GL_call (wn_none rfl) rfl rfl (q_Plan t b c a _) rfl ?_
 rintro _ w ⟨rfl, hk⟩
 have hp := hp.comp hk
 refine GL_rd (v := .tuple _) (wn_none rfl) rfl (rd_move rfl rfl) ?_
 refine GL_rd (v := .agg ⟨_⟩) (wn_none rfl) rfl (rd_extract rfl rfl rfl) ?_
 refine GL_rd (v := .int .i64 (planQ t b c a).2) (wn_none rfl) rfl (rd_extract rfl rfl rfl) ?_
 refine GL_alloc (wn_none rfl) rfl rfl tz23 rfl hp ?_
 intro g w hp
 refine GL_store (i := 0) (wn_none rfl) rfl rfl rfl rfl ts23 rfl rfl (oneC rfl (oneC rfl (oneC rfl (oneC rfl one0)))) hp rfl (by first | exact Nat.le_of_ble_eq_true rfl | simp [bys_length, *]) rfl ?_
 intro w hp
 refine GL_rd (v := .int .i64 (planQ t b c a).2) (wn_none rfl) rfl (rd_assign rfl rfl) ?_
 refine GL_nil ?_
 refine GW_seq ?_
 refine GW_cut (fun f_0 w' => ∃ (bq : Bool) (fz : _), f_0 = (upd (upd (upd (upd (upd (upd (upd fz 40 (.bool bq)) 0 (.int .i64 t)) 1 (.int .i64 b)) 2 (.int .i64 c)) 3 (.int .i64 a)) 9 (.pointer (some ⟨g, 0, none⟩))) 10 (.int .i64 (planQ t b c a).2)) ∧ Hp w0 [] w' [cells g 23 (plC (planQ t b c a).1)] ∧ (bq = true ↔ (t < 1 ∨ b < 1 ∨ 2048 < b ∨ c < 1 ∨ a < 1))) ?_ ?_
 ·skip
  refine GW_region ?_
  refine GL_rd (v := .int _ _) (wn_none rfl) rfl (rd_move rfl rfl) ?_
  refine GL_rd (wn_none rfl) rfl (rd_bin rfl rfl rfl bo_lss) ?_
  refine GL_rd (v := .bool _) (wn_none rfl) rfl (rd_move rfl rfl) ?_
  refine GL_split (t := 25) (b := _) rfl ?_ ?_
  ·intro hb; (try simp only [decide_eq_true_eq, decide_eq_false_iff_not, Bool.not_eq_true', Bool.not_eq_false', Bool.not_eq_eq_eq_not, Bool.not_true, Bool.not_false, Int.not_lt, Int.not_le] at hb)
   refine GL_pass (nw_off rfl rfl rfl rfl rfl) rfl ?_
   refine GL_pass (nw_off rfl rfl rfl rfl rfl) rfl ?_
   refine GL_rd (v := .bool _) (wn_none rfl) rfl (rd_pickT rfl rfl rfl) ?_
   refine GL_rd (v := .bool _) (wn_none rfl) rfl (rd_move rfl rfl) ?_
   refine GL_pass (nw_off rfl rfl rfl rfl rfl) rfl ?_
   refine GL_pass (nw_off rfl rfl rfl rfl rfl) rfl ?_
   refine GL_rd (v := .bool _) (wn_none rfl) rfl (rd_pickT rfl rfl rfl) ?_
   refine GL_rd (v := .bool _) (wn_none rfl) rfl (rd_move rfl rfl) ?_
   refine GL_pass (nw_off rfl rfl rfl rfl rfl) rfl ?_
   refine GL_pass (nw_off rfl rfl rfl rfl rfl) rfl ?_
   refine GL_rd (v := .bool _) (wn_none rfl) rfl (rd_pickT rfl rfl rfl) ?_
   refine GL_rd (v := .bool _) (wn_none rfl) rfl (rd_move rfl rfl) ?_
   refine GL_pass (nw_off rfl rfl rfl rfl rfl) rfl ?_
   refine GL_pass (nw_off rfl rfl rfl rfl rfl) rfl ?_
   refine GL_rd (v := .bool _) (wn_none rfl) rfl (rd_pickT rfl rfl rfl) ?_
   refine GL_nil ?_
   have hp := ((hp.front 0 rfl).take 1)
   exact ⟨_, _, slots7 rfl rfl rfl rfl rfl rfl rfl, hp, by first | (rw [decide_eq_true_eq]; omega) | exact ⟨fun _ => (by omega), fun _ => rfl⟩⟩
  ·intro hb; (try simp only [decide_eq_true_eq, decide_eq_false_iff_not, Bool.not_eq_true', Bool.not_eq_false', Bool.not_eq_eq_eq_not, Bool.not_true, Bool.not_false, Int.not_lt, Int.not_le] at hb)
   refine GL_rd (v := .int _ _) (wn_on rfl rfl rfl rfl) rfl (rd_move rfl rfl) ?_
   refine GL_rd (wn_on rfl rfl rfl rfl) rfl (rd_bin rfl rfl rfl bo_lss) ?_
   refine GL_rd (v := .bool _) (wn_none rfl) rfl (rd_pickF rfl rfl rfl) ?_
   refine GL_rd (v := .bool _) (wn_none rfl) rfl (rd_move rfl rfl) ?_
   refine GL_split (t := 29) (b := _) rfl ?_ ?_
   ·intro hb2; (try simp only [decide_eq_true_eq, decide_eq_false_iff_not, Bool.not_eq_true', Bool.not_eq_false', Bool.not_eq_eq_eq_not, Bool.not_true, Bool.not_false, Int.not_lt, Int.not_le] at hb2)
    refine GL_pass (nw_off rfl rfl rfl rfl rfl) rfl ?_
    refine GL_pass (nw_off rfl rfl rfl rfl rfl) rfl ?_
    refine GL_rd (v := .bool _) (wn_none rfl) rfl (rd_pickT rfl rfl rfl) ?_
    refine GL_rd (v := .bool _) (wn_none rfl) rfl (rd_move rfl rfl) ?_
    refine GL_pass (nw_off rfl rfl rfl rfl rfl) rfl ?_
    refine GL_pass (nw_off rfl rfl rfl rfl rfl) rfl ?_
    refine GL_rd (v := .bool _) (wn_none rfl) rfl (rd_pickT rfl rfl rfl) ?_
    refine GL_rd (v := .bool _) (wn_none rfl) rfl (rd_move rfl rfl) ?_
    refine GL_pass (nw_off rfl rfl rfl rfl rfl) rfl ?_
    refine GL_pass (nw_off rfl rfl rfl rfl rfl) rfl ?_
    refine GL_rd (v := .bool _) (wn_none rfl) rfl (rd_pickT rfl rfl rfl) ?_
    refine GL_nil ?_
    have hp := ((hp.front 0 rfl).take 1)
    exact ⟨_, _, slots7 rfl rfl rfl rfl rfl rfl rfl, hp, by first | (rw [decide_eq_true_eq]; omega) | exact ⟨fun _ => (by omega), fun _ => rfl⟩⟩
   ·intro hb2; (try simp only [decide_eq_true_eq, decide_eq_false_iff_not, Bool.not_eq_true', Bool.not_eq_false', Bool.not_eq_eq_eq_not, Bool.not_true, Bool.not_false, Int.not_lt, Int.not_le] at hb2)
    refine GL_rd (v := .int _ _) (wn_on rfl rfl rfl rfl) rfl (rd_move rfl rfl) ?_
    refine GL_rd (wn_on rfl rfl rfl rfl) rfl (rd_bin rfl rfl rfl bo_gtr) ?_
    refine GL_rd (v := .bool _) (wn_none rfl) rfl (rd_pickF rfl rfl rfl) ?_
    refine GL_rd (v := .bool _) (wn_none rfl) rfl (rd_move rfl rfl) ?_
    refine GL_split (t := 33) (b := _) rfl ?_ ?_
    ·intro hb3; (try simp only [decide_eq_true_eq, decide_eq_false_iff_not, Bool.not_eq_true', Bool.not_eq_false', Bool.not_eq_eq_eq_not, Bool.not_true, Bool.not_false, Int.not_lt, Int.not_le] at hb3)
     refine GL_pass (nw_off rfl rfl rfl rfl rfl) rfl ?_
     refine GL_pass (nw_off rfl rfl rfl rfl rfl) rfl ?_
     refine GL_rd (v := .bool _) (wn_none rfl) rfl (rd_pickT rfl rfl rfl) ?_
     refine GL_rd (v := .bool _) (wn_none rfl) rfl (rd_move rfl rfl) ?_
     refine GL_pass (nw_off rfl rfl rfl rfl rfl) rfl ?_
     refine GL_pass (nw_off rfl rfl rfl rfl rfl) rfl ?_
     refine GL_rd (v := .bool _) (wn_none rfl) rfl (rd_pickT rfl rfl rfl) ?_
     refine GL_nil ?_
     have hp := ((hp.front 0 rfl).take 1)
     exact ⟨_, _, slots7 rfl rfl rfl rfl rfl rfl rfl, hp, by first | (rw [decide_eq_true_eq]; omega) | exact ⟨fun _ => (by omega), fun _ => rfl⟩⟩
    ·intro hb3; (try simp only [decide_eq_true_eq, decide_eq_false_iff_not, Bool.not_eq_true', Bool.not_eq_false', Bool.not_eq_eq_eq_not, Bool.not_true, Bool.not_false, Int.not_lt, Int.not_le] at hb3)
     refine GL_rd (v := .int _ _) (wn_on rfl rfl rfl rfl) rfl (rd_move rfl rfl) ?_
     refine GL_rd (wn_on rfl rfl rfl rfl) rfl (rd_bin rfl rfl rfl bo_lss) ?_
     refine GL_rd (v := .bool _) (wn_none rfl) rfl (rd_pickF rfl rfl rfl) ?_
     refine GL_rd (v := .bool _) (wn_none rfl) rfl (rd_move rfl rfl) ?_
     refine GL_split (t := 37) (b := _) rfl ?_ ?_
     ·intro hb4; (try simp only [decide_eq_true_eq, decide_eq_false_iff_not, Bool.not_eq_true', Bool.not_eq_false', Bool.not_eq_eq_eq_not, Bool.not_true, Bool.not_false, Int.not_lt, Int.not_le] at hb4)
      refine GL_pass (nw_off rfl rfl rfl rfl rfl) rfl ?_
      refine GL_pass (nw_off rfl rfl rfl rfl rfl) rfl ?_
      refine GL_rd (v := .bool _) (wn_none rfl) rfl (rd_pickT rfl rfl rfl) ?_
      refine GL_nil ?_
      have hp := ((hp.front 0 rfl).take 1)
      exact ⟨_, _, slots7 rfl rfl rfl rfl rfl rfl rfl, hp, by first | (rw [decide_eq_true_eq]; omega) | exact ⟨fun _ => (by omega), fun _ => rfl⟩⟩
     ·intro hb4; (try simp only [decide_eq_true_eq, decide_eq_false_iff_not, Bool.not_eq_true', Bool.not_eq_false', Bool.not_eq_eq_eq_not, Bool.not_true, Bool.not_false, Int.not_lt, Int.not_le] at hb4)
      refine GL_rd (v := .int _ _) (wn_on rfl rfl rfl rfl) rfl (rd_move rfl rfl) ?_
      refine GL_rd (wn_on rfl rfl rfl rfl) rfl (rd_bin rfl rfl rfl bo_lss) ?_
      refine GL_rd (v := .bool _) (wn_none rfl) rfl (rd_pickF rfl rfl rfl) ?_
      refine GL_nil ?_
      have hp := ((hp.front 0 rfl).take 1)
      exact ⟨_, _, slots7 rfl rfl rfl rfl rfl rfl rfl, hp, by first | (rw [decide_eq_true_eq]; omega) | exact ⟨fun _ => (by omega), fun _ => rfl⟩⟩
 ·rintro f w ⟨bq, fz, rfl, hp, hbq⟩
  refine GW_cond rfl (fun hb5 => ?_) (fun hb5 => ?_)
  ·(try simp only [decide_eq_true_eq, decide_eq_false_iff_not, Bool.not_eq_true', Bool.not_eq_false', Bool.not_eq_eq_eq_not, Bool.not_true, Bool.not_false, Int.not_lt, Int.not_le] at hb5)
   have hbad := hbq.1 hb5
   refine GW_seq ?_
   refine GW_region ?_
   refine GL_rd (v := .int .i64 (planQ t b c a).2) (wn_none rfl) rfl (rd_move rfl rfl) ?_
   refine GL_rd (wn_none rfl) rfl (rd_bin rfl rfl rfl (bo_boolE (q := true) bo_eql (by rw [planQ_bad hbad]; rfl))) ?_
   refine GL_rd (v := .bool _) (wn_none rfl) rfl (rd_move rfl rfl) ?_
   refine GL_rd (wn_on rfl rfl rfl rfl) rfl (rd_loadC rfl rfl Try.underlying23 rfl ts23 (hp.get 0 rfl) (by first | (rw [bys_length]; first | exact a32_len _) | rfl | simp [bys_length, *])) ?_
   refine GL_rd (wn_on rfl rfl rfl rfl) rfl (rd_buildS (L := (plC ⟨0, 0, 0, 0⟩)) rfl tz23 pl23 (by kernel_rfl)) ?_
   refine GL_rd (wn_on rfl rfl rfl rfl) rfl (rd_bin rfl rfl rfl (bo_boolE (q := true) ((bo_ints (xs := [(planQ t b c a).1.s, (planQ t b c a).1.t, (planQ t b c a).1.c, (planQ t b c a).1.a]) (ys := [0, 0, 0, 0]) ia23 rfl rfl).1) (by rw [planQ_bad hbad]; rfl))) ?_
   refine GL_rd (v := .bool _) (wn_none rfl) rfl (rd_pickT rfl rfl rfl) ?_
   refine GL_rd (v := .bool _) (wn_none rfl) rfl (rd_move rfl rfl) ?_
   refine GL_call (wn_on rfl rfl rfl rfl) rfl rfl (law_qworks _) rfl ?_
   rintro _ w ⟨rfl, hk⟩
   have hp := hp.comp hk
   refine GL_rd (v := .bool _) (wn_none rfl) rfl (rd_pickT rfl rfl rfl) ?_
   refine GL_rd (v := .bool _) (wn_none rfl) rfl (rd_assign rfl rfl) ?_
   refine GL_nil ?_
   refine GW_ret ?_
   exact ⟨_, res1 Try.results3 (rv_tmp (v := .bool _) rfl rfl), rfl, hp.mods⟩
  ·(try simp only [decide_eq_true_eq, decide_eq_false_iff_not, Bool.not_eq_true', Bool.not_eq_false', Bool.not_eq_eq_eq_not, Bool.not_true, Bool.not_false, Int.not_lt, Int.not_le] at hb5)
   have hok : ¬ (t < 1 ∨ b < 1 ∨ 2048 < b ∨ c < 1 ∨ a < 1) := fun q => by have h2 := hbq.2 q; rw [hb5] at h2; cases h2
   refine GW_skip ?_
   refine GW_seq ?_
   refine GW_seq ?_
   refine GW_region ?_
   refine GL_rd (v := .int _ _) (wn_none rfl) rfl (rd_move rfl rfl) ?_
   refine GL_rd (wn_none rfl) rfl (rd_bin rfl rfl rfl bo_gtr) ?_
   refine GL_nil ?_
   refine GW_cond rfl (fun hb6 => ?_) (fun hb6 => ?_)
   ·(try simp only [decide_eq_true_eq, decide_eq_false_iff_not, Bool.not_eq_true', Bool.not_eq_false', Bool.not_eq_eq_eq_not, Bool.not_true, Bool.not_false, Int.not_lt, Int.not_le] at hb6)
    have hq := planQ_big hok hb6
    refine GW_seq ?_
    refine GW_region ?_
    refine GL_rd (v := .int .i64 (planQ t b c a).2) (wn_none rfl) rfl (rd_move rfl rfl) ?_
    refine GL_rd (wn_none rfl) rfl (rd_bin rfl rfl rfl (bo_boolE (q := true) bo_eql (by rw [hq]; rfl))) ?_
    refine GL_rd (v := .bool _) (wn_none rfl) rfl (rd_move rfl rfl) ?_
    refine GL_call (wn_on rfl rfl rfl rfl) rfl rfl (law_qworks _) rfl ?_
    rintro _ w ⟨rfl, hk⟩
    have hp := hp.comp hk
    refine GL_rd (v := .bool _) (wn_none rfl) rfl (rd_pickT rfl rfl rfl) ?_
    refine GL_rd (v := .bool _) (wn_none rfl) rfl (rd_assign rfl rfl) ?_
    refine GL_nil ?_
    refine GW_ret ?_
    exact ⟨_, res1 Try.results3 (rv_tmp (v := .bool _) rfl rfl), rfl, hp.mods⟩
   ·(try simp only [decide_eq_true_eq, decide_eq_false_iff_not, Bool.not_eq_true', Bool.not_eq_false', Bool.not_eq_eq_eq_not, Bool.not_true, Bool.not_false, Int.not_lt, Int.not_le] at hb6)
    have hq := planQ_ok hok (by have := hb6; omega)
    refine GW_skip ?_
    refine GW_seq ?_
    refine GW_seq ?_
    refine GW_region ?_
    refine GL_rd (v := .int .i64 (planQ t b c a).2) (wn_none rfl) rfl (rd_move rfl rfl) ?_
    refine GL_rd (wn_none rfl) rfl (rd_bin rfl rfl rfl (bo_boolE (q := false) bo_neq (by rw [hq]; simp))) ?_
    refine GL_rd (v := .bool _) (wn_none rfl) rfl (rd_move rfl rfl) ?_
    refine GL_rd (wn_on rfl rfl rfl rfl) rfl (rd_field rfl rfl fa23_1 _ rfl) ?_
    refine GL_rd (wn_on rfl rfl rfl rfl) rfl (rd_load rfl rfl Try.underlying3 rfl ((cell_of_cells (hp.get 0 rfl) _).trans rfl)) ?_
    refine GL_rd (v := .int _ _) (wn_on rfl rfl rfl rfl) rfl (rd_move rfl rfl) ?_
    refine GL_rd (wn_on rfl rfl rfl rfl) rfl (rd_bin rfl rfl rfl (bo_boolE (q := false) bo_neq (by rw [hq]; simp))) ?_
    refine GL_rd (v := .bool _) (wn_none rfl) rfl (rd_pickF rfl rfl rfl) ?_
    refine GL_rd (v := .bool _) (wn_none rfl) rfl (rd_move rfl rfl) ?_
    refine GL_rd (wn_on rfl rfl rfl rfl) rfl (rd_field rfl rfl fa23_2 _ rfl) ?_
    refine GL_rd (wn_on rfl rfl rfl rfl) rfl (rd_load rfl rfl Try.underlying3 rfl ((cell_of_cells (hp.get 0 rfl) _).trans rfl)) ?_
    refine GL_rd (v := .int _ _) (wn_on rfl rfl rfl rfl) rfl (rd_move rfl rfl) ?_
    refine GL_rd (wn_on rfl rfl rfl rfl) rfl (rd_bin rfl rfl rfl (bo_boolE (q := false) bo_neq (by rw [hq]; simp))) ?_
    refine GL_rd (v := .bool _) (wn_none rfl) rfl (rd_pickF rfl rfl rfl) ?_
    refine GL_rd (v := .bool _) (wn_none rfl) rfl (rd_move rfl rfl) ?_
    refine GL_rd (wn_on rfl rfl rfl rfl) rfl (rd_field rfl rfl fa23_3 _ rfl) ?_
    refine GL_rd (wn_on rfl rfl rfl rfl) rfl (rd_load rfl rfl Try.underlying3 rfl ((cell_of_cells (hp.get 0 rfl) _).trans rfl)) ?_
    refine GL_rd (v := .int _ _) (wn_on rfl rfl rfl rfl) rfl (rd_move rfl rfl) ?_
    refine GL_rd (wn_on rfl rfl rfl rfl) rfl (rd_bin rfl rfl rfl (bo_boolE (q := false) bo_neq (by rw [hq]; simp))) ?_
    refine GL_rd (v := .bool _) (wn_none rfl) rfl (rd_pickF rfl rfl rfl) ?_
    refine GL_rd (v := .bool _) (wn_none rfl) rfl (rd_move rfl rfl) ?_
    refine GL_rd (wn_on rfl rfl rfl rfl) rfl (rd_field rfl rfl fa23_0 _ rfl) ?_
    refine GL_rd (wn_on rfl rfl rfl rfl) rfl (rd_load rfl rfl Try.underlying3 rfl ((cell_of_cells (hp.get 0 rfl) _).trans rfl)) ?_
    refine GL_rd (v := .int _ _) (wn_on rfl rfl rfl rfl) rfl (rd_move rfl rfl) ?_
    refine GL_rd (v := .int _ _) (wn_on rfl rfl rfl rfl) rfl (rd_move rfl rfl) ?_
    refine GL_rd (wn_on rfl rfl rfl rfl) rfl (rd_bin rfl rfl rfl (bo_add64 (by omega))) ?_
    refine GL_rd (wn_on rfl rfl rfl rfl) rfl (rd_bin rfl rfl rfl (bo_quo64 (by omega) (by omega) (by omega))) ?_
    refine GL_rd (wn_on rfl rfl rfl rfl) rfl (rd_bin rfl rfl rfl (bo_mul64 (mul_in (by omega) (by omega)))) ?_
    refine GL_rd (wn_on rfl rfl rfl rfl) rfl (rd_bin rfl rfl rfl (bo_boolE (q := false) bo_neq (by rw [hq, show (b - 1) / 256 + 1 = (b + 255) / 256 by omega]; simp))) ?_
    refine GL_rd (v := .bool _) (wn_none rfl) rfl (rd_pickF rfl rfl rfl) ?_
    refine GL_nil ?_
    refine GW_false rfl ?_
    refine GW_skip ?_
    refine GW_seq ?_
    refine GW_seq ?_
    refine GW_region ?_
    refine GL_rd (wn_none rfl) rfl (rd_loadC rfl rfl Try.underlying23 rfl ts23 (hp.get 0 rfl) (by first | (rw [bys_length]; first | exact a32_len _) | rfl | simp [bys_length, *])) ?_
    refine GL_call (wn_none rfl) rfl rfl (ref_plCheck (planQ t b c a).1 _) rfl ?_
    rintro _ w ⟨rfl, hk⟩
    have hp := hp.comp hk
    refine GL_rd (wn_none rfl) rfl (rd_bin rfl rfl rfl bo_neq) ?_
    refine GL_rd (v := .bool _) (wn_none rfl) rfl (rd_move rfl rfl) ?_
    refine GL_split (t := 91) (b := _) rfl ?_ ?_
    ·intro hb7; (try simp only [decide_eq_true_eq, decide_eq_false_iff_not, Bool.not_eq_true', Bool.not_eq_false', Bool.not_eq_eq_eq_not, Bool.not_true, Bool.not_false, Int.not_lt, Int.not_le] at hb7)
     refine GL_pass (nw_off rfl rfl rfl rfl rfl) rfl ?_
     refine GL_pass (nw_off rfl rfl rfl rfl rfl) rfl ?_
     refine GL_rd (v := .bool _) (wn_none rfl) rfl (rd_pickT rfl rfl rfl) ?_
     refine GL_nil ?_
     refine GW_true rfl ?_
     refine GW_seq ?_
     refine GW_region ?_
     refine GL_call (wn_none rfl) rfl rfl (law_qworks _) rfl ?_
     rintro _ w ⟨rfl, hk⟩
     have hp := hp.comp hk
     refine GL_rd (v := .bool _) (wn_none rfl) rfl (rd_assign rfl rfl) ?_
     refine GL_nil ?_
     refine GW_ret ?_
     exact ⟨_, res1 Try.results3 (rv_tmp (v := .bool _) rfl rfl), rfl, hp.mods⟩
    ·intro hb7; (try simp only [decide_eq_true_eq, decide_eq_false_iff_not, Bool.not_eq_true', Bool.not_eq_false', Bool.not_eq_eq_eq_not, Bool.not_true, Bool.not_false, Int.not_lt, Int.not_le] at hb7)
     have hpc : planC (planQ t b c a).1 = 0 := hb7
     refine GL_rd (v := .int _ _) (wn_on rfl rfl rfl rfl) rfl (rd_move rfl rfl) ?_
     refine GL_rd (wn_on rfl rfl rfl rfl) rfl (rd_bin rfl rfl rfl bo_gtr) ?_
     refine GL_rd (v := .bool _) (wn_none rfl) rfl (rd_pickF rfl rfl rfl) ?_
     refine GL_nil ?_
     refine GW_cond rfl (fun hb8 => ?_) (fun hb8 => ?_)
     ·(try simp only [decide_eq_true_eq, decide_eq_false_iff_not, Bool.not_eq_true', Bool.not_eq_false', Bool.not_eq_eq_eq_not, Bool.not_true, Bool.not_false, Int.not_lt, Int.not_le] at hb8)
      refine GW_seq ?_
      refine GW_region ?_
      refine GL_call (wn_none rfl) rfl rfl (law_qworks _) rfl ?_
      rintro _ w ⟨rfl, hk⟩
      have hp := hp.comp hk
      refine GL_rd (v := .bool _) (wn_none rfl) rfl (rd_assign rfl rfl) ?_
      refine GL_nil ?_
      refine GW_ret ?_
      exact ⟨_, res1 Try.results3 (rv_tmp (v := .bool _) rfl rfl), rfl, hp.mods⟩
     ·(try simp only [decide_eq_true_eq, decide_eq_false_iff_not, Bool.not_eq_true', Bool.not_eq_false', Bool.not_eq_eq_eq_not, Bool.not_true, Bool.not_false, Int.not_lt, Int.not_le] at hb8)
      have hle : t ≤ 12 := by have := hb8; omega
      have hpb := planB_iff.1 (planB_of hpc)
      rw [hq] at hpb
      replace hpb : (1 ≤ t * ((b - 1) / 256 + 1) ∧ t * ((b - 1) / 256 + 1) ≤ 200) ∧ (1 ≤ t ∧ t ≤ 40) ∧ (1 ≤ c ∧ c ≤ 40) ∧ 1 ≤ a ∧ a ≤ 80 := hpb
      obtain ⟨nb, hnb⟩ : ∃ n : Nat, b = (n : Int) := ⟨b.toNat, by omega⟩
      refine GW_skip ?_
      refine GW_seq ?_
      refine GW_region ?_
      refine GL_rd (wn_none rfl) rfl (rd_loadC rfl rfl Try.underlying23 rfl ts23 (hp.get 0 rfl) (by first | (rw [bys_length]; first | exact a32_len _) | rfl | simp [bys_length, *])) ?_
      refine GL_call (wn_none rfl) rfl rfl (im_New (planQ t b c a).1 _ hpc) rfl ?_
      rintro _ w ⟨gx, mg, tg, cq, mq, tv, cv, mv, ev, rfl, hk⟩
      have hp := hp.comp hk
      refine GL_rd (v := .tuple _) (wn_none rfl) rfl (rd_move rfl rfl) ?_
      refine GL_rd (v := .pointer (some ⟨gx, 0, none⟩)) (wn_none rfl) rfl (rd_extract rfl rfl rfl) ?_
      refine GL_rd (v := .int _ _) (wn_none rfl) rfl (rd_extract rfl rfl rfl) ?_
      refine GL_rd (v := .pointer (some ⟨gx, 0, none⟩)) (wn_none rfl) rfl (rd_assign rfl rfl) ?_
      refine GL_rd (v := .int _ _) (wn_none rfl) rfl (rd_assign rfl rfl) ?_
      refine GL_nil ?_
      refine GW_seq ?_
      refine GW_seq ?_
      refine GW_region ?_
      refine GL_rd (v := .pointer (some ⟨gx, 0, none⟩)) (wn_none rfl) rfl (rd_move rfl rfl) ?_
      refine GL_rd (wn_none rfl) rfl (rd_bin rfl rfl rfl (bo_pnil Try.underlying29)) ?_
      refine GL_rd (v := .bool _) (wn_none rfl) rfl (rd_move rfl rfl) ?_
      refine GL_rd (v := .int _ _) (wn_on rfl rfl rfl rfl) rfl (rd_move rfl rfl) ?_
      refine GL_rd (wn_on rfl rfl rfl rfl) rfl (rd_bin rfl rfl rfl (bo_boolE (q := false) bo_neq (by decide))) ?_
      refine GL_rd (v := .bool _) (wn_none rfl) rfl (rd_pickF rfl rfl rfl) ?_
      refine GL_nil ?_
      refine GW_false rfl ?_
      refine GW_skip ?_
      refine GW_seq ?_
      refine GW_region ?_
      refine GL_rd (v := .slice _ _ _) (wn_none rfl) rfl (rd_assign rfl rfl) ?_
      refine GL_nil ?_
      refine GW_seq ?_
      refine GW_seq ?_
      refine GW_region ?_
      refine GL_rd (v := .int _ _) (wn_none rfl) rfl (rd_assign rfl rfl) ?_
      refine GL_nil ?_
      refine GW_block ?_
      refine GW_loop ?_
      refine Lp_ind (α := Nat × List (Value × List UInt8) × Value) (fun a_0 f_0 w' => match a_0 with | (i, L, y) => ∃ fz, f_0 = (upd (upd (upd (upd (upd (upd (upd fz 13 (y)) 14 (.int .i64 (i : Int))) 0 (.int .i64 t)) 1 (.int .i64 b)) 2 (.int .i64 c)) 3 (.int .i64 a)) 11 (.pointer (some ⟨gx, 0, none⟩))) ∧ Hp w0 [] w' [packL (imH 117 171 174 164 158 160 5 gx (imN (planQ t b c a).1 mg tg cq tv cv mv ev) ++ [cells cq 178 [.slice none 0 0, .map (some mq)], .blk mq (.map ⟨mapE 0 []⟩ 0)]), .row 33 1 y L.length (L.map Prod.fst), packL (rowsZ 5 L)] ∧ ((i : Int) ≤ t) ∧ (L.length = i) ∧ (∀ x ∈ L, x.2 = List.replicate nb 0)) (fun a_0 => match a_0 with | (i, L, y) => (t - i).toNat) ?_ (0, [], .slice none 0 0) _ _ ?_
      ·rintro ⟨i, L, y⟩ f wz ⟨fz, rfl, hp, hi0, hLi, hL2⟩ ihL0
       refine Lp_round ?_
       refine GW_seq ?_
       refine GW_seq ?_
       refine GW_region ?_
       refine GL_rd (v := .int _ _) (wn_none rfl) rfl (rd_move rfl rfl) ?_
       refine GL_rd (v := .int _ _) (wn_none rfl) rfl (rd_move rfl rfl) ?_
       refine GL_rd (wn_none rfl) rfl (rd_bin rfl rfl rfl bo_lss) ?_
       refine GL_nil ?_
       refine GW_cond rfl (fun hb9 => ?_) (fun hb9 => ?_)
       ·(try simp only [decide_eq_true_eq, decide_eq_false_iff_not, Bool.not_eq_true', Bool.not_eq_false', Bool.not_eq_eq_eq_not, Bool.not_true, Bool.not_false, Int.not_lt, Int.not_le] at hb9)
        refine GW_skip ?_
        refine GW_seq ?_
        refine GW_block ?_
        refine GW_region ?_
        refine GL_rd (v := y) (wn_none rfl) rfl (rd_move rfl rfl) ?_
        refine GL_rd (v := .int _ _) (wn_none rfl) rfl (rd_move rfl rfl) ?_
        refine GL_make (m := nb) (wn_none rfl) rfl rfl rfl Try.underlying33 ti5 rfl hnb (by omega) (by omega) hp ?_
        intro g2 w hp
        refine GL_lit (L := [.slice (some ⟨g2, 0, none⟩) nb nb]) (wn_none rfl) rfl rfl Try.underlying32 ts33 tz33 rfl (by kernel_rfl) rfl rfl hp ?_
        intro g3 w hp
        refine GL_append (i := 3) (wn_none rfl) rfl rfl rfl rfl Try.underlying32 ti33 rfl (by decide) hp rfl (Sl.row (hp.get 0 rfl)) (one1 rfl) (by omega) (by omega) ?_
        intro v w hp
        refine GL_rd (v := v) (wn_none rfl) rfl (rd_assign rfl rfl) ?_
        refine GL_nil ?_
        refine GW_region ?_
        refine GL_rd (v := .int _ _) (wn_none rfl) rfl (rd_move rfl rfl) ?_
        refine GL_rd (wn_none rfl) rfl (rd_bin rfl rfl rfl (bo_add64 (by omega))) ?_
        refine GL_rd (v := .int _ _) (wn_none rfl) rfl (rd_assign rfl rfl) ?_
        refine GL_nil ?_
        have hp := (((((hp.front 3 rfl).front 3 rfl).front 4 rfl).front 4 rfl).take 4)
        have hp := Hp.rowsZ_in (l := List.replicate nb 0) (by rw [List.length_replicate, bys_replicate]; exact hp)
        have hp := hp.cast (show _ = [packL (rowsZ 5 (L ++ [(Value.slice (some ⟨g2, 0, none⟩) nb nb, List.replicate nb 0)])), packL (imH 117 171 174 164 158 160 5 gx (imN (planQ t b c a).1 mg tg cq tv cv mv ev) ++ [cells cq 178 [.slice none 0 0, .map (some mq)], .blk mq (.map ⟨mapE 0 []⟩ 0)]), .row 33 1 v (L ++ [(Value.slice (some ⟨g2, 0, none⟩) nb nb, List.replicate nb 0)]).length ((L ++ [(Value.slice (some ⟨g2, 0, none⟩) nb nb, List.replicate nb 0)]).map Prod.fst)] by rw [List.length_append, List.map_append]; rfl)
        have hp := ((hp.front 2 rfl).front 2 rfl)
        exact ihL0 (i + 1, L ++ [(Value.slice (some ⟨g2, 0, none⟩) nb nb, List.replicate nb 0)], _) _ _ (by simp only []; omega) ⟨_, slots7 rfl rfl rfl rfl rfl rfl rfl, hp, by omega, by rw [List.length_append, hLi]; rfl, fun x hx => by rcases List.mem_append.1 hx with h | h; exact hL2 x h; rw [List.mem_singleton.1 h]⟩
       ·(try simp only [decide_eq_true_eq, decide_eq_false_iff_not, Bool.not_eq_true', Bool.not_eq_false', Bool.not_eq_eq_eq_not, Bool.not_true, Bool.not_false, Int.not_lt, Int.not_le] at hb9)
        have hit : (L.length : Int) = t := by omega
        refine GW_exit ?_
        refine GW_seq ?_
        refine GW_region ?_
        refine GL_rd (v := .pointer (some ⟨gx, 0, none⟩)) (wn_none rfl) rfl (rd_move rfl rfl) ?_
        refine GL_rd (v := .int _ _) (wn_none rfl) rfl (rd_move rfl rfl) ?_
        refine GL_rd (v := .int _ _) (wn_none rfl) rfl (rd_move rfl rfl) ?_
        refine GL_rd (v := y) (wn_none rfl) rfl (rd_move rfl rfl) ?_
        refine GL_call (wn_none rfl) rfl rfl (q_Fits gx (imN (planQ t b c a).1 mg tg cq tv cv mv ev) c a _ L _ (Sl.row (hp.get 1 rfl)) (rowsZ_sl (hp.get 2 rfl)) (imN_at (hp.get 0 rfl)) (by show 0 ≤ (planQ t b c a).1.a ∧ (planQ t b c a).1.a ≤ 80; rw [hq]; show 0 ≤ a ∧ a ≤ 80; omega) (by show (List.replicate _ (0 : UInt8)).length ≤ 200; rw [List.length_replicate, hq]; show (t * ((b - 1) / 256 + 1)).toNat ≤ 200; omega) (Nat.zero_le _) ⟨by omega, fun x hx => by rw [hL2 x hx, List.length_replicate]; omega⟩) rfl ?_
        rintro v0 w ⟨hv, hk⟩
        have hp := hp.comp hk
        obtain rfl : v0 = .bool true := hv.trans (by rw [roomR_new (by rw [hq]; show 0 ≤ t * ((b - 1) / 256 + 1) ∧ 0 ≤ t ∧ 0 ≤ c; omega), hq]; exact congrArg _ (fits_yes hL2 hnb (by omega) (by omega) (by omega) (by omega)))
        refine GL_rd (v := .bool _) (wn_none rfl) rfl (rd_move rfl rfl) ?_
        refine GL_rd (v := .pointer (some ⟨gx, 0, none⟩)) (wn_on rfl rfl rfl rfl) rfl (rd_move rfl rfl) ?_
        refine GL_rd (v := .int _ _) (wn_on rfl rfl rfl rfl) rfl (rd_move rfl rfl) ?_
        refine GL_rd (wn_on rfl rfl rfl rfl) rfl (rd_bin rfl rfl rfl (bo_add64 (by omega))) ?_
        refine GL_rd (v := .int _ _) (wn_on rfl rfl rfl rfl) rfl (rd_move rfl rfl) ?_
        refine GL_rd (v := y) (wn_on rfl rfl rfl rfl) rfl (rd_move rfl rfl) ?_
        refine GL_call (wn_on rfl rfl rfl rfl) rfl rfl (q_Fits gx (imN (planQ t b c a).1 mg tg cq tv cv mv ev) (c + 1) a _ L _ (Sl.row (hp.get 1 rfl)) (rowsZ_sl (hp.get 2 rfl)) (imN_at (hp.get 0 rfl)) (by show 0 ≤ (planQ t b c a).1.a ∧ (planQ t b c a).1.a ≤ 80; rw [hq]; show 0 ≤ a ∧ a ≤ 80; omega) (by show (List.replicate _ (0 : UInt8)).length ≤ 200; rw [List.length_replicate, hq]; show (t * ((b - 1) / 256 + 1)).toNat ≤ 200; omega) (Nat.zero_le _) ⟨by omega, fun x hx => by rw [hL2 x hx, List.length_replicate]; omega⟩) rfl ?_
        rintro v0 w ⟨hv, hk⟩
        have hp := hp.comp hk
        obtain rfl : v0 = .bool false := hv.trans (by rw [roomR_new (by rw [hq]; show 0 ≤ t * ((b - 1) / 256 + 1) ∧ 0 ≤ t ∧ 0 ≤ c; omega), hq]; exact congrArg _ (fits_no (by omega)))
        refine GL_rd (wn_on rfl rfl rfl rfl) rfl (rd_not rfl rfl) ?_
        refine GL_rd (v := .bool _) (wn_none rfl) rfl (rd_pickT rfl rfl rfl) ?_
        refine GL_rd (v := .bool _) (wn_none rfl) rfl (rd_move rfl rfl) ?_
        refine GL_call (wn_on rfl rfl rfl rfl) rfl rfl (law_qworks _) rfl ?_
        rintro _ w ⟨rfl, hk⟩
        have hp := hp.comp hk
        refine GL_rd (v := .bool _) (wn_none rfl) rfl (rd_pickT rfl rfl rfl) ?_
        refine GL_rd (v := .bool _) (wn_none rfl) rfl (rd_assign rfl rfl) ?_
        refine GL_nil ?_
        refine GW_ret ?_
        exact ⟨_, res1 Try.results3 (rv_tmp (v := .bool _) rfl rfl), rfl, hp.mods⟩
      ·have hp := hp.packNil
       have hp := hp.nilRow 33 1
       have hp := ((((hp.front 1 rfl).front 1 rfl).front 2 rfl).take 3)
       refine ⟨_, slots7 rfl rfl rfl rfl rfl rfl rfl, hp, by omega, rfl, fun x hx => by cases hx⟩
end Go.Proofs.Ytpagpmioopaciaa
