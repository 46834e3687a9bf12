/- Walks of functions of the program. -/
import Derived.Test.YtpagpmioopaciaaGreatPFChk
import Derived.Test.YtpagpmioopaciaaGreatPTreS
set_option linter.unusedVariables false
set_option linter.unusedSimpArgs false
namespace Go.Proofs.YtpagpmioopaciaaGreat
open Go.Mo Go.RowKit
set_option maxHeartbeats 1000000 in
theorem chk_Of (n : Nat) (lv : Value) (l : List A32) (w0 : World) (hA : Sl w0 lv 32 l.length (l.flatMap adC)) (hn : n ≤ 4294967295) (hl : l.length ≤ 65536) : Does Tryz.prog 60 #[.int .i64 (n : Int), lv] w0 fun v w' => v = .agg ⟨bys (txSum n l).1⟩ ∧ Hp w0 [] w' [] := by
 obtain ⟨A, c, rfl⟩ := sl_shape hA
 refine does_of (l := [.int .i64 (n : Int), .slice A l.length c]) Tryz.func60 (by kernel_rfl) rfl Tryz.ntmps60 rfl rfl (by kernel_rfl) ?_
 have hp := Hp.refl w0 []
 refine GW_seq ?_
 refine GW_region ?_
 refine GL_alloc (wn_none rfl) rfl rfl tz30 rfl hp ?_
 intro g w hp
 refine GL_nil ?_
 refine GW_seq ?_
 refine GW_region ?_
 refine GL_call (wn_none rfl) rfl rfl (dig_New _) rfl ?_
 rintro _ w ⟨gh, rfl, hk⟩
 have hp := hp.comp hk
 refine GL_rd (v := .pointer (some ⟨_, _, none⟩)) (wn_none rfl) rfl (rd_assign rfl rfl) ?_
 refine GL_nil ?_
 refine GW_seq ?_
 refine GW_region ?_
 refine GL_rd (v := .pointer (some ⟨_, _, none⟩)) (wn_none rfl) rfl (rd_move rfl rfl) ?_
 refine GL_lit (L := (bys txtW)) (wn_none rfl) rfl rfl Tryz.underlying35 ts5 tz5 rfl (by kernel_rfl) rfl rfl hp ?_
 intro g2 w hp
 refine GL_convB (i := 0) (wn_none rfl) rfl rfl rfl Tryz.underlying35 Tryz.underlying5 hp rfl ?_
 intro w hp
 have hp := (((((hp.front 3 rfl).front 1 rfl).front 3 rfl).front 3 rfl).take 4)
 refine GL_call (wn_none rfl) rfl rfl (dig_Add gh [] _ _ _ txtW _ (hp.ownsT 2) (fun w' h => Sl.blk (hp.stays 2 2 rfl (by decide) h) 1 _ rfl (by simp [maxLen])) (by decide)) rfl ?_
 rintro _ w ⟨rv2, hk⟩
 have hp := hp.turnsT 2 hk
 refine GL_nil ?_
 refine GW_seq ?_
 refine GW_region ?_
 refine GL_rd (v := .pointer (some ⟨_, _, none⟩)) (wn_none rfl) rfl (rd_move rfl rfl) ?_
 refine GL_rd (v := .int _ _) (wn_none rfl) rfl (rd_move rfl rfl) ?_
 refine GL_rd (wn_none rfl) rfl (rd_convE (q := (n : Int)) rfl rfl Tryz.underlying62 Tryz.underlying3 (by simp) (IntWalk.u64_in _ (by omega))) ?_
 refine GL_call (wn_none rfl) rfl rfl (word_Put n 4 _ (by omega) (by decide)) rfl ?_
 rintro _ w ⟨q, rfl, hk⟩
 have hp := hp.comp hk
 have hp := ((((((hp.front 4 rfl).front 4 rfl).front 2 rfl).front 4 rfl).front 4 rfl).take 5)
 refine GL_call (wn_none rfl) rfl rfl (dig_Add gh txtW _ _ _ (putL n 4) _ (hp.ownsT 2) (fun w' h => Sl.row (hp.stays 2 2 rfl (by decide) h)) (by show 4 + 4 ≤ _; omega)) rfl ?_
 rintro _ w ⟨rv2, hk⟩
 have hp := hp.turnsT 2 hk
 refine GL_nil ?_
 refine GW_seq ?_
 refine GW_seq ?_
 refine GW_region ?_
 refine GL_rd (v := .slice _ _ _) (wn_none rfl) rfl (rd_move rfl rfl) ?_
 refine GL_rd (wn_none rfl) rfl (rd_len rfl rfl Tryz.underlying50) ?_
 refine GL_rd (v := .int _ _) (wn_none rfl) rfl (rd_move rfl rfl) ?_
 refine GL_nil ?_
 refine GW_block ?_
 refine GW_loop ?_
 refine Lp_ind (α := Nat × Value × Option Addr) (fun a_0 f_0 w' => match a_0 with | (i, rv, A) => ∃ fz, f_0 = (upd (upd (upd (upd (upd fz 4 (.pointer (some ⟨g, 0, none⟩))) 5 (.pointer (some ⟨gh, 0, none⟩))) 18 (.slice A l.length c)) 19 (.int .i64 (l.length : Int))) 20 (.int .i64 (i : Int))) ∧ Hp w0 [] w' [cells gh 125 (hsC (txtW ++ putL n 4 ++ laidA (l.take i)) rv), .row 5 1 rv (hrB (txtW ++ putL n 4 ++ laidA (l.take i))).length (bys (hrB (txtW ++ putL n 4 ++ laidA (l.take i)))), cells g 30 (List.replicate 32 (.int .u8 0))] ∧ (i ≤ l.length) ∧ (Sl w0 (.slice A l.length c) 32 l.length (l.flatMap adC))) (fun a_0 => match a_0 with | (i, rv, A) => l.length - i) ?_ (0, rv2, A) _ _ ?_
 ·rintro ⟨i, rv, A⟩ f wz ⟨fz, rfl, hp, hi0, hA⟩ ihL0
  refine Lp_round ?_
  refine GW_seq ?_
  refine GW_region ?_
  refine GL_rd (wn_none rfl) rfl (rd_bin rfl rfl rfl bo_lss) ?_
  refine GL_nil ?_
  refine GW_seq ?_
  refine GW_cond rfl (fun hb => ?_) (fun hb => ?_)
  ·(try simp only [decide_eq_true_eq, decide_eq_false_iff_not, Bool.not_eq_true', Bool.not_eq_false', Bool.not_eq_eq_eq_not, Bool.not_true, Bool.not_false, Int.not_lt, Int.not_le] at hb)
   obtain ⟨gA, bA, rfl⟩ := hA.addr (by rw [flat_length adC_len]; omega)
   refine GW_skip ?_
   refine GW_seq ?_
   refine GW_block ?_
   refine GW_seq ?_
   refine GW_region ?_
   refine GL_rd (wn_none rfl) rfl (rd_indexS (j := i) rfl rfl rfl Tryz.underlying50 ts30 rfl (by omega) _ rfl) ?_
   refine GL_rd (wn_none rfl) rfl (rd_loadN (L := bys (adAt l i).1) rfl rfl Tryz.underlying30 rfl ts30 (by rw [bys_length]; exact (adAt l i).2) (fun j u hj => (hA.keep hp.mod).adE i (by omega) hj)) ?_
   refine GL_alloc (wn_none rfl) rfl rfl tz30 rfl hp ?_
   intro g3 w hp
   refine GL_store (i := 0) (wn_none rfl) rfl rfl rfl rfl ts30 rfl (by rw [bys_length]; exact (adAt l i).2) (bys_one _) hp rfl (Nat.le_of_ble_eq_true rfl) (splice_all _ _ (by rw [bys_length, (adAt l i).2]; rfl)) ?_
   intro w hp
   refine GL_nil ?_
   refine GW_region ?_
   refine GL_rd (v := .pointer (some ⟨_, _, none⟩)) (wn_none rfl) rfl (rd_move rfl rfl) ?_
   refine GL_rd (wn_none rfl) rfl (rd_sliceA (lo := 0) (hi := 32) rfl rfl Tryz.underlying30 ts5 at_none to_none (by decide) (by decide) (by decide) _ rfl) ?_
   have hp := (((((hp.front 3 rfl).front 1 rfl).front 3 rfl).front 3 rfl).take 4)
   refine GL_call (wn_none rfl) rfl rfl (dig_Add gh (txtW ++ putL n 4 ++ laidA (l.take i)) _ _ _ (adAt l i).1 _ (hp.ownsT 2) (fun w' h => Sl.ofA (hp.stays 2 2 rfl (by decide) h)) (by simp only [List.length_append, putL_length, laidA_length, List.length_take, txtW, List.length_cons, List.length_nil, (adAt l i).2]; omega)) rfl ?_
   rintro _ w ⟨rv2, hk⟩
   have hp := hp.turnsT 2 hk
   refine GL_nil ?_
   refine GW_region ?_
   refine GL_rd (wn_none rfl) rfl (rd_bin rfl rfl rfl (bo_add64 (by omega))) ?_
   refine GL_rd (v := .int _ _) (wn_none rfl) rfl (rd_move rfl rfl) ?_
   refine GL_nil ?_
   rw [List.append_assoc, ← laidA_succ (by omega)] at hp
   have hp := ((((hp.front 3 rfl).front 2 rfl).front 2 rfl).take 3)
   exact ihL0 (i + 1, rv2, _) _ _ (by simp only []; omega) ⟨_, slots5 rfl rfl rfl rfl rfl, hp, by omega, hA⟩
  ·(try simp only [decide_eq_true_eq, decide_eq_false_iff_not, Bool.not_eq_true', Bool.not_eq_false', Bool.not_eq_eq_eq_not, Bool.not_true, Bool.not_false, Int.not_lt, Int.not_le] at hb)
   have hil : i = l.length := by omega
   rw [hil, List.take_length] at hp
   have hp := hp.cast (show _ = [cells gh 125 (hsC (txSaid n l) rv), .row 5 1 rv (hrB (txSaid n l)).length (bys (hrB (txSaid n l))), cells g 30 (List.replicate 32 (.int .u8 0))] from rfl)
   refine GW_exit ?_
   refine GW_seq ?_
   refine GW_region ?_
   refine GL_rd (v := .pointer (some ⟨_, _, none⟩)) (wn_none rfl) rfl (rd_move rfl rfl) ?_
   have hcl := txSaid_length n l
   refine GL_call (wn_none rfl) rfl rfl (dig_Sum gh (txSaid n l) rv _ (hp.get 0 rfl) (Sl.row (hp.get 1 rfl)) (by omega)) rfl ?_
   rintro _ w ⟨rfl, hk⟩
   have hp := hp.comp hk
   refine GL_store (i := 2) (wn_none rfl) rfl rfl rfl rfl ts30 rfl (by rw [bys_length]; exact (txSum n l).2) (bys_one _) hp rfl (Nat.le_of_ble_eq_true rfl) (splice_all _ _ (by rw [bys_length]; exact (txSum n l).2.trans rfl)) ?_
   intro w hp
   refine GL_nil ?_
   refine GW_ret ?_
   exact ⟨_, res1 Tryz.results60 (rv_cell rfl rfl Tryz.underlying30 rfl ts30 (by rw [bys_length]; exact (txSum n l).2) (hp.get 2 rfl)), rfl, hp.mods⟩
 ·have hp := ((((hp.front 4 rfl).front 2 rfl).front 2 rfl).take 3)
  have e0 : (txtW ++ putL n 4 ++ laidA (l.take 0)) = (txtW ++ putL n 4) := by simp [laidA]
  have hp := hp.cast (show _ = [cells gh 125 (hsC (txtW ++ putL n 4 ++ laidA (l.take 0)) rv2), .row 5 1 rv2 (hrB (txtW ++ putL n 4 ++ laidA (l.take 0))).length (bys (hrB (txtW ++ putL n 4 ++ laidA (l.take 0)))), cells g 30 (List.replicate 32 (.int .u8 0))] by rw [e0]; rfl)
  refine ⟨_, slots5 rfl rfl rfl rfl rfl, hp, Nat.zero_le _, hA⟩
theorem chk_Text (sv : Value) (l : List UInt8) (w0 : World) (hI : Sl w0 sv 1 l.length (bys l)) (hb : l.length ≤ 65536) : Does Tryz.prog 36 #[sv] w0 fun v w' => v = .agg ⟨bys (txOf l).1⟩ ∧ Hp w0 [] w' [] := by
 obtain ⟨A, c, rfl⟩ := sl_shape hI
 refine does_of (l := [.slice A l.length c]) Tryz.func36 (by kernel_rfl) rfl Tryz.ntmps36 rfl rfl (by kernel_rfl) ?_
 have hp := Hp.refl w0 []
 refine GW_seq ?_
 refine GW_region ?_
 refine GL_alloc (wn_none rfl) rfl rfl tz30 rfl hp ?_
 intro g w hp
 refine GL_nil ?_
 refine GW_seq ?_
 refine GW_region ?_
 refine GL_rd (v := .slice _ _ _) (wn_none rfl) rfl (rd_move rfl rfl) ?_
 refine GL_rd (wn_none rfl) rfl (rd_len rfl rfl Tryz.underlying35) ?_
 refine GL_rd (v := .slice _ _ _) (wn_none rfl) rfl (rd_move rfl rfl) ?_
 refine GL_call (wn_none rfl) rfl rfl (chk_Addresses _ l _ (hI.keep hp.mod) hb) rfl ?_
 intro va w hk
 have hp := hp.comp hk
 refine GL_call (wn_none rfl) rfl rfl (chk_Of l.length _ (adrsC l) _ (Sl.row (hp.get 0 rfl)) (by omega) (by rw [adrsC_len]; unfold cntC; omega)) rfl ?_
 rintro _ w ⟨rfl, hk⟩
 have hp := hp.comp hk
 refine GL_store (i := 1) (wn_none rfl) rfl rfl rfl rfl ts30 rfl (by rw [bys_length]; exact (txOf l).2) (bys_one _) hp rfl (Nat.le_of_ble_eq_true rfl) (splice_all _ _ (by rw [bys_length]; exact (txOf l).2.trans rfl)) ?_
 intro w hp
 refine GL_nil ?_
 refine GW_ret ?_
 exact ⟨_, res1 Tryz.results36 (rv_cell rfl rfl Tryz.underlying30 rfl ts30 (by rw [bys_length]; exact (txOf l).2) (hp.get 1 rfl)), rfl, hp.mods⟩
theorem tr_Leaf (n : Nat) (sv : Value) (l : List UInt8) (w0 : World) (hI : Sl w0 sv 1 l.length (bys l)) (hb : l.length ≤ 65536) (hn : n ≤ 4294967295) : Does Tryz.prog 77 #[.int .i64 (n : Int), sv] w0 fun v w' => v = .agg ⟨bys (lvS n l).1⟩ ∧ Hp w0 [] w' [] := by
 obtain ⟨A, c, rfl⟩ := sl_shape hI
 refine does_of (l := [.int .i64 (n : Int), .slice A l.length c]) Tryz.func77 (by kernel_rfl) rfl Tryz.ntmps77 rfl rfl (by kernel_rfl) ?_
 have hp := Hp.refl w0 []
 refine GW_seq ?_
 refine GW_region ?_
 refine GL_alloc (wn_none rfl) rfl rfl tz30 rfl hp ?_
 intro g w hp
 refine GL_nil ?_
 refine GW_seq ?_
 refine GW_region ?_
 refine GL_lit (L := (bys leafW)) (wn_none rfl) rfl rfl Tryz.underlying35 ts5 tz5 rfl (by kernel_rfl) rfl rfl hp ?_
 intro g2 w hp
 refine GL_convB (i := 0) (wn_none rfl) rfl rfl rfl Tryz.underlying35 Tryz.underlying5 hp rfl ?_
 intro w hp
 refine GL_rd (v := .int _ _) (wn_none rfl) rfl (rd_move rfl rfl) ?_
 refine GL_rd (wn_none rfl) rfl (rd_convE (q := (n : Int)) rfl rfl Tryz.underlying62 Tryz.underlying3 (by simp) (IntWalk.u64_in _ (by omega))) ?_
 refine GL_call (wn_none rfl) rfl rfl (word_Put n 4 _ (by omega) (by decide)) rfl ?_
 rintro _ w ⟨q, rfl, hk⟩
 have hp := hp.comp hk
 refine GL_rd (v := .slice _ _ _) (wn_none rfl) rfl (rd_move rfl rfl) ?_
 refine GL_lit (L := [.slice (some ⟨g2, 0, none⟩) 4 4, .slice (some ⟨q, 0, none⟩) 4 4, .slice A l.length c]) (wn_none rfl) rfl rfl Tryz.underlying22 ts35 tz35 rfl (by kernel_rfl) rfl rfl hp ?_
 intro g3 w hp
 refine GL_call (wn_none rfl) rfl rfl (dig_Of _ 3 [(.slice (some ⟨g2, 0, none⟩) 4 4, leafW), (.slice (some ⟨q, 0, none⟩) 4 4, putL n 4), (.slice A l.length c, l)] _ (Sl.row (hp.get 0 rfl)) (by intro x hx; simp only [List.mem_cons, List.not_mem_nil, or_false] at hx; rcases hx with rfl | rfl | rfl; exact Sl.blk (hp.get 2 rfl) 1 _ rfl (by simp [maxLen]); exact (by rw [putL_length]; exact Sl.row (hp.get 1 rfl)); exact hI.keep hp.mod) (by simp [leafW, lvS, putL_length] <;> omega)) rfl ?_
 rintro v0 w ⟨hv, hk⟩
 have hp := hp.comp hk
 obtain rfl : v0 = .agg ⟨bys (lvS n l).1⟩ := hv.trans (by simp [leafW, lvS, putL_length])
 refine GL_store (i := 3) (wn_none rfl) rfl rfl rfl rfl ts30 rfl (by rw [bys_length]; exact (lvS n l).2) (bys_one _) hp rfl (Nat.le_of_ble_eq_true rfl) (splice_all _ _ (by rw [bys_length]; exact (lvS n l).2.trans rfl)) ?_
 intro w hp
 refine GL_nil ?_
 refine GW_ret ?_
 exact ⟨_, res1 Tryz.results77 (rv_cell rfl rfl Tryz.underlying30 rfl ts30 (by rw [bys_length]; exact (lvS n l).2) (hp.get 3 rfl)), rfl, hp.mods⟩
theorem tr_join (a b : A32) (w0 : World) : Does Tryz.prog 78 #[.agg ⟨bys a.1⟩, .agg ⟨bys b.1⟩] w0 fun v w' => v = .agg ⟨bys (ndS a b).1⟩ ∧ Hp w0 [] w' [] := by
 refine does_of (l := [.agg ⟨bys a.1⟩, .agg ⟨bys b.1⟩]) Tryz.func78 (by kernel_rfl) rfl Tryz.ntmps78 rfl rfl (by kernel_rfl) ?_
 have hp := Hp.refl w0 []
 refine GW_seq ?_
 refine GW_region ?_
 refine GL_box (wn_none rfl) rfl rfl rfl rfl hp ?_
 intro g w hp
 refine GL_box (wn_none rfl) rfl rfl rfl rfl hp ?_
 intro g2 w hp
 refine GL_alloc (wn_none rfl) rfl rfl tz30 rfl hp ?_
 intro g3 w hp
 refine GL_nil ?_
 refine GW_seq ?_
 refine GW_drawnK 6 (.one 2 true (.one 3 true (.one 0 false (.one 1 false (.one 4 false (.one 5 false (.one 6 false .nil))))))) mixed (by kernel_rfl) hp (fun _ h => h) fun w hp => ?_
 have hpS := hp
 refine GO_rd rfl rfl (wn_none rfl) rfl hpS (fun w hp => (rd_sliceA (lo := 0) (hi := 32) rfl rfl Tryz.underlying30 ts5 at_none to_none (by decide) (by decide) (by decide) _ rfl)) ?_
 refine GO_rd rfl rfl (wn_none rfl) rfl hpS (fun w hp => (rd_sliceA (lo := 0) (hi := 32) rfl rfl Tryz.underlying30 ts5 at_none to_none (by decide) (by decide) (by decide) _ rfl)) ?_
 refine GO_of_GL rfl ?_
 refine GL_lit (L := (bys nodeW)) (wn_none rfl) rfl rfl Tryz.underlying35 ts5 tz5 rfl (by kernel_rfl) rfl rfl hp ?_
 intro g4 w hp
 have hpS2 := (hp.sub (.cons _ (.cons_cons _ (.cons_cons _ (.cons_cons _ .slnil)))))
 refine GL_nil ⟨fun _ => hpS2, ?_⟩
 refine GO_of_GL rfl ?_
 refine GL_convB (i := 0) (wn_none rfl) rfl rfl rfl Tryz.underlying35 Tryz.underlying5 hp rfl ?_
 intro w hp
 have hpS3 := (hp.sub (.cons _ (.cons_cons _ (.cons_cons _ (.cons_cons _ .slnil)))))
 refine GL_nil ⟨fun _ => hpS3, ?_⟩
 refine GO_of_GL rfl ?_
 refine GL_lit (L := [.slice (some ⟨g4, 0, none⟩) 4 4, .slice (some ⟨g, 0, none⟩) 32 32, .slice (some ⟨g2, 0, none⟩) 32 32]) (wn_none rfl) rfl rfl Tryz.underlying22 ts35 tz35 rfl (by kernel_rfl) rfl rfl hp ?_
 intro g5 w hp
 have hpS4 := (hp.sub (.cons _ (.cons _ (.cons_cons _ (.cons_cons _ (.cons_cons _ .slnil))))))
 refine GL_nil ⟨fun _ => hpS4, ?_⟩
 refine GO_of_GL rfl ?_
 refine GL_call (wn_none rfl) rfl rfl (dig_Of _ 3 [(.slice (some ⟨g4, 0, none⟩) 4 4, nodeW), (.slice (some ⟨g, 0, none⟩) 32 32, a.1), (.slice (some ⟨g2, 0, none⟩) 32 32, b.1)] _ (Sl.row (hp.get 0 rfl)) (by intro x hx; simp only [List.mem_cons, List.not_mem_nil, or_false] at hx; rcases hx with rfl | rfl | rfl; exact Sl.blk (hp.get 1 rfl) 1 _ rfl (by simp [maxLen]); exact Sl.ofA (hp.get 4 rfl); exact Sl.ofA (hp.get 3 rfl)) (by simp [nodeW, ndS, a.2, b.2] <;> omega)) rfl ?_
 rintro v0 w ⟨hv, hk⟩
 have hp := hp.comp hk
 obtain rfl : v0 = .agg ⟨bys (ndS a b).1⟩ := hv.trans (by simp [nodeW, ndS, a.2, b.2])
 have hpS5 := (hp.sub (.cons _ (.cons _ (.cons_cons _ (.cons_cons _ (.cons_cons _ .slnil))))))
 refine GL_nil ⟨fun _ => hpS5, ?_⟩
 refine GO_of_GL rfl ?_
 refine GL_store (i := 2) (wn_none rfl) rfl rfl rfl rfl ts30 rfl (by rw [bys_length]; exact (ndS a b).2) (bys_one _) hp rfl (Nat.le_of_ble_eq_true rfl) (splice_all _ _ (by rw [bys_length]; exact (ndS a b).2.trans rfl)) ?_
 intro w hp
 refine GL_nil ⟨fun h => absurd h (by decide), ?_⟩
 refine GO_nil ?_
 refine GW_ret ?_
 exact ⟨_, res1 Tryz.results78 (rv_cell rfl rfl Tryz.underlying30 rfl ts30 (by rw [bys_length]; exact (ndS a b).2) (hp.get 2 rfl)), rfl, hp.mods⟩
theorem tr_crown (n : Nat) (a : A32) (w0 : World) (hn : n ≤ 4294967295) : Does Tryz.prog 49 #[.int .i64 (n : Int), .agg ⟨bys a.1⟩] w0 fun v w' => v = .agg ⟨bys (rtS n a).1⟩ ∧ Hp w0 [] w' [] := by
 refine does_of (l := [.int .i64 (n : Int), .agg ⟨bys a.1⟩]) Tryz.func49 (by kernel_rfl) rfl Tryz.ntmps49 rfl rfl (by kernel_rfl) ?_
 have hp := Hp.refl w0 []
 refine GW_seq ?_
 refine GW_region ?_
 refine GL_box (wn_none rfl) rfl rfl rfl rfl hp ?_
 intro g w hp
 refine GL_alloc (wn_none rfl) rfl rfl tz30 rfl hp ?_
 intro g2 w hp
 refine GL_nil ?_
 refine GW_seq ?_
 refine GW_drawnK 8 (.one 2 true (.one 3 true (.one 5 true (.two 0 4 (.two 1 4 (.one 4 false (.one 6 false (.one 7 false (.one 8 false .nil)))) (.one 1 false (.one 6 false (.one 7 false (.one 8 false .nil))))) (.one 0 false (.one 1 false (.one 6 false (.one 7 false (.one 8 false .nil))))))))) mixed (by kernel_rfl) hp (fun _ h => h) fun w hp => ?_
 have hpS := hp
 refine GO_rdT (v := .int _ _) rfl (wn_none rfl) rfl (fun w => (rd_move rfl rfl)) ?_
 refine GO_rd rfl rfl (wn_none rfl) rfl hpS (fun w hp => (rd_convE (q := (n : Int)) rfl rfl Tryz.underlying62 Tryz.underlying3 (by simp) (IntWalk.u64_in _ (by omega)))) ?_
 refine GO_rd rfl rfl (wn_none rfl) rfl hpS (fun w hp => (rd_sliceA (lo := 0) (hi := 32) rfl rfl Tryz.underlying30 ts5 at_none to_none (by decide) (by decide) (by decide) _ rfl)) ?_
 refine GO_two rfl rfl ?_ ?_
 ·skip
  refine GC_of_GL ?_
  refine GL_lit (L := (bys rootW)) (wn_none rfl) rfl rfl Tryz.underlying35 ts5 tz5 rfl (by kernel_rfl) rfl rfl hp ?_
  intro g3 w hp
  have hpS2 := (hp.sub (.cons _ (.cons_cons _ (.cons_cons _ .slnil))))
  refine GL_nil ⟨fun _ => hpS2, ?_⟩
  refine GO_two rfl rfl ?_ ?_
  ·skip
   refine GC_of_GL ?_
   refine GL_convB (i := 0) (wn_none rfl) rfl rfl rfl Tryz.underlying35 Tryz.underlying5 hp rfl ?_
   intro w hp
   have hpS3 := (hp.sub (.cons _ (.cons_cons _ (.cons_cons _ .slnil))))
   refine GL_nil ⟨fun _ => hpS3, ?_⟩
   refine GO_of_GL rfl ?_
   refine GL_call (wn_none rfl) rfl rfl (word_Put n 4 _ (by omega) (by decide)) rfl ?_
   rintro _ w ⟨q, rfl, hk⟩
   have hp := hp.comp hk
   have hpS4 := (hp.sub (.cons _ (.cons _ (.cons_cons _ (.cons_cons _ .slnil)))))
   refine GL_nil ⟨fun _ => hpS4, ?_⟩
   refine GO_of_GL rfl ?_
   refine GL_lit (L := [.slice (some ⟨g3, 0, none⟩) 4 4, .slice (some ⟨q, 0, none⟩) 4 4, .slice (some ⟨g, 0, none⟩) 32 32]) (wn_none rfl) rfl rfl Tryz.underlying22 ts35 tz35 rfl (by kernel_rfl) rfl rfl hp ?_
   intro g4 w hp
   have hpS5 := (hp.sub (.cons _ (.cons _ (.cons _ (.cons_cons _ (.cons_cons _ .slnil))))))
   refine GL_nil ⟨fun _ => hpS5, ?_⟩
   refine GO_of_GL rfl ?_
   refine GL_call (wn_none rfl) rfl rfl (dig_Of _ 3 [(.slice (some ⟨g3, 0, none⟩) 4 4, rootW), (.slice (some ⟨q, 0, none⟩) 4 4, putL n 4), (.slice (some ⟨g, 0, none⟩) 32 32, a.1)] _ (Sl.row (hp.get 0 rfl)) (by intro x hx; simp only [List.mem_cons, List.not_mem_nil, or_false] at hx; rcases hx with rfl | rfl | rfl; exact Sl.blk (hp.get 2 rfl) 1 _ rfl (by simp [maxLen]); exact (by rw [putL_length]; exact Sl.row (hp.get 1 rfl)); exact Sl.ofA (hp.get 4 rfl)) (by simp [rootW, rtS, putL_length, a.2] <;> omega)) rfl ?_
   rintro v0 w ⟨hv, hk⟩
   have hp := hp.comp hk
   obtain rfl : v0 = .agg ⟨bys (rtS n a).1⟩ := hv.trans (by simp [rootW, rtS, putL_length, a.2])
   have hpS6 := (hp.sub (.cons _ (.cons _ (.cons _ (.cons_cons _ (.cons_cons _ .slnil))))))
   refine GL_nil ⟨fun _ => hpS6, ?_⟩
   refine GO_of_GL rfl ?_
   refine GL_store (i := 3) (wn_none rfl) rfl rfl rfl rfl ts30 rfl (by rw [bys_length]; exact (rtS n a).2) (bys_one _) hp rfl (Nat.le_of_ble_eq_true rfl) (splice_all _ _ (by rw [bys_length]; exact (rtS n a).2.trans rfl)) ?_
   intro w hp
   refine GL_nil ⟨fun h => absurd h (by decide), ?_⟩
   refine GO_nil ?_
   refine GW_ret ?_
   exact ⟨_, res1 Tryz.results49 (rv_cell rfl rfl Tryz.underlying30 rfl ts30 (by rw [bys_length]; exact (rtS n a).2) (hp.get 3 rfl)), rfl, hp.mods⟩
  ·skip
   refine GC_of_GL ?_
   refine GL_call (wn_none rfl) rfl rfl (word_Put n 4 _ (by omega) (by decide)) rfl ?_
   rintro _ w ⟨q, rfl, hk⟩
   have hp := hp.comp hk
   have hpS7 := (hp.sub (.cons _ (.cons _ (.cons_cons _ (.cons_cons _ .slnil)))))
   refine GL_nil ⟨fun _ => hpS7, ?_⟩
   refine GO_of_GL rfl ?_
   refine GL_convB (i := 1) (wn_none rfl) rfl rfl rfl Tryz.underlying35 Tryz.underlying5 hp rfl ?_
   intro w hp
   have hpS8 := (hp.sub (.cons _ (.cons _ (.cons_cons _ (.cons_cons _ .slnil)))))
   refine GL_nil ⟨fun _ => hpS8, ?_⟩
   refine GO_of_GL rfl ?_
   refine GL_lit (L := [.slice (some ⟨g3, 0, none⟩) 4 4, .slice (some ⟨q, 0, none⟩) 4 4, .slice (some ⟨g, 0, none⟩) 32 32]) (wn_none rfl) rfl rfl Tryz.underlying22 ts35 tz35 rfl (by kernel_rfl) rfl rfl hp ?_
   intro g5 w hp
   have hpS9 := (hp.sub (.cons _ (.cons _ (.cons _ (.cons_cons _ (.cons_cons _ .slnil))))))
   refine GL_nil ⟨fun _ => hpS9, ?_⟩
   refine GO_of_GL rfl ?_
   refine GL_call (wn_none rfl) rfl rfl (dig_Of _ 3 [(.slice (some ⟨g3, 0, none⟩) 4 4, rootW), (.slice (some ⟨q, 0, none⟩) 4 4, putL n 4), (.slice (some ⟨g, 0, none⟩) 32 32, a.1)] _ (Sl.row (hp.get 0 rfl)) (by intro x hx; simp only [List.mem_cons, List.not_mem_nil, or_false] at hx; rcases hx with rfl | rfl | rfl; exact Sl.blk (hp.get 2 rfl) 1 _ rfl (by simp [maxLen]); exact (by rw [putL_length]; exact Sl.row (hp.get 1 rfl)); exact Sl.ofA (hp.get 4 rfl)) (by simp [rootW, rtS, putL_length, a.2] <;> omega)) rfl ?_
   rintro v0 w ⟨hv, hk⟩
   have hp := hp.comp hk
   obtain rfl : v0 = .agg ⟨bys (rtS n a).1⟩ := hv.trans (by simp [rootW, rtS, putL_length, a.2])
   have hpS10 := (hp.sub (.cons _ (.cons _ (.cons _ (.cons_cons _ (.cons_cons _ .slnil))))))
   refine GL_nil ⟨fun _ => hpS10, ?_⟩
   refine GO_of_GL rfl ?_
   refine GL_store (i := 3) (wn_none rfl) rfl rfl rfl rfl ts30 rfl (by rw [bys_length]; exact (rtS n a).2) (bys_one _) hp rfl (Nat.le_of_ble_eq_true rfl) (splice_all _ _ (by rw [bys_length]; exact (rtS n a).2.trans rfl)) ?_
   intro w hp
   refine GL_nil ⟨fun h => absurd h (by decide), ?_⟩
   refine GO_nil ?_
   refine GW_ret ?_
   exact ⟨_, res1 Tryz.results49 (rv_cell rfl rfl Tryz.underlying30 rfl ts30 (by rw [bys_length]; exact (rtS n a).2) (hp.get 3 rfl)), rfl, hp.mods⟩
 ·skip
  refine GC_of_GL ?_
  refine GL_call (wn_none rfl) rfl rfl (word_Put n 4 _ (by omega) (by decide)) rfl ?_
  rintro _ w ⟨q, rfl, hk⟩
  have hp := hp.comp hk
  have hpS11 := (hp.sub (.cons _ (.cons_cons _ (.cons_cons _ .slnil))))
  refine GL_nil ⟨fun _ => hpS11, ?_⟩
  refine GO_of_GL rfl ?_
  refine GL_lit (L := (bys rootW)) (wn_none rfl) rfl rfl Tryz.underlying35 ts5 tz5 rfl (by kernel_rfl) rfl rfl hp ?_
  intro g6 w hp
  have hpS12 := (hp.sub (.cons _ (.cons _ (.cons_cons _ (.cons_cons _ .slnil)))))
  refine GL_nil ⟨fun _ => hpS12, ?_⟩
  refine GO_of_GL rfl ?_
  refine GL_convB (i := 0) (wn_none rfl) rfl rfl rfl Tryz.underlying35 Tryz.underlying5 hp rfl ?_
  intro w hp
  have hpS13 := (hp.sub (.cons _ (.cons _ (.cons_cons _ (.cons_cons _ .slnil)))))
  refine GL_nil ⟨fun _ => hpS13, ?_⟩
  refine GO_of_GL rfl ?_
  refine GL_lit (L := [.slice (some ⟨g6, 0, none⟩) 4 4, .slice (some ⟨q, 0, none⟩) 4 4, .slice (some ⟨g, 0, none⟩) 32 32]) (wn_none rfl) rfl rfl Tryz.underlying22 ts35 tz35 rfl (by kernel_rfl) rfl rfl hp ?_
  intro g7 w hp
  have hpS14 := (hp.sub (.cons _ (.cons _ (.cons _ (.cons_cons _ (.cons_cons _ .slnil))))))
  refine GL_nil ⟨fun _ => hpS14, ?_⟩
  refine GO_of_GL rfl ?_
  refine GL_call (wn_none rfl) rfl rfl (dig_Of _ 3 [(.slice (some ⟨g6, 0, none⟩) 4 4, rootW), (.slice (some ⟨q, 0, none⟩) 4 4, putL n 4), (.slice (some ⟨g, 0, none⟩) 32 32, a.1)] _ (Sl.row (hp.get 0 rfl)) (by intro x hx; simp only [List.mem_cons, List.not_mem_nil, or_false] at hx; rcases hx with rfl | rfl | rfl; exact Sl.blk (hp.get 1 rfl) 1 _ rfl (by simp [maxLen]); exact (by rw [putL_length]; exact Sl.row (hp.get 2 rfl)); exact Sl.ofA (hp.get 4 rfl)) (by simp [rootW, rtS, putL_length, a.2] <;> omega)) rfl ?_
  rintro v0 w ⟨hv, hk⟩
  have hp := hp.comp hk
  obtain rfl : v0 = .agg ⟨bys (rtS n a).1⟩ := hv.trans (by simp [rootW, rtS, putL_length, a.2])
  have hpS15 := (hp.sub (.cons _ (.cons _ (.cons _ (.cons_cons _ (.cons_cons _ .slnil))))))
  refine GL_nil ⟨fun _ => hpS15, ?_⟩
  refine GO_of_GL rfl ?_
  refine GL_store (i := 3) (wn_none rfl) rfl rfl rfl rfl ts30 rfl (by rw [bys_length]; exact (rtS n a).2) (bys_one _) hp rfl (Nat.le_of_ble_eq_true rfl) (splice_all _ _ (by rw [bys_length]; exact (rtS n a).2.trans rfl)) ?_
  intro w hp
  refine GL_nil ⟨fun h => absurd h (by decide), ?_⟩
  refine GO_nil ?_
  refine GW_ret ?_
  exact ⟨_, res1 Tryz.results49 (rv_cell rfl rfl Tryz.underlying30 rfl ts30 (by rw [bys_length]; exact (rtS n a).2) (hp.get 3 rfl)), rfl, hp.mods⟩
theorem tr_Check (lv : Value) (L : List (Value × List UInt8)) (w0 : World) (hL : Sl w0 lv 1 L.length (L.map Prod.fst)) (hLs : ∀ x ∈ L, Sl w0 x.1 1 x.2.length (bys x.2)) : Does Tryz.prog 46 #[lv] w0 fun v w' => v = .int .i64 (trK L.length) ∧ Hp w0 [] w' [] := by
 obtain ⟨AL, cL, rfl⟩ := sl_shape hL
 have hLle := hL.le
 refine does_of (l := [.slice AL L.length cL]) Tryz.func46 (by kernel_rfl) rfl Tryz.ntmps46 rfl rfl (by kernel_rfl) ?_
 have hp := Hp.refl w0 []
 refine GW_seq ?_
 refine GW_region ?_
 refine GL_rd (v := .int _ _) (wn_none rfl) rfl (rd_assign rfl rfl) ?_
 refine GL_nil ?_
 refine GW_seq ?_
 refine GW_block ?_
 refine GW_seq ?_
 refine GW_region ?_
 refine GL_rd (v := .slice _ _ _) (wn_none rfl) rfl (rd_move rfl rfl) ?_
 refine GL_rd (wn_none rfl) rfl (rd_len rfl rfl Tryz.underlying22) ?_
 refine GL_rd (wn_none rfl) rfl (rd_bin rfl rfl rfl bo_eql) ?_
 refine GL_rd (v := .bool _) (wn_none rfl) rfl (rd_assign rfl rfl) ?_
 refine GL_nil ?_
 refine GW_cond rfl (fun hb => ?_) (fun hb => ?_)
 ·(try simp only [decide_eq_true_eq, decide_eq_false_iff_not, Bool.not_eq_true', Bool.not_eq_false', Bool.not_eq_eq_eq_not, Bool.not_true, Bool.not_false, Int.not_lt, Int.not_le] at hb)
  refine GW_seq ?_
  refine GW_region ?_
  refine GL_rd (v := .int _ _) (wn_none rfl) rfl (rd_assign rfl rfl) ?_
  refine GL_nil ?_
  refine GW_ret ?_
  exact ⟨_, res1 Tryz.results46 (rv_tmp (v := .int _ _) rfl rfl), by rw [trK_none (by omega)], hp⟩
 ·(try simp only [decide_eq_true_eq, decide_eq_false_iff_not, Bool.not_eq_true', Bool.not_eq_false', Bool.not_eq_eq_eq_not, Bool.not_true, Bool.not_false, Int.not_lt, Int.not_le] at hb)
  refine GW_seq ?_
  refine GW_region ?_
  refine GL_rd (v := .slice _ _ _) (wn_none rfl) rfl (rd_move rfl rfl) ?_
  refine GL_rd (wn_none rfl) rfl (rd_len rfl rfl Tryz.underlying22) ?_
  refine GL_rd (wn_none rfl) rfl (rd_bin rfl rfl rfl bo_gtr) ?_
  refine GL_rd (v := .bool _) (wn_none rfl) rfl (rd_assign rfl rfl) ?_
  refine GL_nil ?_
  refine GW_cond rfl (fun hb2 => ?_) (fun hb2 => ?_)
  ·(try simp only [decide_eq_true_eq, decide_eq_false_iff_not, Bool.not_eq_true', Bool.not_eq_false', Bool.not_eq_eq_eq_not, Bool.not_true, Bool.not_false, Int.not_lt, Int.not_le] at hb2)
   refine GW_seq ?_
   refine GW_region ?_
   refine GL_rd (v := .int _ _) (wn_none rfl) rfl (rd_assign rfl rfl) ?_
   refine GL_nil ?_
   refine GW_ret ?_
   exact ⟨_, res1 Tryz.results46 (rv_tmp (v := .int _ _) rfl rfl), by rw [trK_many (by omega)], hp⟩
  ·(try simp only [decide_eq_true_eq, decide_eq_false_iff_not, Bool.not_eq_true', Bool.not_eq_false', Bool.not_eq_eq_eq_not, Bool.not_true, Bool.not_false, Int.not_lt, Int.not_le] at hb2)
   refine GW_skip ?_
   refine GW_seq ?_
   refine GW_region ?_
   refine GL_rd (v := .int _ _) (wn_none rfl) rfl (rd_assign rfl rfl) ?_
   refine GL_nil ?_
   refine GW_ret ?_
   exact ⟨_, res1 Tryz.results46 (rv_tmp (v := .int _ _) rfl rfl), by rw [trK_ok (by omega) (by omega)], hp⟩
set_option maxHeartbeats 1000000 in
theorem tr_leaves (lv : Value) (L : List (Value × List UInt8)) (w0 : World) (hL : Sl w0 lv 1 L.length (L.map Prod.fst)) (hLs : ∀ x ∈ L, Sl w0 x.1 1 x.2.length (bys x.2)) (hbd : L.length ≤ 65536 ∧ ∀ x ∈ L, x.2.length ≤ 65536) : Does Tryz.prog 47 #[lv] w0 fun v w' => Hp w0 [] w' [.row 30 32 v L.length (((lvL 0 (L.map Prod.snd))).flatMap adC)] := by
 obtain ⟨AL, cL, rfl⟩ := sl_shape hL
 have hLle := hL.le
 refine does_of (l := [.slice AL L.length cL]) Tryz.func47 (by kernel_rfl) rfl Tryz.ntmps47 rfl rfl (by kernel_rfl) ?_
 have hp := Hp.refl w0 []
 refine GW_seq ?_
 refine GW_region ?_
 refine GL_rd (v := .slice _ _ _) (wn_none rfl) rfl (rd_assign rfl rfl) ?_
 refine GL_nil ?_
 refine GW_seq ?_
 refine GW_region ?_
 refine GL_rd (v := .slice _ _ _) (wn_none rfl) rfl (rd_assign rfl rfl) ?_
 refine GL_nil ?_
 refine GW_seq ?_
 refine GW_seq ?_
 refine GW_region ?_
 refine GL_rd (v := .slice _ _ _) (wn_none rfl) rfl (rd_move rfl rfl) ?_
 refine GL_rd (wn_none rfl) rfl (rd_len rfl rfl Tryz.underlying22) ?_
 refine GL_rd (v := .int _ _) (wn_none rfl) rfl (rd_move rfl rfl) ?_
 refine GL_nil ?_
 refine GW_block ?_
 refine GW_loop ?_
 refine Lp_ind (α := Nat × Value × Option Addr) (fun a_0 f_0 w' => match a_0 with | (i, v, AL) => ∃ fz, f_0 = (upd (upd (upd (upd fz 3 (v)) 6 (.slice AL L.length cL)) 7 (.int .i64 (L.length : Int))) 8 (.int .i64 (i : Int))) ∧ Hp w0 [] w' [.row 30 32 v i (((lvL 0 ((L.take i).map Prod.snd))).flatMap adC)] ∧ (i ≤ L.length) ∧ (Sl w0 (.slice AL L.length cL) 1 L.length (L.map Prod.fst))) (fun a_0 => match a_0 with | (i, v, AL) => L.length - i) ?_ (0, .slice none 0 0, AL) _ _ ?_
 ·rintro ⟨i, v, AL⟩ f wz ⟨fz, rfl, hp, hi0, hL⟩ ihL0
  refine Lp_round ?_
  refine GW_seq ?_
  refine GW_region ?_
  refine GL_rd (wn_none rfl) rfl (rd_bin rfl rfl rfl bo_lss) ?_
  refine GL_nil ?_
  refine GW_seq ?_
  refine GW_cond rfl (fun hb => ?_) (fun hb => ?_)
  ·(try simp only [decide_eq_true_eq, decide_eq_false_iff_not, Bool.not_eq_true', Bool.not_eq_false', Bool.not_eq_eq_eq_not, Bool.not_true, Bool.not_false, Int.not_lt, Int.not_le] at hb)
   obtain ⟨gL, bL, rfl⟩ := hL.addr (by rw [List.length_map]; omega)
   have hxm := getD_inL (l := L) (i := i) (by omega)
   obtain ⟨Ax, cx, hsh⟩ := sl_shape (hLs _ hxm)
   have hxb := hbd.2 _ hxm
   refine GW_skip ?_
   refine GW_seq ?_
   refine GW_block ?_
   refine GW_seq ?_
   refine GW_region ?_
   refine GL_rd (v := .int _ _) (wn_none rfl) rfl (rd_move rfl rfl) ?_
   refine GL_rd (wn_none rfl) rfl (rd_indexS (j := i) rfl rfl rfl Tryz.underlying22 ts35 rfl (by omega) _ rfl) ?_
   refine GL_rd (v := .slice _ _ _) (wn_none rfl) rfl (rd_load rfl rfl Tryz.underlying35 rfl ((hL.keep hp.mod).get _ _ (by rw [Nat.mul_one]; exact (fstL_at (L := L) (i := i) (by omega)).trans (congrArg some hsh)))) ?_
   refine GL_rd (v := .int _ _) (wn_none rfl) rfl (rd_assign rfl rfl) ?_
   refine GL_rd (v := .slice _ _ _) (wn_none rfl) rfl (rd_assign rfl rfl) ?_
   refine GL_nil ?_
   refine GW_region ?_
   refine GL_rd (v := v) (wn_none rfl) rfl (rd_move rfl rfl) ?_
   refine GL_rd (v := .int _ _) (wn_none rfl) rfl (rd_move rfl rfl) ?_
   refine GL_rd (v := .slice _ _ _) (wn_none rfl) rfl (rd_move rfl rfl) ?_
   refine GL_call (wn_none rfl) rfl rfl (tr_Leaf i _ (L.getD i default).2 _ (by have h := (hLs _ hxm).keep hp.mod; rw [hsh] at h; exact h) hxb (by omega)) rfl ?_
   rintro _ w ⟨rfl, hk⟩
   have hp := hp.comp hk
   refine GL_lit1 (L := (bys (lvS i (L.getD i default).2).1)) (wn_none rfl) rfl rfl rfl rfl Tryz.underlying50 ts30 tz30 (by kernel_rfl) (by rw [bys_length]; exact (lvS i (L.getD i default).2).2) hp ?_
   intro g w hp
   refine GL_append (i := 1) (wn_none rfl) rfl rfl rfl rfl Tryz.underlying50 ti30 rfl (by decide) hp rfl (Sl.row (hp.get 0 rfl)) (bys_one _) (by omega) (by omega) ?_
   intro v w hp
   refine GL_rd (v := v) (wn_none rfl) rfl (rd_assign rfl rfl) ?_
   refine GL_nil ?_
   refine GW_region ?_
   refine GL_rd (wn_none rfl) rfl (rd_bin rfl rfl rfl (bo_add64 (by omega))) ?_
   refine GL_rd (v := .int _ _) (wn_none rfl) rfl (rd_move rfl rfl) ?_
   refine GL_nil ?_
   have hp := ((hp.front 1 rfl).take 1)
   have hp := hp.cast (show _ = [.row 30 32 v (i + 1) (((lvL 0 ((L.take (i + 1)).map Prod.snd))).flatMap adC)] by rw [lv_snoc (by omega), List.flatMap_append, List.flatMap_singleton]; rfl)
   exact ihL0 (i + 1, _, _) _ _ (by simp only []; omega) ⟨_, slots4 rfl rfl rfl rfl, hp, by omega, hL⟩
  ·(try simp only [decide_eq_true_eq, decide_eq_false_iff_not, Bool.not_eq_true', Bool.not_eq_false', Bool.not_eq_eq_eq_not, Bool.not_true, Bool.not_false, Int.not_lt, Int.not_le] at hb)
   have hil : i = L.length := by omega
   rw [hil, List.take_length] at hp
   refine GW_exit ?_
   refine GW_seq ?_
   refine GW_region ?_
   refine GL_rd (v := v) (wn_none rfl) rfl (rd_move rfl rfl) ?_
   refine GL_rd (v := v) (wn_none rfl) rfl (rd_assign rfl rfl) ?_
   refine GL_nil ?_
   refine GW_ret ?_
   exact ⟨_, res1 Tryz.results47 (rv_tmp (v := v) rfl rfl), hp⟩
 ·have hp := hp.nilRow 30 32
  refine ⟨_, slots4 rfl rfl rfl rfl, hp, Nat.zero_le _, hL⟩
set_option maxHeartbeats 1000000 in
theorem tr_up (lv : Value) (l : List A32) (w0 : World) (hA : Sl w0 lv 32 l.length (l.flatMap adC)) (hl : l.length ≤ 65536) : Does Tryz.prog 48 #[lv] w0 fun v w' => Hp w0 [] w' [.row 30 32 v (upL l).length (((upL l)).flatMap adC)] := by
 obtain ⟨A, c, rfl⟩ := sl_shape hA
 have hAle := hA.le
 refine does_of (l := [.slice A l.length c]) Tryz.func48 (by kernel_rfl) rfl Tryz.ntmps48 rfl rfl (by kernel_rfl) ?_
 have hp := Hp.refl w0 []
 refine GW_seq ?_
 refine GW_region ?_
 refine GL_rd (v := .slice _ _ _) (wn_none rfl) rfl (rd_assign rfl rfl) ?_
 refine GL_nil ?_
 refine GW_seq ?_
 refine GW_region ?_
 refine GL_rd (v := .slice _ _ _) (wn_none rfl) rfl (rd_assign rfl rfl) ?_
 refine GL_nil ?_
 refine GW_seq ?_
 refine GW_seq ?_
 refine GW_region ?_
 refine GL_rd (v := .int _ _) (wn_none rfl) rfl (rd_assign rfl rfl) ?_
 refine GL_nil ?_
 refine GW_block ?_
 refine GW_loop ?_
 refine Lp_ind (α := Nat × Value × Option Addr) (fun a_0 f_0 w' => match a_0 with | (k, v, A) => ∃ fz, f_0 = (upd (upd (upd fz 0 (.slice A l.length c)) 3 (v)) 4 (.int .i64 ((2 * k : Nat) : Int))) ∧ Hp w0 [] w' [.row 30 32 v k (((upL (l.take (2 * k)))).flatMap adC)] ∧ (2 * k ≤ l.length + 1) ∧ (2 * k ≤ l.length) ∧ (Sl w0 (.slice A l.length c) 32 l.length (l.flatMap adC))) (fun a_0 => match a_0 with | (k, v, A) => l.length + 2 - 2 * k) ?_ (0, .slice none 0 0, A) _ _ ?_
 ·rintro ⟨k, v, A⟩ f wz ⟨fz, rfl, hp, hk0, hk1, hA⟩ ihL0
  refine Lp_round ?_
  refine GW_seq ?_
  refine GW_seq ?_
  refine GW_region ?_
  refine GL_rd (v := .int _ _) (wn_none rfl) rfl (rd_move rfl rfl) ?_
  refine GL_rd (v := .slice _ _ _) (wn_none rfl) rfl (rd_move rfl rfl) ?_
  refine GL_rd (wn_none rfl) rfl (rd_len rfl rfl Tryz.underlying50) ?_
  refine GL_rd (wn_none rfl) rfl (rd_bin rfl rfl rfl bo_lss) ?_
  refine GL_nil ?_
  refine GW_cond rfl (fun hb => ?_) (fun hb => ?_)
  ·(try simp only [decide_eq_true_eq, decide_eq_false_iff_not, Bool.not_eq_true', Bool.not_eq_false', Bool.not_eq_eq_eq_not, Bool.not_true, Bool.not_false, Int.not_lt, Int.not_le] at hb)
   obtain ⟨gA, bA, rfl⟩ := hA.addr (by rw [flat_length adC_len]; omega)
   refine GW_skip ?_
   refine GW_seq ?_
   refine GW_block ?_
   refine GW_seq ?_
   refine GW_seq ?_
   refine GW_region ?_
   refine GL_rd (v := .int _ _) (wn_none rfl) rfl (rd_move rfl rfl) ?_
   refine GL_rd (wn_none rfl) rfl (rd_bin rfl rfl rfl (bo_add64 (by omega))) ?_
   refine GL_rd (v := .slice _ _ _) (wn_none rfl) rfl (rd_move rfl rfl) ?_
   refine GL_rd (wn_none rfl) rfl (rd_len rfl rfl Tryz.underlying50) ?_
   refine GL_rd (wn_none rfl) rfl (rd_bin rfl rfl rfl bo_eql) ?_
   refine GL_nil ?_
   refine GW_cond rfl (fun hb2 => ?_) (fun hb2 => ?_)
   ·(try simp only [decide_eq_true_eq, decide_eq_false_iff_not, Bool.not_eq_true', Bool.not_eq_false', Bool.not_eq_eq_eq_not, Bool.not_true, Bool.not_false, Int.not_lt, Int.not_le] at hb2)
    have hlk : l.length = 2 * k + 1 := by omega
    refine GW_seq ?_
    refine GW_region ?_
    refine GL_rd (v := v) (wn_none rfl) rfl (rd_move rfl rfl) ?_
    refine GL_rd (v := .slice _ _ _) (wn_none rfl) rfl (rd_move rfl rfl) ?_
    refine GL_rd (v := .int _ _) (wn_none rfl) rfl (rd_move rfl rfl) ?_
    refine GL_rd (wn_none rfl) rfl (rd_indexS (j := (2 * k)) rfl rfl rfl Tryz.underlying50 ts30 rfl (by omega) _ rfl) ?_
    refine GL_rd (wn_none rfl) rfl (rd_loadN (L := bys (adAt l (2 * k)).1) rfl rfl Tryz.underlying30 rfl ts30 (by rw [bys_length]; exact (adAt l _).2) (fun j u hj => (hA.keep hp.mod).adE (2 * k) (by omega) hj)) ?_
    refine GL_lit1 (L := (bys (adAt l (2 * k)).1)) (wn_none rfl) rfl rfl rfl rfl Tryz.underlying50 ts30 tz30 (by kernel_rfl) (by rw [bys_length]; exact (adAt l (2 * k)).2) hp ?_
    intro g w hp
    refine GL_append (i := 1) (wn_none rfl) rfl rfl rfl rfl Tryz.underlying50 ti30 rfl (by decide) hp rfl (Sl.row (hp.get 0 rfl)) (bys_one _) (by omega) (by omega) ?_
    intro v w hp
    refine GL_rd (v := v) (wn_none rfl) rfl (rd_assign rfl rfl) ?_
    refine GL_nil ?_
    refine GW_exit ?_
    refine GW_seq ?_
    refine GW_region ?_
    refine GL_rd (v := v) (wn_none rfl) rfl (rd_move rfl rfl) ?_
    refine GL_rd (v := v) (wn_none rfl) rfl (rd_assign rfl rfl) ?_
    refine GL_nil ?_
    refine GW_ret ?_
    have hp := ((hp.front 1 rfl).take 1)
    have hul := upL_len l
    have hp := hp.cast (show _ = [.row 30 32 v (upL l).length (((upL l)).flatMap adC)] by rw [hul, show (l.length + 1) / 2 = k + 1 by omega, show upL l = upL (l.take (2 * k + 1)) by rw [List.take_of_length_le (by omega)], upL_one (by omega), List.flatMap_append, List.flatMap_singleton]; rfl)
    exact ⟨_, res1 Tryz.results48 (rv_tmp (v := v) rfl rfl), hp⟩
   ·(try simp only [decide_eq_true_eq, decide_eq_false_iff_not, Bool.not_eq_true', Bool.not_eq_false', Bool.not_eq_eq_eq_not, Bool.not_true, Bool.not_false, Int.not_lt, Int.not_le] at hb2)
    have hlk : 2 * k + 1 < l.length := by omega
    refine GW_skip ?_
    refine GW_drawnK 14 (.one 0 true (.one 1 true (.one 2 true (.one 3 true (.one 4 true (.one 5 true (.one 6 true (.one 7 true (.one 8 true (.one 9 true (.one 10 false (.one 11 false (.one 12 false (.one 13 true .nil)))))))))))))) mixed (by kernel_rfl) hp (fun _ h => h.mods) fun w hp => ?_
    have hpS := hp.mods
    refine GO_rdT (v := v) rfl (wn_none rfl) rfl (fun w => (rd_move rfl rfl)) ?_
    refine GO_rdT (v := .slice _ _ _) rfl (wn_none rfl) rfl (fun w => (rd_move rfl rfl)) ?_
    refine GO_rdT (v := .int _ _) rfl (wn_none rfl) rfl (fun w => (rd_move rfl rfl)) ?_
    refine GO_rdT rfl (wn_none rfl) rfl (fun w => (rd_indexS (j := (2 * k)) rfl rfl rfl Tryz.underlying50 ts30 rfl (by omega) _ rfl)) ?_
    refine GO_rd rfl rfl (wn_none rfl) rfl hpS (fun w hp => (rd_loadN (L := bys (adAt l (2 * k)).1) rfl rfl Tryz.underlying30 rfl ts30 (by rw [bys_length]; exact (adAt l _).2) (fun j u hj => (hA.keep hp.mod).adE (2 * k) (by omega) hj))) ?_
    refine GO_rdT (v := .slice _ _ _) rfl (wn_none rfl) rfl (fun w => (rd_move rfl rfl)) ?_
    refine GO_rdT (v := .int _ _) rfl (wn_none rfl) rfl (fun w => (rd_move rfl rfl)) ?_
    refine GO_rd rfl rfl (wn_none rfl) rfl hpS (fun w hp => (rd_bin rfl rfl rfl (bo_add64 (by omega)))) ?_
    refine GO_rdT rfl (wn_none rfl) rfl (fun w => (rd_indexS (j := (2 * k + 1)) rfl rfl rfl Tryz.underlying50 ts30 rfl (by omega) _ rfl)) ?_
    refine GO_rd rfl rfl (wn_none rfl) rfl hpS (fun w hp => (rd_loadN (L := bys (adAt l (2 * k + 1)).1) rfl rfl Tryz.underlying30 rfl ts30 (by rw [bys_length]; exact (adAt l _).2) (fun j u hj => (hA.keep hp.mod).adE (2 * k + 1) (by omega) hj))) ?_
    refine GO_of_GL rfl ?_
    refine GL_call (wn_none rfl) rfl rfl (tr_join (adAt l (2 * k)) (adAt l (2 * k + 1)) _) rfl ?_
    rintro _ w ⟨rfl, hk⟩
    have hp := hp.comp hk
    have hpS2 := hp.mods
    refine GL_nil ⟨fun _ => hpS2, ?_⟩
    refine GO_of_GL rfl ?_
    refine GL_lit1 (L := (bys (ndS (adAt l (2 * k)) (adAt l (2 * k + 1))).1)) (wn_none rfl) rfl rfl rfl rfl Tryz.underlying50 ts30 tz30 (by kernel_rfl) (by rw [bys_length]; exact (ndS (adAt l (2 * k)) (adAt l (2 * k + 1))).2) hp ?_
    intro g2 w hp
    have hpS3 := hp.mods
    refine GL_nil ⟨fun _ => hpS3, ?_⟩
    refine GO_of_GL rfl ?_
    refine GL_append (i := 1) (wn_none rfl) rfl rfl rfl rfl Tryz.underlying50 ti30 rfl (by decide) hp rfl (Sl.row (hp.get 0 rfl)) (bys_one _) (by omega) (by omega) ?_
    intro v2 w hp
    have hpS4 := hp.mods
    refine GL_nil ⟨fun _ => hpS4, ?_⟩
    refine GO_rdT (v := v2) rfl (wn_none rfl) rfl (fun w => (rd_assign rfl rfl)) ?_
    refine GO_nil ?_
    refine GW_region ?_
    refine GL_rd (v := .int _ _) (wn_none rfl) rfl (rd_move rfl rfl) ?_
    refine GL_rd (wn_none rfl) rfl (rd_bin rfl rfl rfl (bo_add64 (by omega))) ?_
    refine GL_rd (v := .int _ _) (wn_none rfl) rfl (rd_assign rfl rfl) ?_
    refine GL_nil ?_
    have hp := ((hp.front 1 rfl).take 1)
    have hp := hp.cast (show _ = [.row 30 32 v2 (k + 1) (((upL (l.take (2 * (k + 1))))).flatMap adC)] by rw [show 2 * (k + 1) = 2 * k + 2 by omega, upL_two hlk, List.flatMap_append, List.flatMap_singleton]; rfl)
    exact ihL0 (k + 1, _, _) _ _ (by simp only []; omega) ⟨_, slots3 rfl rfl rfl, hp, by omega, by omega, hA⟩
  ·(try simp only [decide_eq_true_eq, decide_eq_false_iff_not, Bool.not_eq_true', Bool.not_eq_false', Bool.not_eq_eq_eq_not, Bool.not_true, Bool.not_false, Int.not_lt, Int.not_le] at hb)
   have hul := upL_len l
   rw [List.take_of_length_le (by omega)] at hp
   have hp := hp.cast (show _ = [.row 30 32 v (upL l).length (((upL l)).flatMap adC)] by rw [hul, show (l.length + 1) / 2 = k by omega])
   refine GW_exit ?_
   refine GW_seq ?_
   refine GW_region ?_
   refine GL_rd (v := v) (wn_none rfl) rfl (rd_move rfl rfl) ?_
   refine GL_rd (v := v) (wn_none rfl) rfl (rd_assign rfl rfl) ?_
   refine GL_nil ?_
   refine GW_ret ?_
   exact ⟨_, res1 Tryz.results48 (rv_tmp (v := v) rfl rfl), hp⟩
 ·have hp := hp.nilRow 30 32
  refine ⟨_, slots3 rfl rfl rfl, hp, by omega, by omega, hA⟩
end Go.Proofs.YtpagpmioopaciaaGreat
