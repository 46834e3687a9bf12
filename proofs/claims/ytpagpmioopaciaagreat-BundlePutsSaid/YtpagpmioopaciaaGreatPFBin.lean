/- Walks of functions of the program. -/
import Derived.Test.YtpagpmioopaciaaGreatPFDig
import Derived.Test.YtpagpmioopaciaaGreatPFSeal
import Derived.Test.YtpagpmioopaciaaGreatPFName
import Derived.Test.YtpagpmioopaciaaGreatPChkS
set_option linter.unusedVariables false
set_option linter.unusedSimpArgs false
namespace Go.Proofs.YtpagpmioopaciaaGreat
open Go.Mo Go.RowKit
theorem ref_bSaid (name note : ByteArray) (made : Int) (lv : Value) (m : Nat) (l : List A32) (w0 : World) (hA : Sl w0 lv 32 m (l.flatMap adC)) (hs : name.size ≤ 65535 ∧ note.size ≤ 65535) (hm : m ≤ 65535) : Does Tryz.prog 66 #[.string name, .int .i64 made, .string note, lv] w0 fun v w' => Hp w0 [] w' [.row 5 1 v (clSaid name made note l).length (bys (clSaid name made note l))] := by
 obtain ⟨A, c, rfl⟩ := sl_shape hA
 have hlm : l.length = m := Sl.ads hA
 obtain ⟨hs1, hs2⟩ := hs
 refine does_of (l := [.string name, .int .i64 made, .string note, .slice A m c]) Tryz.func66 (by kernel_rfl) rfl Tryz.ntmps66 rfl rfl (by kernel_rfl) ?_
 have hp := Hp.refl w0 []
 refine GW_seq ?_
 refine GW_region ?_
 refine GL_rd (v := .slice _ _ _) (wn_none rfl) rfl (rd_assign rfl rfl) ?_
 refine GL_nil ?_
 refine GW_seq ?_
 refine GW_region ?_
 refine GL_lit (L := (bys [99, 108, 105, 112])) (wn_none rfl) rfl rfl Tryz.underlying35 ts5 tz5 rfl (by kernel_rfl) rfl rfl hp ?_
 intro g w hp
 refine GL_convB (i := 0) (wn_none rfl) rfl rfl rfl Tryz.underlying35 Tryz.underlying5 hp rfl ?_
 intro w hp
 refine GL_rd (v := .slice _ _ _) (wn_none rfl) rfl (rd_assign rfl rfl) ?_
 refine GL_nil ?_
 refine GW_seq ?_
 refine GW_region ?_
 refine GL_rd (v := .slice _ _ _) (wn_none rfl) rfl (rd_move rfl rfl) ?_
 refine GL_rd (v := .string _) (wn_none rfl) rfl (rd_move rfl rfl) ?_
 refine GL_rd (wn_none rfl) rfl (rd_lenS rfl rfl Tryz.underlying9) ?_
 refine GL_rd (wn_none rfl) rfl (rd_convE (q := (name.size : Int)) rfl rfl Tryz.underlying62 Tryz.underlying3 (by simp) (IntWalk.u64_in _ (by omega))) ?_
 refine GL_call (wn_none rfl) rfl rfl (ref_Put 2 name.size 2 _ (by omega) (by decide) rfl) rfl ?_
 intro q1 w hk
 have hp := hp.comp hk
 refine GL_appendFull (wn_none rfl) rfl rfl rfl rfl Tryz.underlying35 ti5 rfl (by decide) hp (Sl.blk (hp.get 1 rfl) 1 _ rfl (by simp [maxLen])) (Sl.row (hp.get 0 rfl)) (by omega) (by decide) (by omega) (by omega) (by omega) ?_
 intro v w hp
 obtain ⟨Av, cv, rfl⟩ := row_shape (hp.get 0 rfl)
 rw [← bys_append] at hp
 refine GL_rd (v := .slice _ _ _) (wn_none rfl) rfl (rd_assign rfl rfl) ?_
 refine GL_nil ?_
 refine GW_seq ?_
 refine GW_region ?_
 refine GL_rd (v := .slice _ _ _) (wn_none rfl) rfl (rd_move rfl rfl) ?_
 refine GL_rd (v := .string _) (wn_none rfl) rfl (rd_move rfl rfl) ?_
 refine GL_appendS (i := 0) (wn_none rfl) rfl rfl rfl rfl Tryz.underlying35 Tryz.underlying9 ti5 hp rfl (by omega) ?_
 intro v2 w hp
 obtain ⟨Av2, cv2, rfl⟩ := row_shape (hp.get 0 rfl)
 refine GL_rd (v := .slice _ _ _) (wn_none rfl) rfl (rd_assign rfl rfl) ?_
 refine GL_nil ?_
 refine GW_seq ?_
 refine GW_region ?_
 refine GL_rd (v := .slice _ _ _) (wn_none rfl) rfl (rd_move rfl rfl) ?_
 refine GL_rd (v := .string _) (wn_none rfl) rfl (rd_move rfl rfl) ?_
 refine GL_rd (wn_none rfl) rfl (rd_lenS rfl rfl Tryz.underlying9) ?_
 refine GL_rd (wn_none rfl) rfl (rd_convE (q := (note.size : Int)) rfl rfl Tryz.underlying62 Tryz.underlying3 (by simp) (IntWalk.u64_in _ (by omega))) ?_
 refine GL_call (wn_none rfl) rfl rfl (ref_Put 2 note.size 2 _ (by omega) (by decide) rfl) rfl ?_
 intro q2 w hk
 have hp := hp.comp hk
 refine GL_append (i := 1) (wn_none rfl) rfl rfl rfl rfl Tryz.underlying35 ti5 rfl (by decide) hp rfl (Sl.row (hp.get 0 rfl)) (bys_one _) (by omega) (by omega) ?_
 intro v3 w hp
 obtain ⟨Av3, cv3, rfl⟩ := row_shape (hp.get 1 rfl)
 rw [← bys_append] at hp
 refine GL_rd (v := .slice _ _ _) (wn_none rfl) rfl (rd_assign rfl rfl) ?_
 refine GL_nil ?_
 refine GW_seq ?_
 refine GW_region ?_
 refine GL_rd (v := .slice _ _ _) (wn_none rfl) rfl (rd_move rfl rfl) ?_
 refine GL_rd (v := .string _) (wn_none rfl) rfl (rd_move rfl rfl) ?_
 refine GL_appendS (i := 1) (wn_none rfl) rfl rfl rfl rfl Tryz.underlying35 Tryz.underlying9 ti5 hp rfl (by omega) ?_
 intro v4 w hp
 obtain ⟨Av4, cv4, rfl⟩ := row_shape (hp.get 1 rfl)
 refine GL_rd (v := .slice _ _ _) (wn_none rfl) rfl (rd_assign rfl rfl) ?_
 refine GL_nil ?_
 refine GW_seq ?_
 refine GW_region ?_
 refine GL_rd (v := .slice _ _ _) (wn_none rfl) rfl (rd_move rfl rfl) ?_
 refine GL_rd (v := .int _ _) (wn_none rfl) rfl (rd_move rfl rfl) ?_
 refine GL_rd (wn_none rfl) rfl (rd_convE (q := (u64N made : Int)) rfl rfl Tryz.underlying62 Tryz.underlying3 (by simp) (u64_wrapN _)) ?_
 refine GL_call (wn_none rfl) rfl rfl (ref_Put 8 (u64N made) 8 _ (u64N_lt _) (by decide) rfl) rfl ?_
 intro q3 w hk
 have hp := hp.comp hk
 refine GL_append (i := 2) (wn_none rfl) rfl rfl rfl rfl Tryz.underlying35 ti5 rfl (by decide) hp rfl (Sl.row (hp.get 0 rfl)) (bys_one _) (by omega) (by omega) ?_
 intro v5 w hp
 obtain ⟨Av5, cv5, rfl⟩ := row_shape (hp.get 2 rfl)
 rw [← bys_append] at hp
 refine GL_rd (v := .slice _ _ _) (wn_none rfl) rfl (rd_assign rfl rfl) ?_
 refine GL_nil ?_
 refine GW_seq ?_
 refine GW_seq ?_
 refine GW_region ?_
 refine GL_rd (v := .int _ _) (wn_none rfl) rfl (rd_assign rfl rfl) ?_
 refine GL_nil ?_
 refine GW_block ?_
 refine GW_loop ?_
 refine Lp_ind (α := Nat × Nat × Option Addr × Nat × List UInt8) (fun a_0 f_0 w' => match a_0 with | (i, n, A2, c2, xs) => ∃ fz, f_0 = (upd (upd (upd fz 3 (.slice A m c)) 9 (.slice A2 n c2)) 10 (.int .i64 (i : Int))) ∧ Hp w0 [] w' [.row 5 1 (.slice A2 n c2) n (bys xs)] ∧ (i ≤ m) ∧ (n = (4 + 2 + name.size + 2 + note.size + 8) + 32 * i) ∧ (xs = ([99, 108, 105, 112] ++ putL name.size 2 ++ name.data.toList ++ putL note.size 2 ++ note.data.toList ++ putL (u64N made) 8) ++ laidA (l.take i))) (fun a_0 => match a_0 with | (i, n, A2, c2, xs) => m - i) ?_ (0, (4 + 2 + name.size + 2 + note.size + 8), Av5, cv5, ([99, 108, 105, 112] ++ putL name.size 2 ++ name.data.toList ++ putL note.size 2 ++ note.data.toList ++ putL (u64N made) 8)) _ _ ?_
 ·rintro ⟨i, n, A2, c2, xs⟩ f wz ⟨fz, rfl, hp, hi0, hn, hx⟩ ihL0
  refine Lp_round ?_
  refine GW_seq ?_
  refine GW_seq ?_
  refine GW_region ?_
  refine GL_rd (v := .int _ _) (wn_none rfl) rfl (rd_move rfl rfl) ?_
  refine GL_rd (v := .slice _ _ _) (wn_none rfl) rfl (rd_move rfl rfl) ?_
  refine GL_rd (wn_none rfl) rfl (rd_len rfl rfl Tryz.underlying50) ?_
  refine GL_rd (wn_none rfl) rfl (rd_bin rfl rfl rfl bo_lss) ?_
  refine GL_nil ?_
  refine GW_cond rfl (fun hb => ?_) (fun hb => ?_)
  ·(try simp only [decide_eq_true_eq, decide_eq_false_iff_not, Bool.not_eq_true', Bool.not_eq_false', Bool.not_eq_eq_eq_not, Bool.not_true, Bool.not_false, Int.not_lt, Int.not_le] at hb)
   obtain ⟨gA, bA, rfl⟩ := hA.addr (by rw [flat_length adC_len]; omega)
   refine GW_skip ?_
   refine GW_seq ?_
   refine GW_block ?_
   refine GW_seq ?_
   refine GW_region ?_
   refine GL_rd (v := .int _ _) (wn_none rfl) rfl (rd_assign rfl rfl) ?_
   refine GL_nil ?_
   refine GW_block ?_
   refine GW_loop ?_
   refine Lp_ind (α := Nat × Nat × Option Addr × Nat × List UInt8) (fun a_0 f_0 w' => match a_0 with | (j, n, A2, c2, xs) => ∃ fz, f_0 = (upd (upd (upd (upd fz 3 (.slice (some ⟨gA, bA, none⟩) m c)) 9 (.slice A2 n c2)) 10 (.int .i64 (i : Int))) 11 (.int .i64 (j : Int))) ∧ Hp w0 [] w' [.row 5 1 (.slice A2 n c2) n (bys xs)] ∧ (j ≤ 32) ∧ (n = (4 + 2 + name.size + 2 + note.size + 8) + 32 * i + j) ∧ (xs = ([99, 108, 105, 112] ++ putL name.size 2 ++ name.data.toList ++ putL note.size 2 ++ note.data.toList ++ putL (u64N made) 8) ++ laidA (l.take i) ++ (adAt l i).1.take j)) (fun a_0 => match a_0 with | (j, n, A2, c2, xs) => 32 - j) ?_ (0, n, A2, c2, xs) _ _ ?_
   ·rintro ⟨j, n, A2, c2, xs⟩ f wz ⟨fz, rfl, hp, hj0, hn, hx⟩ ihL1
    refine Lp_round ?_
    refine GW_seq ?_
    refine GW_seq ?_
    refine GW_region ?_
    refine GL_rd (v := .int _ _) (wn_none rfl) rfl (rd_move rfl rfl) ?_
    refine GL_rd (wn_none rfl) rfl (rd_bin rfl rfl rfl bo_lss) ?_
    refine GL_nil ?_
    refine GW_cond rfl (fun hb2 => ?_) (fun hb2 => ?_)
    ·(try simp only [decide_eq_true_eq, decide_eq_false_iff_not, Bool.not_eq_true', Bool.not_eq_false', Bool.not_eq_eq_eq_not, Bool.not_true, Bool.not_false, Int.not_lt, Int.not_le] at hb2)
     refine GW_skip ?_
     refine GW_seq ?_
     refine GW_block ?_
     refine GW_region ?_
     refine GL_rd (v := .slice _ _ _) (wn_none rfl) rfl (rd_move rfl rfl) ?_
     refine GL_rd (v := .slice _ _ _) (wn_none rfl) rfl (rd_move rfl rfl) ?_
     refine GL_rd (v := .int _ _) (wn_none rfl) rfl (rd_move rfl rfl) ?_
     refine GL_rd (v := .int _ _) (wn_none rfl) rfl (rd_move rfl rfl) ?_
     refine GL_rd (wn_none rfl) rfl (rd_indexS (j := i) rfl rfl rfl Tryz.underlying50 ts30 rfl (by omega) _ rfl) ?_
     refine GL_rd (wn_none rfl) rfl (rd_indexA (j := j) rfl rfl rfl Tryz.underlying30 ts5 rfl (by omega) _ rfl) ?_
     refine GL_rd (wn_none rfl) rfl (rd_load rfl rfl Tryz.underlying5 rfl ((hA.keep hp.mod).adB i (by omega) j (by omega))) ?_
     refine GL_lit (L := (bys [(adAt l i).1.getD j 0])) (wn_none rfl) rfl rfl Tryz.underlying35 ts5 tz5 rfl (by kernel_rfl) rfl rfl hp ?_
     intro g2 w hp
     refine GL_append (i := 1) (wn_none rfl) rfl rfl rfl rfl Tryz.underlying35 ti5 rfl (by decide) hp rfl (Sl.row (hp.get 0 rfl)) (bys_one _) (by omega) (by omega) ?_
     intro v6 w hp
     obtain ⟨Av6, cv6, rfl⟩ := row_shape (hp.get 1 rfl)
     rw [← bys_append] at hp
     refine GL_rd (v := .slice _ _ _) (wn_none rfl) rfl (rd_assign rfl rfl) ?_
     refine GL_nil ?_
     refine GW_region ?_
     refine GL_rd (v := .int _ _) (wn_none rfl) rfl (rd_move rfl rfl) ?_
     refine GL_rd (wn_none rfl) rfl (rd_bin rfl rfl rfl (bo_add64 (by omega))) ?_
     refine GL_rd (v := .int _ _) (wn_none rfl) rfl (rd_assign rfl rfl) ?_
     refine GL_nil ?_
     have hp := ((hp.front 1 rfl).take 1)
     exact ihL1 (j + 1, _, _, _, _) _ _ (by simp only []; omega) ⟨_, slots4 rfl rfl rfl rfl, hp, by omega, by omega, by rw [hx, List.append_assoc, List.take_succ_eq_append_getD (by rw [(adAt l i).2]; omega)]⟩
    ·(try simp only [decide_eq_true_eq, decide_eq_false_iff_not, Bool.not_eq_true', Bool.not_eq_false', Bool.not_eq_eq_eq_not, Bool.not_true, Bool.not_false, Int.not_lt, Int.not_le] at hb2)
     obtain rfl : j = 32 := by omega
     refine GW_exit ?_
     refine GW_region ?_
     refine GL_rd (v := .int _ _) (wn_none rfl) rfl (rd_move rfl rfl) ?_
     refine GL_rd (wn_none rfl) rfl (rd_bin rfl rfl rfl (bo_add64 (by omega))) ?_
     refine GL_rd (v := .int _ _) (wn_none rfl) rfl (rd_assign rfl rfl) ?_
     refine GL_nil ?_
     exact ihL0 (i + 1, _, _, _, _) _ _ (by simp only []; omega) ⟨_, slots3 rfl rfl rfl, hp, by omega, by omega, by rw [hx, laidA_succ (by omega), List.take_of_length_le (l := (adAt l i).1) (by rw [(adAt l i).2]; omega), List.append_assoc]⟩
   ·refine ⟨_, slots4 rfl rfl rfl rfl, hp, Nat.zero_le _, by omega, by rw [hx, List.take_zero, List.append_nil]⟩
  ·(try simp only [decide_eq_true_eq, decide_eq_false_iff_not, Bool.not_eq_true', Bool.not_eq_false', Bool.not_eq_eq_eq_not, Bool.not_true, Bool.not_false, Int.not_lt, Int.not_le] at hb)
   obtain rfl : i = m := by omega
   refine GW_exit ?_
   refine GW_seq ?_
   refine GW_region ?_
   refine GL_rd (v := .slice _ _ _) (wn_none rfl) rfl (rd_move rfl rfl) ?_
   refine GL_rd (v := .slice _ _ _) (wn_none rfl) rfl (rd_assign rfl rfl) ?_
   refine GL_nil ?_
   refine GW_ret ?_
   have e : xs = clSaid name made note l := by rw [hx, List.take_of_length_le (by omega)]; simp only [clSaid, List.append_assoc]
   subst e
   have en := row_n (hp.get 0 rfl)
   subst en
   have hp := ((hp.front 0 rfl).take 1)
   exact ⟨_, res1 Tryz.results66 (rv_tmp (v := .slice _ _ _) rfl rfl), hp⟩
 ·have hp := ((hp.front 2 rfl).take 1)
  refine ⟨_, slots3 rfl rfl rfl, hp, Nat.zero_le _, by omega, by simp [laidA]⟩
theorem ref_bAddress (name note : ByteArray) (made : Int) (lv : Value) (m : Nat) (l : List A32) (w0 : World) (hA : Sl w0 lv 32 m (l.flatMap adC)) (hs : name.size ≤ 65535 ∧ note.size ≤ 65535) (hm : m ≤ 65535) : Does Tryz.prog 39 #[.string name, .int .i64 made, .string note, lv] w0 fun v w' => v = .agg ⟨bys (clAdr name made note l)⟩ ∧ Hp w0 [] w' [] := by
 have hlm : l.length = m := by have := hA.len; rw [flat_length adC_len] at this; omega
 have hcl := clSaid_length name made note l
 refine does_of (l := [.string name, .int .i64 made, .string note, lv]) Tryz.func39 (by kernel_rfl) rfl Tryz.ntmps39 rfl rfl (by kernel_rfl) ?_
 have hp := Hp.refl w0 []
 refine GW_seq ?_
 refine GW_region ?_
 refine GL_alloc (wn_none rfl) rfl rfl tz30 rfl hp ?_
 intro g w hp
 refine GL_nil ?_
 refine GW_seq ?_
 refine GW_region ?_
 refine GL_rd (v := .string _) (wn_none rfl) rfl (rd_move rfl rfl) ?_
 refine GL_rd (v := .int _ _) (wn_none rfl) rfl (rd_move rfl rfl) ?_
 refine GL_rd (v := .string _) (wn_none rfl) rfl (rd_move rfl rfl) ?_
 refine GL_rd (v := lv) (wn_none rfl) rfl (rd_move rfl rfl) ?_
 refine GL_call (wn_none rfl) rfl rfl (ref_bSaid name note made _ m l _ (hA.keep hp.mod) hs hm) rfl ?_
 intro vs w hk
 have hp := hp.comp hk
 refine GL_call (wn_none rfl) rfl rfl (ref_Sum _ _ (clSaid name made note l) _ (Sl.row (hp.get 0 rfl)) (by omega)) rfl ?_
 rintro _ w ⟨rfl, hk⟩
 have hp := hp.comp hk
 refine GL_store (i := 1) (wn_none rfl) rfl rfl rfl rfl ts30 rfl (by rw [bys_length]; first | exact a32_len _ | rfl | simp [*]) (bys_one _) hp rfl (by first | exact Nat.le_of_ble_eq_true rfl | (simp only [bys_length, a32_len]; omega)) (splice_all _ _ (by first | (rw [bys_length, List.length_replicate]; first | exact a32_len _) | (rw [bys_length]; first | exact a32_len _) | (rw [bys_length]; rfl) | simp [bys_length, a32_len, *])) ?_
 intro w hp
 refine GL_nil ?_
 refine GW_ret ?_
 exact ⟨_, res1 Tryz.results39 (rv_cell rfl rfl Tryz.underlying30 rfl ts30 (by rw [bys_length]; exact clAdr_length _ _ _ _) (hp.get 1 rfl)), rfl, hp.mods⟩
set_option maxHeartbeats 1000000 in
theorem bi_Address (name note : ByteArray) (made : Int) (lv : Value) (m : Nat) (l : List A32) (w0 : World) (hA : Sl w0 lv 32 m (l.flatMap adC)) (hs : name.size ≤ 65535 ∧ note.size ≤ 65535) (hm : m ≤ 65535) : Does Tryz.prog 37 #[.string name, .int .i64 made, .string note, lv] w0 fun v w' => v = .agg ⟨bys (clAdr name made note l)⟩ ∧ Hp w0 [] w' [] := by
 obtain ⟨A, c, rfl⟩ := sl_shape hA
 have hlm : l.length = m := Sl.ads hA
 obtain ⟨hs1, hs2⟩ := hs
 have hbl := fun i => snB_le (name := name) (note := note) ⟨hs1, hs2⟩ i
 have hnl := fun i => nmAt_le (name := name) (note := note) i ⟨hs1, hs2⟩
 refine does_of (l := [.string name, .int .i64 made, .string note, .slice A m c]) Tryz.func37 (by kernel_rfl) rfl Tryz.ntmps37 rfl rfl (by kernel_rfl) ?_
 have hp := Hp.refl w0 []
 refine GW_seq ?_
 refine GW_region ?_
 refine GL_alloc (wn_none rfl) rfl rfl tz30 rfl hp ?_
 intro g w hp
 refine GL_nil ?_
 refine GW_seq ?_
 refine GW_region ?_
 refine GL_call (wn_none rfl) rfl rfl (dig_New _) rfl ?_
 rintro _ w ⟨gh, rfl, hk⟩
 have hp := hp.comp hk
 refine GL_rd (v := .pointer (some ⟨_, _, none⟩)) (wn_none rfl) rfl (rd_assign rfl rfl) ?_
 refine GL_nil ?_
 refine GW_seq ?_
 refine GW_region ?_
 refine GL_rd (v := .pointer (some ⟨_, _, none⟩)) (wn_none rfl) rfl (rd_move rfl rfl) ?_
 refine GL_lit (L := (bys [99, 108, 105, 112])) (wn_none rfl) rfl rfl Tryz.underlying35 ts5 tz5 rfl (by kernel_rfl) rfl rfl hp ?_
 intro g2 w hp
 refine GL_convB (i := 0) (wn_none rfl) rfl rfl rfl Tryz.underlying35 Tryz.underlying5 hp rfl ?_
 intro w hp
 have hp := (((((hp.front 3 rfl).front 1 rfl).front 3 rfl).front 3 rfl).take 4)
 refine GL_call (wn_none rfl) rfl rfl (dig_Add gh [] _ _ _ [99, 108, 105, 112] _ (hp.ownsT 2) (fun w' h => Sl.blk (hp.stays 2 2 rfl (by decide) h) 1 _ rfl (by simp [maxLen])) (by decide)) rfl ?_
 rintro _ w ⟨rv2, hk⟩
 have hp := hp.turnsT 2 hk
 refine GL_nil ?_
 refine GW_seq ?_
 refine GW_seq ?_
 refine GW_region ?_
 refine GL_rd (v := .string _) (wn_none rfl) rfl (rd_move rfl rfl) ?_
 refine GL_rd (v := .string _) (wn_none rfl) rfl (rd_move rfl rfl) ?_
 refine GL_rd (wn_none rfl) rfl (rd_buildA (L := [.string name, .string note]) rfl tz95 Tryz.underlying95 ts9 (by kernel_rfl)) ?_
 refine GL_rd (v := .int _ _) (wn_none rfl) rfl (rd_move rfl rfl) ?_
 refine GL_nil ?_
 refine GW_block ?_
 refine GW_loop ?_
 refine Lp_ind (α := Nat × Value) (fun a_0 f_0 w' => match a_0 with | (i, rv) => ∃ fz, f_0 = (upd (upd (upd (upd (upd (upd fz 1 (.int .i64 made)) 3 (.slice A m c)) 8 (.pointer (some ⟨g, 0, none⟩))) 9 (.pointer (some ⟨gh, 0, none⟩))) 21 (.agg ⟨[.string name, .string note]⟩)) 22 (.int .i64 (i : Int))) ∧ Hp w0 [] w' [cells gh 125 (hsC (snB name note i) rv), .row 5 1 rv (hrB (snB name note i)).length (bys (hrB (snB name note i))), cells g 30 (List.replicate 32 (.int .u8 0))] ∧ (i ≤ 2)) (fun a_0 => match a_0 with | (i, rv) => 2 - i) ?_ (0, rv2) _ _ ?_
 ·rintro ⟨i, rv⟩ f wz ⟨fz, rfl, hp, hi0⟩ ihL0
  refine Lp_round ?_
  refine GW_seq ?_
  refine GW_region ?_
  refine GL_rd (wn_none rfl) rfl (rd_bin rfl rfl rfl bo_lss) ?_
  refine GL_nil ?_
  refine GW_seq ?_
  refine GW_cond rfl (fun hb => ?_) (fun hb => ?_)
  ·(try simp only [decide_eq_true_eq, decide_eq_false_iff_not, Bool.not_eq_true', Bool.not_eq_false', Bool.not_eq_eq_eq_not, Bool.not_true, Bool.not_false, Int.not_lt, Int.not_le] at hb)
   refine GW_skip ?_
   refine GW_seq ?_
   refine GW_block ?_
   refine GW_seq ?_
   refine GW_region ?_
   refine GL_rd (wn_none rfl) rfl (rd_indexV (j := i) rfl rfl rfl Tryz.underlying95 Tryz.underlying9 rfl ts9 rfl (by omega) (nm_cell (by omega))) ?_
   refine GL_rd (v := .string _) (wn_none rfl) rfl (rd_assign rfl rfl) ?_
   refine GL_nil ?_
   refine GW_seq ?_
   refine GW_region ?_
   refine GL_rd (v := .pointer (some ⟨_, _, none⟩)) (wn_none rfl) rfl (rd_move rfl rfl) ?_
   refine GL_rd (v := .string _) (wn_none rfl) rfl (rd_move rfl rfl) ?_
   refine GL_rd (wn_none rfl) rfl (rd_lenS rfl rfl Tryz.underlying9) ?_
   refine GL_rd (wn_none rfl) rfl (rd_convE (q := ((nmAt name note i).size : Int)) rfl rfl Tryz.underlying62 Tryz.underlying3 (by simp) (IntWalk.u64_in _ (by have := hnl i; omega))) ?_
   have hn1 := hnl i
   have hb1 := hbl i
   refine GL_call (wn_none rfl) rfl rfl (word_Put (nmAt name note i).size 2 _ (by omega) (by decide)) rfl ?_
   rintro _ w ⟨q, rfl, hk⟩
   have hp := hp.comp hk
   have hp := (((((hp.front 3 rfl).front 1 rfl).front 3 rfl).front 3 rfl).take 4)
   refine GL_call (wn_none rfl) rfl rfl (dig_Add gh (snB name note i) _ _ _ (putL (nmAt name note i).size 2) _ (hp.ownsT 2) (fun w' h => Sl.row (hp.stays 2 2 rfl (by decide) h)) (by show (snB name note i).length + 2 ≤ _; omega)) rfl ?_
   rintro _ w ⟨rv2, hk⟩
   have hp := hp.turnsT 2 hk
   refine GL_nil ?_
   refine GW_region ?_
   refine GL_rd (v := .pointer (some ⟨_, _, none⟩)) (wn_none rfl) rfl (rd_move rfl rfl) ?_
   refine GL_rd (v := .string _) (wn_none rfl) rfl (rd_move rfl rfl) ?_
   refine GL_strB (wn_none rfl) rfl rfl rfl Tryz.underlying9 Tryz.underlying35 Tryz.underlying5 hp (by omega) ?_
   intro sb ob sv w hp hsl
   have hp := ((((((hp.front 4 rfl).front 4 rfl).front 2 rfl).front 4 rfl).front 4 rfl).take 5)
   refine GL_call (wn_none rfl) rfl rfl (dig_Add gh ((snB name note i) ++ putL (nmAt name note i).size 2) _ _ _ (nmAt name note i).data.toList _ (hp.ownsT 2) (fun w' h => hsl _ (hp.stays 2 2 rfl (by decide) h)) (by simp only [List.length_append, putL_length]; omega)) rfl ?_
   rintro _ w ⟨rv2, hk⟩
   have hp := hp.turnsT 2 hk
   refine GL_nil ?_
   refine GW_region ?_
   refine GL_rd (wn_none rfl) rfl (rd_bin rfl rfl rfl (bo_add64 (by omega))) ?_
   refine GL_rd (v := .int _ _) (wn_none rfl) rfl (rd_move rfl rfl) ?_
   refine GL_nil ?_
   have hp := ((((hp.front 4 rfl).front 2 rfl).front 2 rfl).take 3)
   exact ihL0 (i + 1, rv2) _ _ (by simp only []; omega) ⟨_, slots6 rfl rfl rfl rfl rfl rfl, hp, by omega⟩
  ·(try simp only [decide_eq_true_eq, decide_eq_false_iff_not, Bool.not_eq_true', Bool.not_eq_false', Bool.not_eq_eq_eq_not, Bool.not_true, Bool.not_false, Int.not_lt, Int.not_le] at hb)
   obtain rfl : i = 2 := by omega
   refine GW_exit ?_
   refine GW_seq ?_
   refine GW_region ?_
   refine GL_rd (v := .pointer (some ⟨_, _, none⟩)) (wn_none rfl) rfl (rd_move rfl rfl) ?_
   refine GL_rd (v := .int _ _) (wn_none rfl) rfl (rd_move rfl rfl) ?_
   refine GL_rd (wn_none rfl) rfl (rd_convE (q := (u64N made : Int)) rfl rfl Tryz.underlying62 Tryz.underlying3 (by simp) (u64_wrapN _)) ?_
   refine GL_call (wn_none rfl) rfl rfl (word_Put (u64N made) 8 _ (u64N_lt _) (by decide)) rfl ?_
   rintro _ w ⟨q, rfl, hk⟩
   have hp := hp.comp hk
   have hp := (((((hp.front 3 rfl).front 1 rfl).front 3 rfl).front 3 rfl).take 4)
   refine GL_call (wn_none rfl) rfl rfl (dig_Add gh (snB name note 2) _ _ _ (putL (u64N made) 8) _ (hp.ownsT 2) (fun w' h => Sl.row (hp.stays 2 2 rfl (by decide) h)) (by have := hbl 2; show (snB name note 2).length + 8 ≤ _; omega)) rfl ?_
   rintro _ w ⟨rv2, hk⟩
   have hp := hp.turnsT 2 hk
   refine GL_nil ?_
   refine GW_seq ?_
   refine GW_seq ?_
   refine GW_region ?_
   refine GL_rd (v := .slice _ _ _) (wn_none rfl) rfl (rd_move rfl rfl) ?_
   refine GL_rd (wn_none rfl) rfl (rd_len rfl rfl Tryz.underlying50) ?_
   refine GL_rd (v := .int _ _) (wn_none rfl) rfl (rd_move rfl rfl) ?_
   refine GL_nil ?_
   refine GW_block ?_
   refine GW_loop ?_
   refine Lp_ind (α := Nat × Value) (fun a_0 f_0 w' => match a_0 with | (i, rv) => ∃ fz, f_0 = (upd (upd (upd (upd (upd (upd fz 3 (.slice A m c)) 8 (.pointer (some ⟨g, 0, none⟩))) 9 (.pointer (some ⟨gh, 0, none⟩))) 41 (.slice A m c)) 42 (.int .i64 (m : Int))) 43 (.int .i64 (i : Int))) ∧ Hp w0 [] w' [cells gh 125 (hsC ((snB name note 2 ++ putL (u64N made) 8) ++ laidA (l.take i)) rv), .row 5 1 rv (hrB ((snB name note 2 ++ putL (u64N made) 8) ++ laidA (l.take i))).length (bys (hrB ((snB name note 2 ++ putL (u64N made) 8) ++ laidA (l.take i)))), cells g 30 (List.replicate 32 (.int .u8 0))] ∧ (i ≤ m)) (fun a_0 => match a_0 with | (i, rv) => m - i) ?_ (0, rv2) _ _ ?_
   ·rintro ⟨i, rv⟩ f wz ⟨fz, rfl, hp, hi0⟩ ihL1
    refine Lp_round ?_
    refine GW_seq ?_
    refine GW_region ?_
    refine GL_rd (wn_none rfl) rfl (rd_bin rfl rfl rfl bo_lss) ?_
    refine GL_nil ?_
    refine GW_seq ?_
    refine GW_cond rfl (fun hb2 => ?_) (fun hb2 => ?_)
    ·(try simp only [decide_eq_true_eq, decide_eq_false_iff_not, Bool.not_eq_true', Bool.not_eq_false', Bool.not_eq_eq_eq_not, Bool.not_true, Bool.not_false, Int.not_lt, Int.not_le] at hb2)
     obtain ⟨gA, bA, rfl⟩ := hA.addr (by rw [flat_length adC_len]; omega)
     refine GW_skip ?_
     refine GW_seq ?_
     refine GW_block ?_
     refine GW_seq ?_
     refine GW_region ?_
     refine GL_rd (wn_none rfl) rfl (rd_indexS (j := i) rfl rfl rfl Tryz.underlying50 ts30 rfl (by omega) _ rfl) ?_
     refine GL_rd (wn_none rfl) rfl (rd_loadN (L := bys (adAt l i).1) rfl rfl Tryz.underlying30 rfl ts30 (by rw [bys_length]; exact (adAt l i).2) (fun j u hj => (hA.keep hp.mod).adE i (by omega) hj)) ?_
     refine GL_alloc (wn_none rfl) rfl rfl tz30 rfl hp ?_
     intro g3 w hp
     refine GL_store (i := 0) (wn_none rfl) rfl rfl rfl rfl ts30 rfl (by rw [bys_length]; exact (adAt l i).2) (bys_one _) hp rfl (Nat.le_of_ble_eq_true rfl) (splice_all _ _ (by rw [bys_length, (adAt l i).2]; rfl)) ?_
     intro w hp
     refine GL_nil ?_
     refine GW_region ?_
     refine GL_rd (v := .pointer (some ⟨_, _, none⟩)) (wn_none rfl) rfl (rd_move rfl rfl) ?_
     refine GL_rd (wn_none rfl) rfl (rd_sliceA (lo := 0) (hi := 32) rfl rfl Tryz.underlying30 ts5 at_none to_none (by decide) (by decide) (by decide) _ rfl) ?_
     have hp := (((((hp.front 3 rfl).front 1 rfl).front 3 rfl).front 3 rfl).take 4)
     refine GL_call (wn_none rfl) rfl rfl (dig_Add gh ((snB name note 2 ++ putL (u64N made) 8) ++ laidA (l.take i)) _ _ _ (adAt l i).1 _ (hp.ownsT 2) (fun w' h => Sl.cells (hp.stays 2 2 rfl (by decide) h) 1 32 32 0 (bys (adAt l i).1) (by rw [List.drop_zero, List.take_of_length_le (by rw [bys_length, (adAt l i).2]; decide)]) (by rw [bys_length, (adAt l i).2]; decide) (by decide) (by decide)) (by have := hbl 2; simp only [List.length_append, putL_length, laidA_length, List.length_take]; omega)) rfl ?_
     rintro _ w ⟨rv2, hk⟩
     have hp := hp.turnsT 2 hk
     refine GL_nil ?_
     refine GW_region ?_
     refine GL_rd (wn_none rfl) rfl (rd_bin rfl rfl rfl (bo_add64 (by omega))) ?_
     refine GL_rd (v := .int _ _) (wn_none rfl) rfl (rd_move rfl rfl) ?_
     refine GL_nil ?_
     rw [List.append_assoc, ← laidA_succ (by omega)] at hp
     have hp := ((((hp.front 3 rfl).front 2 rfl).front 2 rfl).take 3)
     exact ihL1 (i + 1, rv2) _ _ (by simp only []; omega) ⟨_, slots6 rfl rfl rfl rfl rfl rfl, hp, by omega⟩
    ·(try simp only [decide_eq_true_eq, decide_eq_false_iff_not, Bool.not_eq_true', Bool.not_eq_false', Bool.not_eq_eq_eq_not, Bool.not_true, Bool.not_false, Int.not_lt, Int.not_le] at hb2)
     obtain rfl : i = m := by omega
     rw [List.take_of_length_le (by omega), snB_said] at hp
     refine GW_exit ?_
     refine GW_seq ?_
     refine GW_region ?_
     refine GL_rd (v := .pointer (some ⟨_, _, none⟩)) (wn_none rfl) rfl (rd_move rfl rfl) ?_
     have hcl := clSaid_length name made note l
     refine GL_call (wn_none rfl) rfl rfl (dig_Sum gh (clSaid name made note l) rv _ (hp.get 0 rfl) (Sl.row (hp.get 1 rfl)) (by omega)) rfl ?_
     rintro _ w ⟨rfl, hk⟩
     have hp := hp.comp hk
     refine GL_store (i := 2) (wn_none rfl) rfl rfl rfl rfl ts30 rfl (by rw [bys_length]; exact clAdr_length _ _ _ _) (bys_one _) hp rfl (Nat.le_of_ble_eq_true rfl) (splice_all _ _ (by rw [bys_length, sumB_length]; rfl)) ?_
     intro w hp
     refine GL_nil ?_
     refine GW_ret ?_
     exact ⟨_, res1 Tryz.results37 (rv_cell rfl rfl Tryz.underlying30 rfl ts30 (by rw [bys_length]; exact clAdr_length _ _ _ _) (hp.get 2 rfl)), rfl, hp.mods⟩
   ·have e0 : (snB name note 2 ++ putL (u64N made) 8) = (snB name note 2 ++ putL (u64N made) 8) ++ laidA (l.take 0) := by simp [laidA]
    rw [e0] at hp
    have hp := ((((hp.front 3 rfl).front 2 rfl).front 2 rfl).take 3)
    refine ⟨_, slots6 rfl rfl rfl rfl rfl rfl, hp, Nat.zero_le _⟩
 ·have hp := ((((hp.front 3 rfl).front 2 rfl).front 2 rfl).take 3)
  refine ⟨_, slots6 rfl rfl rfl rfl rfl rfl, hp, Nat.zero_le _⟩
end Go.Proofs.YtpagpmioopaciaaGreat
