/- Walks of functions of the program. -/
import Derived.Test.YtpagpmioopaciaaGreatPFTry
import Derived.Test.YtpagpmioopaciaaGreatPFAud
import Derived.Test.YtpagpmioopaciaaGreatPAudW
set_option linter.unusedVariables false
set_option linter.unusedSimpArgs false
namespace Go.Proofs.YtpagpmioopaciaaGreat
open Go.Mo Go.RowKit
theorem bu_Get (sv : Value) (l : List UInt8) (w0 : World) (hs : Sl w0 sv 1 l.length (bys l)) : Does Tryz.prog 17 #[sv] w0 fun v w' => ∃ L5 c H, v = .tuple #[.agg ⟨L5⟩, .int .i64 c] ∧ TryR 35 5 46 (getB l) L5 c H ∧ (l.length ≤ 32768 → holdsL l = false → c = 5) ∧ (c = 15 → 32768 < l.length) ∧ Hp w0 [] w' H := by
 obtain ⟨A, c, rfl⟩ := sl_shape hs
 have hlm := hs.le
 refine does_of (l := [.slice A l.length c]) Tryz.func17 (by kernel_rfl) rfl Tryz.ntmps17 rfl rfl (by kernel_rfl) ?_
 have hp := Hp.refl w0 []
 refine GW_seq ?_
 refine GW_region ?_
 refine GL_alloc (wn_none rfl) rfl rfl tz28 rfl hp ?_
 intro g w hp
 refine GL_rd (v := .int _ _) (wn_none rfl) rfl (rd_assign rfl rfl) ?_
 refine GL_nil ?_
 refine GW_seq ?_
 refine GW_seq ?_
 refine GW_region ?_
 refine GL_rd (v := .slice _ _ _) (wn_none rfl) rfl (rd_move rfl rfl) ?_
 refine GL_rd (wn_none rfl) rfl (rd_len rfl rfl Tryz.underlying35) ?_
 refine GL_rd (wn_none rfl) rfl (rd_bin rfl rfl rfl bo_gtr) ?_
 refine GL_nil ?_
 refine GW_cond rfl (fun hb => ?_) (fun hb => ?_)
 ·(try simp only [decide_eq_true_eq, decide_eq_false_iff_not, Bool.not_eq_true', Bool.not_eq_false', Bool.not_eq_eq_eq_not, Bool.not_true, Bool.not_false, Int.not_lt, Int.not_le] at hb)
  refine GW_seq ?_
  refine GW_region ?_
  refine GL_rd (wn_none rfl) rfl (rd_buildS (L := buZ) rfl tz28 pl28 (by kernel_rfl)) ?_
  refine GL_store (i := 0) (wn_none rfl) rfl rfl rfl rfl ts28 rfl rfl (oneC rfl (oneC rfl (oneC rfl (oneC rfl (oneC rfl one0))))) hp rfl (by first | exact Nat.le_of_ble_eq_true rfl | simp [bys_length, *]) rfl ?_
  intro w hp
  refine GL_rd (v := .int _ _) (wn_none rfl) rfl (rd_assign rfl rfl) ?_
  refine GL_nil ?_
  refine GW_ret ?_
  refine ⟨_, res2 Tryz.results17 (rv_cell rfl rfl Tryz.underlying28 rfl ts28 (by first | exact hT.len | rfl) (hp.get 0 rfl)) (rv_tmp (v := .int _ _) rfl rfl), buZ, 15, [], rfl, .inr ⟨by omega, rfl, getB_big (by omega), rfl⟩, fun h => absurd h (by omega), fun _ => by omega, hp.mods⟩
 ·(try simp only [decide_eq_true_eq, decide_eq_false_iff_not, Bool.not_eq_true', Bool.not_eq_false', Bool.not_eq_eq_eq_not, Bool.not_true, Bool.not_false, Int.not_lt, Int.not_le] at hb)
  have hle : l.length ≤ 32768 := by have := hb; omega
  refine GW_skip ?_
  refine GW_seq ?_
  refine GW_seq ?_
  refine GW_region ?_
  refine GL_rd (v := .slice _ _ _) (wn_none rfl) rfl (rd_move rfl rfl) ?_
  refine GL_call (wn_none rfl) rfl rfl (crc_Holds _ _ l _ (hs.keep hp.mod)) rfl ?_
  rintro _ w ⟨rfl, hk⟩
  have hp := hp.comp hk
  refine GL_rd (wn_none rfl) rfl (rd_not rfl rfl) ?_
  refine GL_nil ?_
  refine GW_cond rfl (fun hb2 => ?_) (fun hb2 => ?_)
  ·(try simp only [decide_eq_true_eq, decide_eq_false_iff_not, Bool.not_eq_true', Bool.not_eq_false', Bool.not_eq_eq_eq_not, Bool.not_true, Bool.not_false, Int.not_lt, Int.not_le] at hb2)
   have hno : holdsL l = false := by simpa using hb2
   refine GW_seq ?_
   refine GW_region ?_
   refine GL_rd (wn_none rfl) rfl (rd_buildS (L := buZ) rfl tz28 pl28 (by kernel_rfl)) ?_
   refine GL_store (i := 0) (wn_none rfl) rfl rfl rfl rfl ts28 rfl rfl (oneC rfl (oneC rfl (oneC rfl (oneC rfl (oneC rfl one0))))) hp rfl (by first | exact Nat.le_of_ble_eq_true rfl | simp [bys_length, *]) rfl ?_
   intro w hp
   refine GL_rd (v := .int _ _) (wn_none rfl) rfl (rd_assign rfl rfl) ?_
   refine GL_nil ?_
   refine GW_ret ?_
   refine ⟨_, res2 Tryz.results17 (rv_cell rfl rfl Tryz.underlying28 rfl ts28 (by first | exact hT.len | rfl) (hp.get 0 rfl)) (rv_tmp (v := .int _ _) rfl rfl), buZ, 5, [], rfl, .inr ⟨by omega, rfl, getB_bad hno, rfl⟩, fun _ _ => rfl, fun h => absurd h (by decide), hp.mods⟩
  ·(try simp only [decide_eq_true_eq, decide_eq_false_iff_not, Bool.not_eq_true', Bool.not_eq_false', Bool.not_eq_eq_eq_not, Bool.not_true, Bool.not_false, Int.not_lt, Int.not_le] at hb2)
   have hho : holdsL l = true := by simpa using hb2
   have h4 := holds_len hho
   refine GW_skip ?_
   refine GW_seq ?_
   refine GW_region ?_
   refine GL_rd (v := .slice _ _ _) (wn_none rfl) rfl (rd_move rfl rfl) ?_
   refine GL_rd (v := .slice _ _ _) (wn_none rfl) rfl (rd_move rfl rfl) ?_
   refine GL_rd (wn_none rfl) rfl (rd_len rfl rfl Tryz.underlying35) ?_
   refine GL_rd (wn_none rfl) rfl (rd_bin rfl rfl rfl (bo_sub64 (by omega))) ?_
   obtain ⟨A2, c2, hA2, hc2, hsl0⟩ := hs.subB 0 (l.length - 4) (by omega) (by omega)
   rw [List.drop_zero, Nat.sub_zero] at hsl0
   have hsl : Sl w0 (.slice A2 (l.length - 4) c2) 1 (l.take (l.length - 4)).length (bys (l.take (l.length - 4))) := by rw [show (l.take (l.length - 4)).length = l.length - 4 by rw [List.length_take]; omega]; exact hsl0
   refine GL_rd (wn_none rfl) rfl (rd_sliceE (lo := 0) (hi := (l.length - 4)) rfl rfl Tryz.underlying35 ts5 at_none (at_some rfl (by omega)) (by omega) (by have := (Sl.cap hs).1; omega) hA2 rfl hc2) ?_
   refine GL_rd (wn_none rfl) rfl (rd_buildS (L := [.slice A2 (l.length - 4) c2]) rfl tz73 pl73 (by kernel_rfl)) ?_
   refine GL_box (wn_none rfl) rfl rfl rfl rfl hp ?_
   intro g2 w hp
   refine GL_rd (v := .pointer (some ⟨_, _, none⟩)) (wn_none rfl) rfl (rd_assign rfl rfl) ?_
   refine GL_nil ?_
   refine GW_seq ?_
   refine GW_region ?_
   refine GL_rd (v := .pointer (some ⟨_, _, none⟩)) (wn_none rfl) rfl (rd_move rfl rfl) ?_
   refine GL_rd (wn_none rfl) rfl (rd_closureF (first := #[.pointer (some ⟨g2, 0, none⟩)]) (caps := #[]) rfl rfl rfl) ?_
   refine GL_call (wn_none rfl) rfl rfl (trap_Try g2 _ (l.take (l.length - 4)) w0 _ hp.mod (hp.newAt 0 rfl) (hp.get 0 rfl) hsl) rfl ?_
   rintro _ w ⟨L5, c, H, rfl, hT, hc15, hk⟩
   have hp := hp.turnAtMore 0 rfl hk
   have hp := hp.perm List.perm_append_comm
   refine GL_rd (v := .agg ⟨_⟩) (wn_none rfl) rfl (rd_extract rfl rfl rfl) ?_
   refine GL_rd (v := .int _ _) (wn_none rfl) rfl (rd_extract rfl rfl rfl) ?_
   refine GL_store (i := 0) (wn_none rfl) rfl rfl rfl rfl ts28 rfl hT.len hT.one hp rfl (by first | exact Nat.le_of_ble_eq_true rfl | simp [bys_length, *]) (splice_all _ _ hT.len) ?_
   intro w hp
   refine GL_rd (v := .int _ _) (wn_none rfl) rfl (rd_assign rfl rfl) ?_
   refine GL_nil ?_
   refine GW_ret ?_
   have hT' := hT
   rw [← getB_yes hle hho] at hT'
   refine ⟨_, res2 Tryz.results17 (rv_cell rfl rfl Tryz.underlying28 rfl ts28 (by first | exact hT.len | rfl) (hp.get 0 rfl)) (rv_tmp (v := .int _ _) rfl rfl), L5, c, H, rfl, hT', fun _ h => absurd h (by rw [hho]; simp), fun h => absurd h hc15, ?_⟩
   exact hp.drop 1
end Go.Proofs.YtpagpmioopaciaaGreat
set_option linter.unusedVariables false
set_option linter.unusedSimpArgs false
namespace Go.Proofs.YtpagpmioopaciaaGreat
open Go.Mo Go.RowKit
theorem law_alight (sv : Value) (m : Nat) (l : List Rec) (w0 : World) (hI : Sl w0 sv 100 m (l.flatMap recC)) : Does Tryz.prog 16 #[sv] w0 fun v w' => v = .int .i64 (lightI l) ∧ Hp w0 [] w' [] := by
 obtain ⟨A, c, rfl⟩ := sl_shape hI
 have hlm := Sl.recs hI
 have hmle := hI.le
 refine does_of (l := [.slice A m c]) Tryz.func16 (by kernel_rfl) rfl Tryz.ntmps16 rfl rfl (by kernel_rfl) ?_
 have hp := Hp.refl w0 []
 refine GW_seq ?_
 refine GW_region ?_
 refine GL_rd (v := .int _ _) (wn_none rfl) rfl (rd_assign rfl rfl) ?_
 refine GL_nil ?_
 refine GW_seq ?_
 refine GW_seq ?_
 refine GW_region ?_
 refine GL_rd (v := .slice _ _ _) (wn_none rfl) rfl (rd_move rfl rfl) ?_
 refine GL_rd (wn_none rfl) rfl (rd_len rfl rfl Tryz.underlying23) ?_
 refine GL_rd (wn_none rfl) rfl (rd_bin rfl rfl rfl bo_gtr) ?_
 refine GL_nil ?_
 refine GW_cond rfl (fun hb => ?_) (fun hb => ?_)
 ·(try simp only [decide_eq_true_eq, decide_eq_false_iff_not, Bool.not_eq_true', Bool.not_eq_false', Bool.not_eq_eq_eq_not, Bool.not_true, Bool.not_false, Int.not_lt, Int.not_le] at hb)
  refine GW_seq ?_
  refine GW_region ?_
  refine GL_rd (v := .int _ _) (wn_none rfl) rfl (rd_assign rfl rfl) ?_
  refine GL_nil ?_
  refine GW_ret ?_
  have el : lightI l = 1 := light_long (by omega)
  exact ⟨_, res1 Tryz.results16 (rv_tmp (v := .int _ _) rfl rfl), by rw [el], hp⟩
 ·(try simp only [decide_eq_true_eq, decide_eq_false_iff_not, Bool.not_eq_true', Bool.not_eq_false', Bool.not_eq_eq_eq_not, Bool.not_true, Bool.not_false, Int.not_lt, Int.not_le] at hb)
  have hm20 := hb
  refine GW_skip ?_
  refine GW_seq ?_
  refine GW_seq ?_
  refine GW_region ?_
  refine GL_rd (v := .int _ _) (wn_none rfl) rfl (rd_assign rfl rfl) ?_
  refine GL_nil ?_
  refine GW_block ?_
  refine GW_loop ?_
  refine Lp_ind (α := Nat) (fun a_0 f_0 w' => match a_0 with | i => ∃ fz, f_0 = (upd (upd fz 0 (.slice A m c)) 3 (.int .i64 (i : Int))) ∧ Hp w0 [] w' [] ∧ (i ≤ m) ∧ (∀ j, j < i → litB (recAt l j) = true)) (fun a_0 => match a_0 with | i => m - i) ?_ 0 _ _ ?_
  ·rintro i f wz ⟨fz, rfl, hp, hi0, hok⟩ ihL0
   refine Lp_round ?_
   refine GW_seq ?_
   refine GW_seq ?_
   refine GW_region ?_
   refine GL_rd (v := .int _ _) (wn_none rfl) rfl (rd_move rfl rfl) ?_
   refine GL_rd (v := .slice _ _ _) (wn_none rfl) rfl (rd_move rfl rfl) ?_
   refine GL_rd (wn_none rfl) rfl (rd_len rfl rfl Tryz.underlying23) ?_
   refine GL_rd (wn_none rfl) rfl (rd_bin rfl rfl rfl bo_lss) ?_
   refine GL_nil ?_
   refine GW_cond rfl (fun hb2 => ?_) (fun hb2 => ?_)
   ·(try simp only [decide_eq_true_eq, decide_eq_false_iff_not, Bool.not_eq_true', Bool.not_eq_false', Bool.not_eq_eq_eq_not, Bool.not_true, Bool.not_false, Int.not_lt, Int.not_le] at hb2)
    obtain ⟨gA, bA, rfl⟩ := hI.addr (by rw [flat_length recC_len]; omega)
    refine GW_skip ?_
    refine GW_seq ?_
    refine GW_block ?_
    refine GW_seq ?_
    refine GW_region ?_
    refine GL_rd (v := .slice _ _ _) (wn_none rfl) rfl (rd_move rfl rfl) ?_
    refine GL_rd (v := .int _ _) (wn_none rfl) rfl (rd_move rfl rfl) ?_
    refine GL_rd (wn_none rfl) rfl (rd_indexS (j := i) rfl rfl rfl Tryz.underlying23 ts46 rfl (by omega) _ rfl) ?_
    refine GL_rd (wn_none rfl) rfl (rd_field rfl rfl fa46_2 _ rfl) ?_
    refine GL_rd (wn_none rfl) rfl (rd_load rfl rfl Tryz.underlying9 rfl (Sl.recE (hI.keep hp.mod) i (by first | omega | assumption | exact Nat.lt_succ_self _) (rec_actor _))) ?_
    refine GL_rd (wn_none rfl) rfl (rd_lenS rfl rfl Tryz.underlying9) ?_
    refine GL_rd (wn_none rfl) rfl (rd_bin rfl rfl rfl bo_gtr) ?_
    refine GL_rd (v := .bool _) (wn_none rfl) rfl (rd_move rfl rfl) ?_
    refine GL_split (t := 20) (b := _) rfl ?_ ?_
    ·intro hb3; (try simp only [decide_eq_true_eq, decide_eq_false_iff_not, Bool.not_eq_true', Bool.not_eq_false', Bool.not_eq_eq_eq_not, Bool.not_true, Bool.not_false, Int.not_lt, Int.not_le] at hb3)
     refine GL_pass (nw_off rfl rfl rfl rfl rfl) rfl ?_
     refine GL_pass (nw_off rfl rfl rfl rfl rfl) rfl ?_
     refine GL_pass (nw_off rfl rfl rfl rfl rfl) rfl ?_
     refine GL_pass (nw_off rfl rfl rfl rfl rfl) rfl ?_
     refine GL_pass (nw_off rfl rfl rfl rfl rfl) rfl ?_
     refine GL_pass (nw_off rfl rfl rfl rfl rfl) rfl ?_
     refine GL_pass (nw_off rfl rfl rfl rfl rfl) rfl ?_
     refine GL_rd (v := .bool _) (wn_none rfl) rfl (rd_pickT rfl rfl rfl) ?_
     refine GL_nil ?_
     refine GW_true rfl ?_
     refine GW_seq ?_
     refine GW_region ?_
     refine GL_rd (v := .int _ _) (wn_none rfl) rfl (rd_assign rfl rfl) ?_
     refine GL_nil ?_
     refine GW_ret ?_
     have el : lightI l = 1 := light_bad (i := i) (by omega) (litB_no (by omega))
     exact ⟨_, res1 Tryz.results16 (rv_tmp (v := .int _ _) rfl rfl), by rw [el], hp⟩
    ·intro hb3; (try simp only [decide_eq_true_eq, decide_eq_false_iff_not, Bool.not_eq_true', Bool.not_eq_false', Bool.not_eq_eq_eq_not, Bool.not_true, Bool.not_false, Int.not_lt, Int.not_le] at hb3)
     have h1 := hb3
     refine GL_rd (v := .slice _ _ _) (wn_on rfl rfl rfl rfl) rfl (rd_move rfl rfl) ?_
     refine GL_rd (v := .int _ _) (wn_on rfl rfl rfl rfl) rfl (rd_move rfl rfl) ?_
     refine GL_rd (wn_on rfl rfl rfl rfl) rfl (rd_indexS (j := i) rfl rfl rfl Tryz.underlying23 ts46 rfl (by omega) _ rfl) ?_
     refine GL_rd (wn_on rfl rfl rfl rfl) rfl (rd_field rfl rfl fa46_4 _ rfl) ?_
     refine GL_rd (wn_on rfl rfl rfl rfl) rfl (rd_load rfl rfl Tryz.underlying9 rfl (Sl.recE (hI.keep hp.mod) i (by first | omega | assumption | exact Nat.lt_succ_self _) (rec_reason _))) ?_
     refine GL_rd (wn_on rfl rfl rfl rfl) rfl (rd_lenS rfl rfl Tryz.underlying9) ?_
     refine GL_rd (wn_on rfl rfl rfl rfl) rfl (rd_bin rfl rfl rfl bo_gtr) ?_
     refine GL_rd (v := .bool _) (wn_none rfl) rfl (rd_pickF rfl rfl rfl) ?_
     refine GL_nil ?_
     refine GW_cond rfl (fun hb4 => ?_) (fun hb4 => ?_)
     ·(try simp only [decide_eq_true_eq, decide_eq_false_iff_not, Bool.not_eq_true', Bool.not_eq_false', Bool.not_eq_eq_eq_not, Bool.not_true, Bool.not_false, Int.not_lt, Int.not_le] at hb4)
      refine GW_seq ?_
      refine GW_region ?_
      refine GL_rd (v := .int _ _) (wn_none rfl) rfl (rd_assign rfl rfl) ?_
      refine GL_nil ?_
      refine GW_ret ?_
      have el : lightI l = 1 := light_bad (i := i) (by omega) (litB_no (by omega))
      exact ⟨_, res1 Tryz.results16 (rv_tmp (v := .int _ _) rfl rfl), by rw [el], hp⟩
     ·(try simp only [decide_eq_true_eq, decide_eq_false_iff_not, Bool.not_eq_true', Bool.not_eq_false', Bool.not_eq_eq_eq_not, Bool.not_true, Bool.not_false, Int.not_lt, Int.not_le] at hb4)
      have h2 := hb4
      refine GW_skip ?_
      refine GW_region ?_
      refine GL_rd (v := .int _ _) (wn_none rfl) rfl (rd_move rfl rfl) ?_
      refine GL_rd (wn_none rfl) rfl (rd_bin rfl rfl rfl (bo_add64 (by omega))) ?_
      refine GL_rd (v := .int _ _) (wn_none rfl) rfl (rd_assign rfl rfl) ?_
      refine GL_nil ?_
      exact ihL0 (i + 1) _ _ (by simp only []; omega) ⟨_, slots2 rfl rfl, hp, by omega, fun j hj => by rcases Nat.lt_succ_iff_lt_or_eq.1 hj with h | h; exact hok j h; subst h; exact litB_yes (by omega) (by omega)⟩
   ·(try simp only [decide_eq_true_eq, decide_eq_false_iff_not, Bool.not_eq_true', Bool.not_eq_false', Bool.not_eq_eq_eq_not, Bool.not_true, Bool.not_false, Int.not_lt, Int.not_le] at hb2)
    refine GW_exit ?_
    refine GW_seq ?_
    refine GW_region ?_
    refine GL_rd (v := .int _ _) (wn_none rfl) rfl (rd_assign rfl rfl) ?_
    refine GL_nil ?_
    refine GW_ret ?_
    obtain rfl : m = i := by omega
    have el : lightI l = 0 := light_ok (by omega) (by rw [hlm]; exact hok)
    exact ⟨_, res1 Tryz.results16 (rv_tmp (v := .int _ _) rfl rfl), by rw [el], hp⟩
  ·refine ⟨_, slots2 rfl rfl, hp, Nat.zero_le _, fun j hj => absurd hj (by omega)⟩
end Go.Proofs.YtpagpmioopaciaaGreat
