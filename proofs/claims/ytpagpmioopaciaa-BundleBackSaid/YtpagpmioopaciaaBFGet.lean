/- Walks of functions of the program. -/
import Derived.Test.YtpagpmioopaciaaBFTry
set_option linter.unusedVariables false
set_option linter.unusedSimpArgs false
namespace Go.Proofs.Ytpagpmioopaciaa
open Go.Mo Go.RowKit
theorem bu_Get (sv : Value) (l : List UInt8) (w0 : World) (hs : Sl w0 sv 1 l.length (bys l)) : Does Try.prog 34 #[sv] w0 fun v w' => ∃ L5 c H, v = .tuple #[.agg ⟨L5⟩, .int .i64 c] ∧ TryR 33 5 141 (getB l) L5 c H ∧ (l.length ≤ 32768 → holdsL l = false → c = 5) ∧ (c = 15 → 32768 < l.length) ∧ Hp w0 [] w' H := by
 obtain ⟨A, c, rfl⟩ := sl_shape hs
 have hlm := hs.le
 refine does_of (l := [.slice A l.length c]) Try.func34 (by kernel_rfl) rfl Try.ntmps34 rfl rfl (by kernel_rfl) ?_
 have hp := Hp.refl w0 []
 refine GW_seq ?_
 refine GW_region ?_
 refine GL_alloc (wn_none rfl) rfl rfl tz82 rfl hp ?_
 intro g w hp
 refine GL_rd (v := .int _ _) (wn_none rfl) rfl (rd_assign rfl rfl) ?_
 refine GL_nil ?_
 refine GW_seq ?_
 refine GW_seq ?_
 refine GW_region ?_
 refine GL_rd (v := .slice _ _ _) (wn_none rfl) rfl (rd_move rfl rfl) ?_
 refine GL_rd (wn_none rfl) rfl (rd_len rfl rfl Try.underlying33) ?_
 refine GL_rd (wn_none rfl) rfl (rd_bin rfl rfl rfl bo_gtr) ?_
 refine GL_nil ?_
 refine GW_cond rfl (fun hb => ?_) (fun hb => ?_)
 ·(try simp only [decide_eq_true_eq, decide_eq_false_iff_not, Bool.not_eq_true', Bool.not_eq_false', Bool.not_eq_eq_eq_not, Bool.not_true, Bool.not_false, Int.not_lt, Int.not_le] at hb)
  refine GW_seq ?_
  refine GW_region ?_
  refine GL_rd (wn_none rfl) rfl (rd_buildS (L := buZ) rfl tz82 pl82 (by kernel_rfl)) ?_
  refine GL_store (i := 0) (wn_none rfl) rfl rfl rfl rfl ts82 rfl rfl (oneC rfl (oneC rfl (oneC rfl (oneC rfl (oneC rfl one0))))) hp rfl (by first | exact Nat.le_of_ble_eq_true rfl | simp [bys_length, *]) rfl ?_
  intro w hp
  refine GL_rd (v := .int _ _) (wn_none rfl) rfl (rd_assign rfl rfl) ?_
  refine GL_nil ?_
  refine GW_ret ?_
  refine ⟨_, res2 Try.results34 (rv_cell rfl rfl Try.underlying82 rfl ts82 (by first | exact hT.len | rfl) (hp.get 0 rfl)) (rv_tmp (v := .int _ _) rfl rfl), buZ, 15, [], rfl, .inr ⟨by omega, rfl, getB_big (by omega), rfl⟩, fun h => absurd h (by omega), fun _ => by omega, hp.mods⟩
 ·(try simp only [decide_eq_true_eq, decide_eq_false_iff_not, Bool.not_eq_true', Bool.not_eq_false', Bool.not_eq_eq_eq_not, Bool.not_true, Bool.not_false, Int.not_lt, Int.not_le] at hb)
  have hle : l.length ≤ 32768 := by have := hb; omega
  refine GW_skip ?_
  refine GW_seq ?_
  refine GW_seq ?_
  refine GW_region ?_
  refine GL_rd (v := .slice _ _ _) (wn_none rfl) rfl (rd_move rfl rfl) ?_
  refine GL_call (wn_none rfl) rfl rfl (crc_Holds _ _ l _ (hs.keep hp.mod)) rfl ?_
  rintro _ w ⟨rfl, hk⟩
  have hp := hp.comp hk
  refine GL_rd (wn_none rfl) rfl (rd_not rfl rfl) ?_
  refine GL_nil ?_
  refine GW_cond rfl (fun hb2 => ?_) (fun hb2 => ?_)
  ·(try simp only [decide_eq_true_eq, decide_eq_false_iff_not, Bool.not_eq_true', Bool.not_eq_false', Bool.not_eq_eq_eq_not, Bool.not_true, Bool.not_false, Int.not_lt, Int.not_le] at hb2)
   have hno : holdsL l = false := by simpa using hb2
   refine GW_seq ?_
   refine GW_region ?_
   refine GL_rd (wn_none rfl) rfl (rd_buildS (L := buZ) rfl tz82 pl82 (by kernel_rfl)) ?_
   refine GL_store (i := 0) (wn_none rfl) rfl rfl rfl rfl ts82 rfl rfl (oneC rfl (oneC rfl (oneC rfl (oneC rfl (oneC rfl one0))))) hp rfl (by first | exact Nat.le_of_ble_eq_true rfl | simp [bys_length, *]) rfl ?_
   intro w hp
   refine GL_rd (v := .int _ _) (wn_none rfl) rfl (rd_assign rfl rfl) ?_
   refine GL_nil ?_
   refine GW_ret ?_
   refine ⟨_, res2 Try.results34 (rv_cell rfl rfl Try.underlying82 rfl ts82 (by first | exact hT.len | rfl) (hp.get 0 rfl)) (rv_tmp (v := .int _ _) rfl rfl), buZ, 5, [], rfl, .inr ⟨by omega, rfl, getB_bad hno, rfl⟩, fun _ _ => rfl, fun h => absurd h (by decide), hp.mods⟩
  ·(try simp only [decide_eq_true_eq, decide_eq_false_iff_not, Bool.not_eq_true', Bool.not_eq_false', Bool.not_eq_eq_eq_not, Bool.not_true, Bool.not_false, Int.not_lt, Int.not_le] at hb2)
   have hho : holdsL l = true := by simpa using hb2
   have h4 := holds_len hho
   refine GW_skip ?_
   refine GW_seq ?_
   refine GW_region ?_
   refine GL_rd (v := .slice _ _ _) (wn_none rfl) rfl (rd_move rfl rfl) ?_
   refine GL_rd (v := .slice _ _ _) (wn_none rfl) rfl (rd_move rfl rfl) ?_
   refine GL_rd (wn_none rfl) rfl (rd_len rfl rfl Try.underlying33) ?_
   refine GL_rd (wn_none rfl) rfl (rd_bin rfl rfl rfl (bo_sub64 (by omega))) ?_
   obtain ⟨A2, c2, hA2, hc2, hsl0⟩ := hs.subB 0 (l.length - 4) (by omega) (by omega)
   rw [List.drop_zero, Nat.sub_zero] at hsl0
   have hsl : Sl w0 (.slice A2 (l.length - 4) c2) 1 (l.take (l.length - 4)).length (bys (l.take (l.length - 4))) := by rw [show (l.take (l.length - 4)).length = l.length - 4 by rw [List.length_take]; omega]; exact hsl0
   refine GL_rd (wn_none rfl) rfl (rd_sliceE (lo := 0) (hi := (l.length - 4)) rfl rfl Try.underlying33 ts5 at_none (at_some rfl (by omega)) (by omega) (by have := (Sl.cap hs).1; omega) hA2 rfl hc2) ?_
   refine GL_rd (wn_none rfl) rfl (rd_buildS (L := [.slice A2 (l.length - 4) c2]) rfl tz154 pl154 (by kernel_rfl)) ?_
   refine GL_box (wn_none rfl) rfl rfl rfl rfl hp ?_
   intro g2 w hp
   refine GL_rd (v := .pointer (some ⟨_, _, none⟩)) (wn_none rfl) rfl (rd_assign rfl rfl) ?_
   refine GL_nil ?_
   refine GW_seq ?_
   refine GW_region ?_
   refine GL_rd (v := .pointer (some ⟨_, _, none⟩)) (wn_none rfl) rfl (rd_move rfl rfl) ?_
   refine GL_rd (wn_none rfl) rfl (rd_closureF (first := #[.pointer (some ⟨g2, 0, none⟩)]) (caps := #[]) rfl rfl rfl) ?_
   refine GL_call (wn_none rfl) rfl rfl (trap_Try g2 _ (l.take (l.length - 4)) w0 _ hp.mod (hp.newAt 0 rfl) (hp.get 0 rfl) hsl) rfl ?_
   rintro _ w ⟨L5, c, H, rfl, hT, hc15, hk⟩
   have hp := hp.turnAtMore 0 rfl hk
   have hp := hp.perm List.perm_append_comm
   refine GL_rd (v := .agg ⟨_⟩) (wn_none rfl) rfl (rd_extract rfl rfl rfl) ?_
   refine GL_rd (v := .int _ _) (wn_none rfl) rfl (rd_extract rfl rfl rfl) ?_
   refine GL_store (i := 0) (wn_none rfl) rfl rfl rfl rfl ts82 rfl hT.len hT.one hp rfl (by first | exact Nat.le_of_ble_eq_true rfl | simp [bys_length, *]) (splice_all _ _ hT.len) ?_
   intro w hp
   refine GL_rd (v := .int _ _) (wn_none rfl) rfl (rd_assign rfl rfl) ?_
   refine GL_nil ?_
   refine GW_ret ?_
   have hT' := hT
   rw [← getB_yes hle hho] at hT'
   refine ⟨_, res2 Try.results34 (rv_cell rfl rfl Try.underlying82 rfl ts82 (by first | exact hT.len | rfl) (hp.get 0 rfl)) (rv_tmp (v := .int _ _) rfl rfl), L5, c, H, rfl, hT', fun _ h => absurd h (by rw [hho]; simp), fun h => absurd h hc15, ?_⟩
   exact hp.drop 1
end Go.Proofs.Ytpagpmioopaciaa
