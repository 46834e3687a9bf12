/- Walks of functions of the program. -/
import Derived.Test.YtpagpmioopaciaaGreatPFDig
import Derived.Test.YtpagpmioopaciaaGreatPSeqC
import Derived.Test.YtpagpmioopaciaaGreatPChkS
set_option linter.unusedVariables false
set_option linter.unusedSimpArgs false
namespace Go.Proofs.YtpagpmioopaciaaGreat
open Go.Mo Go.RowKit
theorem chk_Check (sv : Value) (m : Nat) (l : List UInt8) (w0 : World) (hI : Sl w0 sv 1 m (bys l)) : Does Tryz.prog 32 #[sv] w0 fun v w' => v = .int .i64 (if l.length = 0 then 1 else if 2048 < l.length then 15 else 0) ∧ Hp w0 [] w' [] := by
 obtain ⟨A, c, rfl⟩ := sl_shape hI
 have hlm := hI.blen
 have hmle := hI.le
 refine does_of (l := [.slice A m c]) Tryz.func32 (by kernel_rfl) rfl Tryz.ntmps32 rfl rfl (by kernel_rfl) ?_
 have hp := Hp.refl w0 []
 refine GW_seq ?_
 refine GW_region ?_
 refine GL_rd (v := .int _ _) (wn_none rfl) rfl (rd_assign rfl rfl) ?_
 refine GL_nil ?_
 refine GW_seq ?_
 refine GW_block ?_
 refine GW_seq ?_
 refine GW_region ?_
 refine GL_rd (v := .slice _ _ _) (wn_none rfl) rfl (rd_move rfl rfl) ?_
 refine GL_rd (wn_none rfl) rfl (rd_len rfl rfl Tryz.underlying35) ?_
 refine GL_rd (wn_none rfl) rfl (rd_bin rfl rfl rfl bo_eql) ?_
 refine GL_rd (v := .bool _) (wn_none rfl) rfl (rd_assign rfl rfl) ?_
 refine GL_nil ?_
 refine GW_cond rfl (fun hb => ?_) (fun hb => ?_)
 ·(try simp only [decide_eq_true_eq, decide_eq_false_iff_not, Bool.not_eq_true', Bool.not_eq_false', Bool.not_eq_eq_eq_not, Bool.not_true, Bool.not_false, Int.not_lt, Int.not_le] at hb)
  refine GW_seq ?_
  refine GW_region ?_
  refine GL_rd (v := .int _ _) (wn_none rfl) rfl (rd_assign rfl rfl) ?_
  refine GL_nil ?_
  refine GW_ret ?_
  exact ⟨_, res1 Tryz.results32 (rv_tmp (v := .int _ _) rfl rfl), by rw [if_pos (by omega)], hp⟩
 ·(try simp only [decide_eq_true_eq, decide_eq_false_iff_not, Bool.not_eq_true', Bool.not_eq_false', Bool.not_eq_eq_eq_not, Bool.not_true, Bool.not_false, Int.not_lt, Int.not_le] at hb)
  refine GW_seq ?_
  refine GW_region ?_
  refine GL_rd (v := .slice _ _ _) (wn_none rfl) rfl (rd_move rfl rfl) ?_
  refine GL_rd (wn_none rfl) rfl (rd_len rfl rfl Tryz.underlying35) ?_
  refine GL_rd (wn_none rfl) rfl (rd_bin rfl rfl rfl bo_gtr) ?_
  refine GL_rd (v := .bool _) (wn_none rfl) rfl (rd_assign rfl rfl) ?_
  refine GL_nil ?_
  refine GW_cond rfl (fun hb2 => ?_) (fun hb2 => ?_)
  ·(try simp only [decide_eq_true_eq, decide_eq_false_iff_not, Bool.not_eq_true', Bool.not_eq_false', Bool.not_eq_eq_eq_not, Bool.not_true, Bool.not_false, Int.not_lt, Int.not_le] at hb2)
   refine GW_seq ?_
   refine GW_region ?_
   refine GL_rd (v := .int _ _) (wn_none rfl) rfl (rd_assign rfl rfl) ?_
   refine GL_nil ?_
   refine GW_ret ?_
   exact ⟨_, res1 Tryz.results32 (rv_tmp (v := .int _ _) rfl rfl), by rw [if_neg (by omega), if_pos (by omega)], hp⟩
  ·(try simp only [decide_eq_true_eq, decide_eq_false_iff_not, Bool.not_eq_true', Bool.not_eq_false', Bool.not_eq_eq_eq_not, Bool.not_true, Bool.not_false, Int.not_lt, Int.not_le] at hb2)
   refine GW_skip ?_
   refine GW_seq ?_
   refine GW_region ?_
   refine GL_rd (v := .int _ _) (wn_none rfl) rfl (rd_assign rfl rfl) ?_
   refine GL_nil ?_
   refine GW_ret ?_
   exact ⟨_, res1 Tryz.results32 (rv_tmp (v := .int _ _) rfl rfl), by rw [if_neg (by omega), if_neg (by omega)], hp⟩
theorem chk_All (A : Option Addr) (m c : Nat) (w0 : World) : Does Tryz.prog 90 #[.slice A m c] w0 fun v w' => ∃ gb, v = .func (.func 104) #[] #[.pointer (some ⟨gb, 0, none⟩)] ∧ Hp w0 [] w' [cells gb 35 [.slice A m c]] := by
 refine does_of (l := [.slice A m c]) Tryz.func90 (by kernel_rfl) rfl Tryz.ntmps90 rfl rfl (by kernel_rfl) ?_
 have hp := Hp.refl w0 []
 refine GW_seq ?_
 refine GW_region ?_
 refine GL_box (wn_none rfl) rfl rfl rfl rfl hp ?_
 intro g w hp
 refine GL_rd (v := _) (wn_none rfl) rfl (rd_assign rfl rfl) ?_
 refine GL_nil ?_
 refine GW_seq ?_
 refine GW_region ?_
 refine GL_rd (wn_none rfl) rfl (rd_closure (caps := #[.pointer (some ⟨g, 0, none⟩)]) rfl rfl) ?_
 refine GL_rd (v := .func _ _ _) (wn_none rfl) rfl (rd_assign rfl rfl) ?_
 refine GL_nil ?_
 refine GW_ret ?_
 exact ⟨_, res1 Tryz.results90 (rv_tmp (v := .func _ _ _) rfl rfl), _, rfl, hp⟩
theorem chk_It (gb : Nat) (A : Option Addr) (c : Nat) (l : List UInt8) (hb : l.length ≤ 4294967296) : IterC Tryz.prog 104 [.pointer (some ⟨gb, 0, none⟩)] (fun x : CE => #[.int .i64 (x.1 : Int), x.2.2]) (fun x => [.row 5 1 x.2.2 x.2.1.length (bys x.2.1)]) (okC l) (feet [cells gb 35 [.slice A l.length c]]) (fun w => (cells gb 35 [.slice A l.length c]).at_ w) (fun w => Sl w (.slice A l.length c) 1 l.length (bys l)) := by
 intro yl J X w0 hN hM hX hO o0 h0 hy
 refine does_of (l := [yv yl, .pointer (some ⟨gb, 0, none⟩)]) Tryz.func104 (by kernel_rfl) rfl Tryz.ntmps104 rfl rfl (by kernel_rfl) ?_
 have hp := Hp.refl w0 []
 refine GW_seq ?_
 refine GW_region ?_
 refine GL_rd (v := .int _ _) (wn_none rfl) rfl (rd_assign rfl rfl) ?_
 refine GL_nil ?_
 refine GW_block ?_
 refine GW_loop ?_
 refine Lp_ind (α := Nat × List CE × Option Addr × Nat) (fun a_0 f_0 w' => match a_0 with | (i, q, A2, c2) => ∃ fz, f_0 = (upd (upd (upd fz 0 (yv yl)) 1 (.pointer (some ⟨gb, 0, none⟩))) 3 (.int .i64 (i : Int))) ∧ Hp w' [] w' [] ∧ (q.map ceN = (chI l).take i) ∧ (J (feet [cells gb 35 [.slice A l.length c]]) q w') ∧ ((cells gb 35 [.slice A2 (l.length - 256 * i) c2]).at_ w') ∧ (∀ w, Sl w (.slice A l.length c) 1 l.length (bys l) → Sl w (.slice A2 (l.length - 256 * i) c2) 1 (l.length - 256 * i) (bys (l.drop (256 * i))))) (fun a_0 => match a_0 with | (i, q, A2, c2) => l.length - 256 * i) ?_ (0, [], A, c) _ _ ?_
 ·rintro ⟨i, q, A2, c2⟩ f wz ⟨fz, rfl, hp, hq, hj, ho, hs⟩ ihL0
  have hsl := hs _ (hO _ _ _ hj)
  refine Lp_round ?_
  refine GW_seq ?_
  refine GW_seq ?_
  refine GW_region ?_
  refine GL_rd (v := .slice _ _ _) (wn_none rfl) rfl (rd_load rfl rfl Tryz.underlying35 rfl ((cell_of_cells (cells.keep ho hp.mod) _).trans rfl)) ?_
  refine GL_rd (wn_none rfl) rfl (rd_len rfl rfl Tryz.underlying35) ?_
  refine GL_rd (wn_none rfl) rfl (rd_bin rfl rfl rfl bo_gtr) ?_
  refine GL_nil ?_
  refine GW_cond rfl (fun hb => ?_) (fun hb => ?_)
  ·(try simp only [decide_eq_true_eq, decide_eq_false_iff_not, Bool.not_eq_true', Bool.not_eq_false', Bool.not_eq_eq_eq_not, Bool.not_true, Bool.not_false, Int.not_lt, Int.not_le] at hb)
   have hlt : 256 * i < l.length := by have := hb; omega
   obtain ⟨k, hk⟩ : ∃ k, k = min (l.length - 256 * i) 256 := ⟨_, rfl⟩
   refine GW_skip ?_
   refine GW_seq ?_
   refine GW_block ?_
   refine GW_seq ?_
   refine GW_region ?_
   refine GL_rd (v := .slice _ _ _) (wn_none rfl) rfl (rd_load rfl rfl Tryz.underlying35 rfl ((cell_of_cells (cells.keep ho hp.mod) _).trans rfl)) ?_
   refine GL_rd (wn_none rfl) rfl (rd_len rfl rfl Tryz.underlying35) ?_
   refine GL_rd (wn_none rfl) rfl (rd_min rfl rfl rfl) ?_
   refine GL_rd (v := .int _ _) (wn_none rfl) rfl (rd_assign rfl rfl) ?_
   refine GL_nil ?_
   refine GW_seq ?_
   refine GW_seq ?_
   refine GW_regionY ?_
   refine GLY_of rfl ?_
   refine GL_rd (v := (yv yl)) (wn_none rfl) rfl (rd_move rfl rfl) ?_
   refine GL_nil ?_
   refine GLY_of rfl ?_
   refine GL_rd (v := .int .i64 (i : Int)) (wn_none rfl) rfl (rd_move rfl rfl) ?_
   refine GL_nil ?_
   refine GLY_of rfl ?_
   refine GL_lit (L := []) (wn_none rfl) rfl rfl Tryz.underlying35 ts5 tz5 rfl (by kernel_rfl) rfl rfl hp ?_
   intro g w hp
   refine GL_nil ?_
   refine GLY_of rfl ?_
   refine GL_rd (v := .slice _ _ _) (wn_none rfl) rfl (rd_load rfl rfl Tryz.underlying35 rfl ((cell_of_cells (cells.keep ho hp.mod) _).trans rfl)) ?_
   refine GL_nil ?_
   refine GLY_of rfl ?_
   refine GL_rd (v := .int _ _) (wn_none rfl) rfl (rd_move rfl rfl) ?_
   refine GL_nil ?_
   refine GLY_of rfl ?_
   refine GL_rd (wn_none rfl) rfl (rd_sliceS (lo := 0) (hi := k) rfl rfl Tryz.underlying35 ts5 at_none (at_some rfl (by omega)) (by omega) (by have := (Sl.cap (hsl.keep hp.mod)).1; omega)) ?_
   refine GL_nil ?_
   refine GLY_of rfl ?_
   refine GL_append (i := 0) (wn_none rfl) rfl rfl rfl rfl Tryz.underlying35 ti5 rfl (by decide) hp rfl (Sl.cutB (hsl.keep hp.mod) 0 k (by omega) (by omega)) (bys_one _) (by omega) (by omega) ?_
   intro v w hp
   rw [List.nil_append, Nat.zero_add, Nat.sub_zero, List.drop_zero, take_min l i hk, ← chA_min l i hk] at hp
   obtain ⟨Av, cv, rfl⟩ := row_shape (hp.get 0 rfl)
   refine GL_nil ?_
   have hp := hp.take 1
   refine GLY_yield2 (wn_none rfl) rfl rfl rfl rfl rfl (hy _ _ (i, chA l i, .slice Av (chA l i).length cv) _ _ _ (okC_mid hq hlt _) hj hp) ?_
   intro b w hJb
   have hp := Hp.one ((hJb.1 gb (by simp [feet, Res.foot])).trans (cells.keep ho hp.mod))
   refine GLY_of rfl ?_
   refine GL_rd (wn_none rfl) rfl (rd_not rfl rfl) ?_
   refine GL_nil ?_
   refine GLY_nil ?_
   refine GW_cond rfl (fun hb2 => ?_) (fun hb2 => ?_)
   ·(try simp only [decide_eq_true_eq, decide_eq_false_iff_not, Bool.not_eq_true', Bool.not_eq_false', Bool.not_eq_eq_eq_not, Bool.not_true, Bool.not_false, Int.not_lt, Int.not_le] at hb2)
    have hbf : b = false := by simpa using hb2
    subst hbf
    refine GW_ret ?_
    exact ⟨_, res0 Tryz.results104 , .inr hJb.2⟩
   ·(try simp only [decide_eq_true_eq, decide_eq_false_iff_not, Bool.not_eq_true', Bool.not_eq_false', Bool.not_eq_eq_eq_not, Bool.not_true, Bool.not_false, Int.not_lt, Int.not_le] at hb2)
    have hbf : b = true := by simpa using hb2
    subst hbf
    refine GW_skip ?_
    refine GW_region ?_
    refine GL_rd (v := .slice _ _ _) (wn_none rfl) rfl (rd_load rfl rfl Tryz.underlying35 rfl ((cell_of_cells (hp.get 0 rfl) _).trans rfl)) ?_
    refine GL_rd (v := .int _ _) (wn_none rfl) rfl (rd_move rfl rfl) ?_
    refine GL_rd (wn_none rfl) rfl (rd_sliceS (lo := k) (hi := (l.length - 256 * i)) rfl rfl Tryz.underlying35 ts5 (at_some rfl (by omega)) to_none (by omega) (by have := (Sl.cap hsl).1; omega)) ?_
    refine GL_store (i := 0) (wn_none rfl) rfl rfl rfl rfl ts35 rfl rfl (one1 rfl) hp rfl (by first | exact Nat.le_of_ble_eq_true rfl | simp [bys_length, *]) rfl ?_
    intro w hp
    refine GL_nil ?_
    refine GW_region ?_
    refine GL_rd (v := .int .i64 (i : Int)) (wn_none rfl) rfl (rd_move rfl rfl) ?_
    refine GL_rd (wn_none rfl) rfl (rd_bin rfl rfl rfl (bo_add64 (by omega))) ?_
    refine GL_rd (v := .int _ _) (wn_none rfl) rfl (rd_assign rfl rfl) ?_
    refine GL_nil ?_
    have hj2 := hM _ _ _ _ hJb.2 hp.mod
    have ho2 := hp.get 0 rfl
    rw [show splice _ _ _ = [_] from rfl, show (l.length - 256 * i) - k = l.length - 256 * (i + 1) by omega] at ho2
    have hp := Hp.refl w []
    exact ihL0 (i + 1, q ++ [(i, chA l i, .slice Av (chA l i).length cv)], _, _) _ _ (by simp only []; omega) ⟨_, slots3 rfl rfl rfl, hp, okC_next hq hlt _, hj2, ho2, fun w h => by have h2 := Sl.cutB (hs w h) k (l.length - 256 * i) (by omega) (by omega); rw [left_next l i hk hlt, show (l.length - 256 * i) - k = l.length - 256 * (i + 1) by omega] at h2; exact h2⟩
  ·(try simp only [decide_eq_true_eq, decide_eq_false_iff_not, Bool.not_eq_true', Bool.not_eq_false', Bool.not_eq_eq_eq_not, Bool.not_true, Bool.not_false, Int.not_lt, Int.not_le] at hb)
   refine GW_exit ?_
   exact ⟨_, res0 Tryz.results104 , .inl ⟨q, _, okC_end hq (by omega), hj⟩⟩
 ·refine ⟨_, slots3 rfl rfl rfl, hp, rfl, h0, o0, fun w h => h⟩
theorem chk_Address (sv : Value) (l : List UInt8) (w0 : World) (hI : Sl w0 sv 1 l.length (bys l)) (hb : l.length ≤ 65536) : Does Tryz.prog 91 #[sv] w0 fun v w' => v = .agg ⟨bys (chSum l).1⟩ ∧ Hp w0 [] w' [] := by
 obtain ⟨A, c, rfl⟩ := sl_shape hI
 refine does_of (l := [.slice A l.length c]) Tryz.func91 (by kernel_rfl) rfl Tryz.ntmps91 rfl rfl (by kernel_rfl) ?_
 have hp := Hp.refl w0 []
 refine GW_seq ?_
 refine GW_region ?_
 refine GL_alloc (wn_none rfl) rfl rfl tz30 rfl hp ?_
 intro g w hp
 refine GL_nil ?_
 refine GW_seq ?_
 refine GW_region ?_
 refine GL_lit (L := (bys chunkW)) (wn_none rfl) rfl rfl Tryz.underlying35 ts5 tz5 rfl (by kernel_rfl) rfl rfl hp ?_
 intro g2 w hp
 refine GL_convB (i := 0) (wn_none rfl) rfl rfl rfl Tryz.underlying35 Tryz.underlying5 hp rfl ?_
 intro w hp
 refine GL_rd (v := .slice _ _ _) (wn_none rfl) rfl (rd_move rfl rfl) ?_
 refine GL_lit (L := [.slice (some ⟨g2, 0, none⟩) 5 5, .slice A l.length c]) (wn_none rfl) rfl rfl Tryz.underlying22 ts35 tz35 rfl (by kernel_rfl) rfl rfl hp ?_
 intro g3 w hp
 refine GL_call (wn_none rfl) rfl rfl (dig_Of _ 2 [(.slice (some ⟨g2, 0, none⟩) 5 5, chunkW), (.slice A l.length c, l)] _ (Sl.row (hp.get 0 rfl)) (by intro x hx; simp only [List.mem_cons, List.not_mem_nil, or_false] at hx; rcases hx with rfl | rfl; exact Sl.blk (hp.get 1 rfl) 1 _ rfl (by simp [maxLen]); exact hI.keep hp.mod) (by simp [chunkW]; omega)) rfl ?_
 rintro v0 w ⟨hv, hk⟩
 have hp := hp.comp hk
 obtain rfl : v0 = .agg ⟨bys (chSum l).1⟩ := hv.trans (by simp [chSum])
 refine GL_store (i := 2) (wn_none rfl) rfl rfl rfl rfl ts30 rfl (by rw [bys_length]; first | exact a32_len _ | rfl | simp [*]) (bys_one _) hp rfl (by first | exact Nat.le_of_ble_eq_true rfl | (simp only [bys_length, a32_len]; omega)) (splice_all _ _ (by first | (rw [bys_length, List.length_replicate]; first | exact a32_len _) | (rw [bys_length]; first | exact a32_len _) | (rw [bys_length]; rfl) | simp [bys_length, a32_len, *])) ?_
 intro w hp
 refine GL_nil ?_
 refine GW_ret ?_
 exact ⟨_, res1 Tryz.results91 (rv_cell rfl rfl Tryz.underlying30 rfl ts30 (by rw [bys_length]; exact (chSum l).2) (hp.get 2 rfl)), rfl, hp.mods⟩
set_option maxHeartbeats 1000000 in
theorem chk_Addresses (sv : Value) (l : List UInt8) (w0 : World) (hI : Sl w0 sv 1 l.length (bys l)) (hb : l.length ≤ 65536) : Does Tryz.prog 61 #[sv] w0 fun v w' => Hp w0 [] w' [.row 30 32 v ((adrsC l)).length (((adrsC l)).flatMap adC)] := by
 obtain ⟨A, c, rfl⟩ := sl_shape hI
 have hcl : cntC l.length ≤ 256 := by unfold cntC; omega
 refine does_ofM (l := [.slice A l.length c]) Tryz.func61 (by kernel_rfl) rfl Tryz.ntmps61 rfl rfl ?_
 have hp := Hp.refl w0 []
 refine GV_seq ?_
 refine GV_of (by kernel_rfl) ?_
 refine GW_region ?_
 refine GL_rd (v := .slice _ _ _) (wn_none rfl) rfl (rd_assign rfl rfl) ?_
 refine GL_nil ?_
 refine GV_seq ?_
 refine GV_of (by kernel_rfl) ?_
 refine GW_region ?_
 refine GL_alloc (wn_none rfl) rfl rfl tz50 rfl hp ?_
 intro g w hp
 refine GL_nil ?_
 refine GV_seq ?_
 refine GV_seq ?_
 refine GV_of (by kernel_rfl) ?_
 refine GW_region ?_
 refine GL_rd (v := .slice _ _ _) (wn_none rfl) rfl (rd_move rfl rfl) ?_
 refine GL_call (wn_none rfl) rfl rfl (chk_All A l.length c _) rfl ?_
 rintro _ w ⟨gb, rfl, hk⟩
 have hp := hp.comp hk
 refine GL_nil ?_
 refine GV_block ?_
 have hp := hp.nilRow 30 32
 have hp := ((((hp.front 0 rfl).front 2 rfl).front 2 rfl).take 3)
 refine GV_range2C (α := CE) (β := Value) (γ := Unit) (fun x => .int .i64 (x.1 : Int)) (fun x => x.2.2) (okC l) (fun q_ z => [cells g 50 [z], .row 30 32 z ((adrsQ q_)).length (((adrsQ q_)).flatMap adC)]) (fun q_ z => True) (fun c => []) (fun c => False) (fun x => [.row 5 1 x.2.2 x.2.1.length (bys x.2.1)]) [cells gb 35 [.slice A l.length c]] (fun w => (cells gb 35 [.slice A l.length c]).at_ w) (fun w => Sl w (.slice A l.length c) 1 l.length (bys l)) (.slice none 0 0) rfl (by kernel_rfl) (by kernel_rfl) (chk_It gb A c l (by omega)) hp trivial (fun _ h => h _ (by simp)) (fun _ _ _ h _ => hI.keep h.mod) ?_ ?_ ?_
 ·intro fr_ q_ x s_ z w L1_ D1_ r_ r2_ hxs hz hp
  have hq2 := okC_len hxs
  have hq3 := okC_le hxs
  have hql := adrsQ_len q_
  obtain ⟨Az, cz, rfl⟩ := row_shape (hp.get 5 rfl)
  refine GW_region ?_
  refine GL_rd (v := x.2.2) (wn_none rfl) rfl (rd_assign rfl rfl) ?_
  refine GL_nil ?_
  refine ⟨rfl, _, hp, fun w hp => ?_⟩
  refine GW_block ?_
  refine GW_drawnK 5 (.one 0 true (.one 1 true (.one 2 false (.one 3 false (.one 4 false (.one 5 false .nil)))))) mixed (by kernel_rfl) hp (fun _ h => (h.sub (.cons _ (.cons _ (.cons _ (.cons_cons _ (.cons_cons _ (.cons _ .slnil)))))))) fun w hp => ?_
  have hpS := (hp.sub (.cons _ (.cons _ (.cons _ (.cons_cons _ (.cons_cons _ (.cons _ .slnil)))))))
  refine GO_rd (v := .slice _ _ _) rfl rfl (wn_none rfl) rfl hpS (fun w hp => (rd_load rfl rfl Tryz.underlying50 rfl ((cell_of_cells (hp.get 1 rfl) _).trans rfl))) ?_
  refine GO_rdT (v := x.2.2) rfl (wn_none rfl) rfl (fun w => (rd_move rfl rfl)) ?_
  refine GO_of_GL rfl ?_
  refine GL_call (wn_none rfl) rfl rfl (chk_Address _ x.2.1 _ (Sl.row (hp.get 3 rfl)) (by omega)) rfl ?_
  rintro _ w ⟨rfl, hk⟩
  have hp := hp.comp hk
  have hpS2 := (hp.sub (.cons _ (.cons _ (.cons _ (.cons_cons _ (.cons_cons _ (.cons _ .slnil)))))))
  refine GL_nil ⟨fun _ => hpS2, ?_⟩
  refine GO_of_GL rfl ?_
  refine GL_lit1 (L := (bys (chSum x.2.1).1)) (wn_none rfl) rfl rfl rfl rfl Tryz.underlying50 ts30 tz30 (by kernel_rfl) (by rw [bys_length]; exact (chSum _).2) hp ?_
  intro g2 w hp
  have hpS3 := (hp.sub (.cons _ (.cons _ (.cons _ (.cons _ (.cons_cons _ (.cons_cons _ (.cons _ .slnil))))))))
  refine GL_nil ⟨fun _ => hpS3, ?_⟩
  refine GO_of_GL rfl ?_
  refine GL_append (i := 6) (wn_none rfl) rfl rfl rfl rfl Tryz.underlying50 ti30 rfl (by decide) hp rfl (Sl.row (hp.get 0 rfl)) (bys_one _) (by omega) (by omega) ?_
  intro v w hp
  obtain ⟨Av, cv, rfl⟩ := row_shape (hp.get 6 rfl)
  have hpS4 := (hp.sub (.cons _ (.cons _ (.cons _ (.cons _ (.cons_cons _ (.cons_cons _ (.cons _ .slnil))))))))
  refine GL_nil ⟨fun _ => hpS4, ?_⟩
  refine GO_of_GL rfl ?_
  refine GL_store (i := 5) (wn_none rfl) rfl rfl rfl rfl ts50 rfl rfl (one1 rfl) hp rfl (by first | exact Nat.le_of_ble_eq_true rfl | simp [bys_length, *]) rfl ?_
  intro w hp
  refine GL_nil ⟨fun h => absurd h (by decide), ?_⟩
  refine GO_nil ?_
  have hp := ((((((hp.front 6 rfl).front 6 rfl).front 5 rfl).front 5 rfl).front 5 rfl).take 5)
  rw [adcR_snoc, ← adrsQ_snoc] at hp
  exact ⟨_, trivial, hp⟩
 ·intro xs_ z Dm w hA_ hz hp
  rw [adrsQ_all hA_] at hp
  obtain ⟨Az, cz, rfl⟩ := row_shape (hp.get 2 rfl)
  refine GV_of (by kernel_rfl) ?_
  refine GW_seq ?_
  refine GW_region ?_
  refine GL_rd (v := .slice _ _ _) (wn_none rfl) rfl (rd_load rfl rfl Tryz.underlying50 rfl ((cell_of_cells (hp.get 1 rfl) _).trans rfl)) ?_
  refine GL_rd (v := .slice _ _ _) (wn_none rfl) rfl (rd_assign rfl rfl) ?_
  refine GL_nil ?_
  refine GW_ret ?_
  refine (FM_of [Dm] ?_).1
  refine Shut_cons (i := 0) hp rfl fun w hp => ?_
  refine Shut_nil ?_
  have hp := ((hp.front 2 rfl).take 1)
  exact ⟨_, res1 Tryz.results61 (rv_tmp (v := .slice _ _ _) rfl rfl), hp⟩
 ·intro c Dm w hc hp
  exact hc.elim
end Go.Proofs.YtpagpmioopaciaaGreat
