/- Walks of functions of the program. -/
import Derived.Test.YtpagpmioopaciaaQFChk
import Derived.Test.YtpagpmioopaciaaQImgS
set_option linter.unusedVariables false
set_option linter.unusedSimpArgs false
namespace Go.Proofs.Ytpagpmioopaciaa
open Go.Mo Go.RowKit
structure OwnSl (T1 T2 T3 ga gb mg : Nat) (k : Int) (mv : Value) (ml : List UInt8) (w : World) : Prop where
  a : (cells ga T1 [.pointer (some ⟨mg, 0, none⟩)]).at_ w
  b : (cells gb T2 [.int .i64 k]).at_ w
  c : (cells mg T3 [mv]).at_ w
  d : Sl w mv 1 ml.length (bys ml)
theorem sm_New (x : Int) (n : Nat) (w0 : World) (hx : x = (n : Int)) (hn : 1 ≤ n ∧ n ≤ 200) : Does Try.prog 46 #[.int .i64 x] w0 fun v w' => ∃ mg mv, v = .tuple #[.pointer (some ⟨mg, 0, none⟩), .int .i64 0] ∧ Hp w0 [] w' [cells mg 171 [mv], .row 5 1 mv n (bys (List.replicate n 0))] := by
 refine does_of (l := [.int .i64 x]) Try.func46 (by kernel_rfl) rfl Try.ntmps46 rfl rfl (by kernel_rfl) ?_
 have hp := Hp.refl w0 []
 refine GW_seq ?_
 refine GW_region ?_
 refine GL_rd (v := _) (wn_none rfl) rfl (rd_assign rfl rfl) ?_
 refine GL_rd (v := .int _ _) (wn_none rfl) rfl (rd_assign rfl rfl) ?_
 refine GL_nil ?_
 refine GW_seq ?_
 refine GW_seq ?_
 refine GW_region ?_
 refine GL_rd (v := .int _ _) (wn_none rfl) rfl (rd_move rfl rfl) ?_
 refine GL_rd (wn_none rfl) rfl (rd_bin rfl rfl rfl bo_lss) ?_
 refine GL_rd (v := .bool _) (wn_none rfl) rfl (rd_move rfl rfl) ?_
 refine GL_split (t := 6) (b := _) rfl ?_ ?_
 ·intro hb; (try simp only [decide_eq_true_eq, decide_eq_false_iff_not, Bool.not_eq_true', Bool.not_eq_false', Bool.not_eq_eq_eq_not, Bool.not_true, Bool.not_false, Int.not_lt, Int.not_le] at hb)
  exact absurd hb (by omega)
 ·intro hb; (try simp only [decide_eq_true_eq, decide_eq_false_iff_not, Bool.not_eq_true', Bool.not_eq_false', Bool.not_eq_eq_eq_not, Bool.not_true, Bool.not_false, Int.not_lt, Int.not_le] at hb)
  refine GL_rd (v := .int _ _) (wn_on rfl rfl rfl rfl) rfl (rd_move rfl rfl) ?_
  refine GL_rd (wn_on rfl rfl rfl rfl) rfl (rd_bin rfl rfl rfl bo_gtr) ?_
  refine GL_rd (v := .bool _) (wn_none rfl) rfl (rd_pickF rfl rfl rfl) ?_
  refine GL_nil ?_
  refine GW_cond rfl (fun hb2 => ?_) (fun hb2 => ?_)
  ·(try simp only [decide_eq_true_eq, decide_eq_false_iff_not, Bool.not_eq_true', Bool.not_eq_false', Bool.not_eq_eq_eq_not, Bool.not_true, Bool.not_false, Int.not_lt, Int.not_le] at hb2)
   exact absurd hb2 (by omega)
  ·(try simp only [decide_eq_true_eq, decide_eq_false_iff_not, Bool.not_eq_true', Bool.not_eq_false', Bool.not_eq_eq_eq_not, Bool.not_true, Bool.not_false, Int.not_lt, Int.not_le] at hb2)
   refine GW_skip ?_
   refine GW_seq ?_
   refine GW_region ?_
   refine GL_rd (v := .int _ _) (wn_none rfl) rfl (rd_move rfl rfl) ?_
   refine GL_make (m := n) (wn_none rfl) rfl rfl rfl Try.underlying33 ti5 rfl hx (by omega) (by omega) hp ?_
   intro g w hp
   refine GL_rd (wn_none rfl) rfl (rd_buildS (L := [.slice (some ⟨g, 0, none⟩) n n]) rfl tz171 pl171 (by kernel_rfl)) ?_
   refine GL_box (wn_none rfl) rfl rfl rfl rfl hp ?_
   intro g2 w hp
   refine GL_rd (v := .pointer (some ⟨_, _, none⟩)) (wn_none rfl) rfl (rd_assign rfl rfl) ?_
   refine GL_rd (v := .int _ _) (wn_none rfl) rfl (rd_assign rfl rfl) ?_
   refine GL_nil ?_
   refine GW_ret ?_
   have hp := (((hp.front 1 rfl).front 1 rfl).take 2)
   exact ⟨_, res2 Try.results46 (rv_tmp (v := .pointer (some ⟨_, _, none⟩)) rfl rfl) (rv_tmp (v := .int _ _) rfl rfl), _, _, rfl, by rw [bys_replicate]; exact hp⟩
theorem sm_All (mg : Nat) (k : Int) (w0 : World) : Does Try.prog 111 #[.pointer (some ⟨mg, 0, none⟩), .int .i64 k] w0 fun v w' => ∃ ga gb, v = .func (.func 137) #[] #[.pointer (some ⟨ga, 0, none⟩), .pointer (some ⟨gb, 0, none⟩)] ∧ Hp w0 [] w' [cells ga 104 [.pointer (some ⟨mg, 0, none⟩)], cells gb 3 [.int .i64 k]] := by
 refine does_of (l := [.pointer (some ⟨mg, 0, none⟩), .int .i64 k]) Try.func111 (by kernel_rfl) rfl Try.ntmps111 rfl rfl (by kernel_rfl) ?_
 have hp := Hp.refl w0 []
 refine GW_seq ?_
 refine GW_region ?_
 refine GL_box (wn_none rfl) rfl rfl rfl rfl hp ?_
 intro g w hp
 refine GL_box (wn_none rfl) rfl rfl rfl rfl hp ?_
 intro g2 w hp
 refine GL_rd (v := _) (wn_none rfl) rfl (rd_assign rfl rfl) ?_
 refine GL_nil ?_
 refine GW_seq ?_
 refine GW_region ?_
 refine GL_rd (wn_none rfl) rfl (rd_closure (caps := #[.pointer (some ⟨g, 0, none⟩), .pointer (some ⟨g2, 0, none⟩)]) rfl rfl) ?_
 refine GL_rd (v := .func _ _ _) (wn_none rfl) rfl (rd_assign rfl rfl) ?_
 refine GL_nil ?_
 refine GW_ret ?_
 have hp := (((hp.front 0 rfl).front 1 rfl).take 2)
 exact ⟨_, res1 Try.results111 (rv_tmp (v := .func _ _ _) rfl rfl), _, _, rfl, hp⟩
theorem sm_It (ga gb mg : Nat) (k : Int) (mv : Value) (ml : List UInt8) : Iter Try.prog 137 [.pointer (some ⟨ga, 0, none⟩), .pointer (some ⟨gb, 0, none⟩)] (fun i : Nat => #[.int .i64 (i : Int)]) (slI ml k) (OwnSl 104 3 171 ga gb mg k mv ml) := by
 intro yl J X w0 hJ hX hO h0 hy
 obtain ⟨o1, o2, o3, o4⟩ := hO _ _ h0
 obtain ⟨A, c, rfl⟩ := sl_shape o4
 have hmle := o4.le
 refine does_of (l := [yv yl, .pointer (some ⟨ga, 0, none⟩), .pointer (some ⟨gb, 0, none⟩)]) Try.func137 (by kernel_rfl) rfl Try.ntmps137 rfl rfl (by kernel_rfl) ?_
 have hp := Hp.refl w0 []
 refine GW_seq ?_
 refine GW_region ?_
 refine GL_rd (v := .pointer (some ⟨mg, 0, none⟩)) (wn_none rfl) rfl (rd_load rfl rfl Try.underlying104 rfl ((cell_of_cells (cells.keep o1 hp.mod) _).trans rfl)) ?_
 refine GL_rd (wn_none rfl) rfl (rd_nilCheck rfl rfl) ?_
 refine GL_rd (wn_none rfl) rfl (rd_field rfl rfl fa171_0 _ rfl) ?_
 refine GL_rd (v := .slice _ _ _) (wn_none rfl) rfl (rd_load rfl rfl Try.underlying33 rfl ((cell_of_cells (cells.keep o3 hp.mod) _).trans rfl)) ?_
 refine GL_rd (wn_none rfl) rfl (rd_len rfl rfl Try.underlying33) ?_
 refine GL_rd (v := .int _ _) (wn_none rfl) rfl (rd_move rfl rfl) ?_
 refine GL_nil ?_
 refine GW_block ?_
 refine GW_loop ?_
 refine Lp_ind (α := Nat) (fun a_0 f_0 w' => match a_0 with | i => ∃ fz, f_0 = (upd (upd (upd (upd (upd fz 0 (yv yl)) 2 (.pointer (some ⟨gb, 0, none⟩))) 9 (.slice A ml.length c)) 10 (.int .i64 (ml.length : Int))) 11 (.int .i64 (i : Int))) ∧ Hp w' [] w' [] ∧ (i ≤ ml.length) ∧ (J ((List.range i).filter (slB ml k)) w')) (fun a_0 => match a_0 with | i => ml.length - i) ?_ 0 _ _ ?_
 ·rintro i f wz ⟨fz, rfl, hp, hi0, hj⟩ ihL0
  obtain ⟨o1, o2, o3, o4⟩ := hO _ _ hj
  refine Lp_round ?_
  refine GW_seq ?_
  refine GW_region ?_
  refine GL_rd (wn_none rfl) rfl (rd_bin rfl rfl rfl bo_lss) ?_
  refine GL_nil ?_
  refine GW_seq ?_
  refine GW_cond rfl (fun hb => ?_) (fun hb => ?_)
  ·(try simp only [decide_eq_true_eq, decide_eq_false_iff_not, Bool.not_eq_true', Bool.not_eq_false', Bool.not_eq_eq_eq_not, Bool.not_true, Bool.not_false, Int.not_lt, Int.not_le] at hb)
   obtain ⟨gA, bA, rfl⟩ := o4.addr (by rw [bys_length]; omega)
   refine GW_skip ?_
   refine GW_seq ?_
   refine GW_block ?_
   refine GW_seq ?_
   refine GW_region ?_
   refine GL_rd (v := .int _ _) (wn_none rfl) rfl (rd_move rfl rfl) ?_
   refine GL_rd (wn_none rfl) rfl (rd_indexS (j := i) rfl rfl rfl Try.underlying33 ts5 rfl (by omega) _ rfl) ?_
   refine GL_rd (wn_none rfl) rfl (rd_load rfl rfl Try.underlying5 rfl (Sl.byte (o4.keep hp.mod) i (by omega))) ?_
   refine GL_rd (v := .int _ _) (wn_none rfl) rfl (rd_assign rfl rfl) ?_
   refine GL_rd (v := .int _ _) (wn_none rfl) rfl (rd_assign rfl rfl) ?_
   refine GL_nil ?_
   refine GW_seq ?_
   refine GW_regionY ?_
   refine GLY_of rfl ?_
   refine GL_rd (v := .int _ _) (wn_none rfl) rfl (rd_move rfl rfl) ?_
   refine GL_nil ?_
   refine GLY_of rfl ?_
   refine GL_rd (wn_none rfl) rfl (rd_conv8 .i64 rfl rfl Try.underlying3 Try.underlying5 (by simp)) ?_
   refine GL_nil ?_
   refine GLY_of rfl ?_
   refine GL_rd (wn_none rfl) rfl (rd_load rfl rfl Try.underlying3 rfl ((cell_of_cells (cells.keep o2 hp.mod) _).trans rfl)) ?_
   refine GL_nil ?_
   refine GLY_of rfl ?_
   refine GL_rd (wn_none rfl) rfl (rd_bin rfl rfl rfl bo_eql) ?_
   refine GL_nil ?_
   refine GLY_of rfl ?_
   refine GL_rd (v := .bool _) (wn_none rfl) rfl (rd_move rfl rfl) ?_
   refine GL_nil ?_
   refine GLY_split (t := 20) (b := _) rfl ?_ ?_
   ·intro hb2; (try simp only [decide_eq_true_eq, decide_eq_false_iff_not, Bool.not_eq_true', Bool.not_eq_false', Bool.not_eq_eq_eq_not, Bool.not_true, Bool.not_false, Int.not_lt, Int.not_le] at hb2)
    have ht : slB ml k i = true := decide_eq_true hb2
    refine GLY_of rfl ?_
    refine GL_rd (v := (yv yl)) (wn_on rfl rfl rfl rfl) rfl (rd_move rfl rfl) ?_
    refine GL_nil ?_
    refine GLY_of rfl ?_
    refine GL_rd (v := .int _ _) (wn_on rfl rfl rfl rfl) rfl (rd_move rfl rfl) ?_
    refine GL_nil ?_
    refine GLY_yield (wn_on rfl rfl rfl rfl) rfl rfl rfl rfl (hy _ i _ _ (slI_mid (by omega) ht) (hJ _ _ _ hj hp.mod)) ?_
    intro b w hJb
    have hp := Hp.refl w []
    refine GLY_of rfl ?_
    refine GL_rd (wn_on rfl rfl rfl rfl) rfl (rd_not rfl rfl) ?_
    refine GL_nil ?_
    refine GLY_of rfl ?_
    refine GL_rd (v := .bool _) (wn_none rfl) rfl (rd_pickT rfl rfl rfl) ?_
    refine GL_nil ?_
    refine GLY_nil ?_
    refine GW_cond rfl (fun hb3 => ?_) (fun hb3 => ?_)
    ·(try simp only [decide_eq_true_eq, decide_eq_false_iff_not, Bool.not_eq_true', Bool.not_eq_false', Bool.not_eq_eq_eq_not, Bool.not_true, Bool.not_false, Int.not_lt, Int.not_le] at hb3)
     have hbf : b = false := by simpa using hb3
     subst hbf
     refine GW_ret ?_
     exact ⟨_, res0 Try.results137 , .inr hJb⟩
    ·(try simp only [decide_eq_true_eq, decide_eq_false_iff_not, Bool.not_eq_true', Bool.not_eq_false', Bool.not_eq_eq_eq_not, Bool.not_true, Bool.not_false, Int.not_lt, Int.not_le] at hb3)
     have hbf : b = true := by simpa using hb3
     subst hbf
     refine GW_skip ?_
     refine GW_region ?_
     refine GL_rd (wn_none rfl) rfl (rd_bin rfl rfl rfl (bo_add64 (by omega))) ?_
     refine GL_rd (v := .int _ _) (wn_none rfl) rfl (rd_move rfl rfl) ?_
     refine GL_nil ?_
     exact ihL0 (i + 1) _ _ (by simp only []; omega) ⟨_, slots5 rfl rfl rfl rfl rfl, hp, by omega, by rw [slF_yes ht]; exact hJb⟩
   ·intro hb2; (try simp only [decide_eq_true_eq, decide_eq_false_iff_not, Bool.not_eq_true', Bool.not_eq_false', Bool.not_eq_eq_eq_not, Bool.not_true, Bool.not_false, Int.not_lt, Int.not_le] at hb2)
    have ht : slB ml k i = false := decide_eq_false hb2
    refine GLY_of rfl ?_
    refine GL_pass (nw_off rfl rfl rfl rfl rfl) rfl ?_
    refine GL_nil ?_
    refine GLY_of rfl ?_
    refine GL_pass (nw_off rfl rfl rfl rfl rfl) rfl ?_
    refine GL_nil ?_
    refine GLY_of rfl ?_
    refine GL_pass (nw_off rfl rfl rfl rfl rfl) rfl ?_
    refine GL_nil ?_
    refine GLY_of rfl ?_
    refine GL_pass (nw_off rfl rfl rfl rfl rfl) rfl ?_
    refine GL_nil ?_
    refine GLY_of rfl ?_
    refine GL_rd (v := .bool _) (wn_none rfl) rfl (rd_pickF rfl rfl rfl) ?_
    refine GL_nil ?_
    refine GLY_nil ?_
    refine GW_false rfl ?_
    refine GW_skip ?_
    refine GW_region ?_
    refine GL_rd (wn_none rfl) rfl (rd_bin rfl rfl rfl (bo_add64 (by omega))) ?_
    refine GL_rd (v := .int _ _) (wn_none rfl) rfl (rd_move rfl rfl) ?_
    refine GL_nil ?_
    have hj2 := hJ _ _ _ hj hp.mod
    have hp := hp.now
    exact ihL0 (i + 1) _ _ (by simp only []; omega) ⟨_, slots5 rfl rfl rfl rfl rfl, hp, by omega, by rw [slF_no ht]; exact hj2⟩
  ·(try simp only [decide_eq_true_eq, decide_eq_false_iff_not, Bool.not_eq_true', Bool.not_eq_false', Bool.not_eq_eq_eq_not, Bool.not_true, Bool.not_false, Int.not_lt, Int.not_le] at hb)
   refine GW_exit ?_
   have e : i = ml.length := by omega
   rw [e] at hj
   exact ⟨_, res0 Try.results137 , .inl hj⟩
 ·have hj0 := hJ _ _ _ h0 hp.mod
  have hp := hp.now
  refine ⟨_, slots5 rfl rfl rfl rfl rfl, hp, Nat.zero_le _, hj0⟩
theorem sm_Count (mg : Nat) (k : Int) (mv : Value) (ml : List UInt8) (w0 : World) (hM : (cells mg 171 [mv]).at_ w0) (hI : Sl w0 mv 1 ml.length (bys ml)) : Does Try.prog 76 #[.pointer (some ⟨mg, 0, none⟩), .int .i64 k] w0 fun v w' => v = .int .i64 (slN ml k : Int) ∧ Hp w0 [] w' [] := by
 have hmle := hI.le
 refine does_ofM (l := [.pointer (some ⟨mg, 0, none⟩), .int .i64 k]) Try.func76 (by kernel_rfl) rfl Try.ntmps76 rfl rfl ?_
 have hp := Hp.refl w0 []
 refine GV_seq ?_
 refine GV_of (by kernel_rfl) ?_
 refine GW_region ?_
 refine GL_rd (v := .int _ _) (wn_none rfl) rfl (rd_assign rfl rfl) ?_
 refine GL_nil ?_
 refine GV_seq ?_
 refine GV_of (by kernel_rfl) ?_
 refine GW_region ?_
 refine GL_alloc (wn_none rfl) rfl rfl tz3 rfl hp ?_
 intro g w hp
 refine GL_store (i := 0) (wn_none rfl) rfl rfl rfl rfl ts3 rfl rfl (one1 rfl) hp rfl (by first | exact Nat.le_of_ble_eq_true rfl | simp [bys_length, *]) rfl ?_
 intro w hp
 refine GL_nil ?_
 refine GV_seq ?_
 refine GV_seq ?_
 refine GV_of (by kernel_rfl) ?_
 refine GW_region ?_
 refine GL_rd (v := .pointer (some ⟨mg, 0, none⟩)) (wn_none rfl) rfl (rd_move rfl rfl) ?_
 refine GL_rd (v := .int _ _) (wn_none rfl) rfl (rd_move rfl rfl) ?_
 refine GL_call (wn_none rfl) rfl rfl (sm_All mg k _) rfl ?_
 rintro _ w ⟨ga, gb, rfl, hk⟩
 have hp := hp.comp hk
 refine GL_nil ?_
 refine GV_block ?_
 have hp := ((((hp.front 1 rfl).front 1 rfl).front 2 rfl).take 3)
 refine GV_range1 (α := Nat) (β := Nat) (γ := Unit) (fun i : Nat => .int .i64 (i : Int)) (slI ml k) (fun q_ z => [cells g 3 [.int .i64 (z : Int)], cells ga 104 [.pointer (some ⟨mg, 0, none⟩)], cells gb 3 [.int .i64 k]]) (fun q_ z => z = q_.length) (fun c => []) (fun c => False) ((OwnSl 104 3 171 ga gb mg k mv ml)) 0 rfl (by kernel_rfl) (by kernel_rfl) ((sm_It ga gb mg k mv ml)) hp rfl (fun _ _ _ h _ => ⟨h.get 1 rfl, h.get 2 rfl, cells.keep hM h.mod, hI.keep h.mod⟩) ?_ ?_ ?_
 ·intro q_ x s_ z w L1_ D1_ r_ r2_ hxs hz hp
  have hq2 : q_.length < ml.length := by have h1 := congrArg List.length hxs; have h2 := slN_le ml k; unfold slN at h2; simp only [List.length_append, List.length_cons] at h1; omega
  refine GW_skip ?_
  refine ⟨rfl, _, hp, fun w hp => ?_⟩
  refine GW_block ?_
  refine GW_region ?_
  refine GL_rd (wn_none rfl) rfl (rd_load rfl rfl Try.underlying3 rfl ((cell_of_cells (hp.get 2 rfl) _).trans rfl)) ?_
  refine GL_rd (wn_none rfl) rfl (rd_bin rfl rfl rfl (bo_add64 (by omega))) ?_
  refine GL_store (i := 2) (wn_none rfl) rfl rfl rfl rfl ts3 rfl rfl (one1 rfl) hp rfl (by first | exact Nat.le_of_ble_eq_true rfl | simp [bys_length, *]) rfl ?_
  intro w hp
  refine GL_nil ?_
  have hp := ((((((hp.front 4 rfl).front 4 rfl).front 4 rfl).front 4 rfl).front 4 rfl).take 5)
  exact ⟨z + 1, by rw [List.length_append, hz]; rfl, hp⟩
 ·intro z Dm w hz hp
  refine GV_of (by kernel_rfl) ?_
  refine GW_seq ?_
  refine GW_region ?_
  refine GL_rd (wn_none rfl) rfl (rd_load rfl rfl Try.underlying3 rfl ((cell_of_cells (hp.get 1 rfl) _).trans rfl)) ?_
  refine GL_rd (v := .int _ _) (wn_none rfl) rfl (rd_assign rfl rfl) ?_
  refine GL_nil ?_
  refine GW_ret ?_
  refine (FM_of [Dm] ?_).1
  refine Shut_cons (i := 0) hp rfl fun w hp => ?_
  refine Shut_nil ?_
  subst hz
  exact ⟨_, res1 Try.results76 (rv_tmp (v := .int _ _) rfl rfl), rfl, hp.mods⟩
 ·intro c Dm w hc hp
  exact hc.elim
end Go.Proofs.Ytpagpmioopaciaa
