/- Walks of functions of the program. -/
import Derived.Test.YtpagpmioopaciaaGTypes
import Derived.Test.YtpagpmioopaciaaGSeq
import Derived.Test.YtpagpmioopaciaaGCloS
import Derived.Test.YtpagpmioopaciaaGKeys
import Derived.Test.YtpagpmioopaciaaGShfS
set_option linter.unusedVariables false
set_option linter.unusedSimpArgs false
namespace Go.Proofs.Ytpagpmioopaciaa
open Go.Mo Go.RowKit
theorem stR_snoc2 (T : Nat) (v : Value) (L : List ByteArray) (c : ByteArray) : Res.row T 1 v (L.length + 1) (L.map Value.string ++ [.string c]) = Res.row T 1 v (L ++ [c]).length ((L ++ [c]).map Value.string) := by rw [List.map_append, List.length_append]; rfl
def OwnK (T ga gm c : Nat) (A : AL) (w : World) : Prop := (cells ga T [.map (some gm)]).at_ w ∧ (Res.blk gm (.map ⟨alE A⟩ c)).at_ w
theorem sortS_len2 (l : List ByteArray) : (sortS l).length = l.length := by rw [sortS, backS_len, List.length_mergeSort, strL_len]
theorem sl_SortS {w : World} {n : Nat} {v : Value} {l : List ByteArray} (hr : (Res.row 9 1 v n (l.map Value.string)).at_ w) (hl : l.length ≤ 65535) : Does Try.prog 91 #[v] w fun _ w' => Hp w v.ownBlock.toList w' [.row 9 1 v n ((sortS l).map Value.string)] := sort_does ⟨Try.f91, Try.func91, by kernel_rfl, by kernel_rfl⟩ Go.Proofs.Try.slices_Sort_string Go.Proofs.Try.slices_Sort_string_none hr hl
theorem keys_It0 (ga gm c : Nat) (A : AL) (hA : AlOk A c) : IterB Try.prog 92 [.pointer (some ⟨ga, 0, none⟩)] (fun s : ByteArray => #[.string s]) (keysOf A) (OwnK 134 ga gm c A) := by
 intro yl J X w0 hN hM hX hO h0 hy
 obtain ⟨o1, o2⟩ := hO _ _ _ h0
 refine does_of (l := [yv yl, .pointer (some ⟨ga, 0, none⟩)]) Try.func92 (by kernel_rfl) rfl Try.ntmps92 rfl rfl (by kernel_rfl) ?_
 have hp := Hp.refl w0 []
 refine GW_seq ?_
 refine GW_region ?_
 refine GL_rd (wn_none rfl) rfl (rd_load rfl rfl Try.underlying134 rfl ((cell_of_cells (cells.keep o1 hp.mod) _).trans rfl)) ?_
 refine GL_rangeX (wn_none rfl) rfl rfl rfl Try.underlying134 hp o2 ?_
 intro r w hge hlt hmd hp
 refine GL_nil ?_
 refine GW_block ?_
 refine GW_loop ?_
 refine Lp_ind (α := AL × Array Nat) (fun a_0 f_0 w' => match a_0 with | (q, seen) => ∃ fz, f_0 = (upd (upd fz 0 (yv yl)) 5 (.pointer (some ⟨r, 0, none⟩))) ∧ Hp w' [r] w' [.blk r (.mapIter (some gm) c seen c)] ∧ (Came A q seen) ∧ (J [r] (q.map (·.1)) w')) (fun a_0 => match a_0 with | (q, seen) => (leftOf ⟨alE A⟩ seen).size) ?_ ([], #[]) _ _ ?_
 ·rintro ⟨q, seen⟩ f wz ⟨fz, rfl, hp, hc, hj⟩ ihL0
  obtain ⟨o1, o2⟩ := hO _ _ _ hj
  refine Lp_round ?_
  refine GW_seq ?_
  refine GW_region ?_
  refine GL_nextX (i := 0) (wn_none rfl) rfl rfl rfl hp rfl o2 hA.oldE (Nat.le_refl _) (fun h0 => ?_) (fun e w he hp => ?_)
  ·skip
   refine GL_rd (v := .bool _) (wn_none rfl) rfl (rd_extract rfl rfl rfl) ?_
   refine GL_nil ?_
   refine GW_seq ?_
   refine GW_false rfl ?_
   refine GW_exit ?_
   exact ⟨_, res0 Try.results92 , .inl ⟨_, _, keys_all (hc.all hA h0), hj⟩⟩
  ·skip
   obtain ⟨a, ha, rfl, hc2, s, hs⟩ := hc.step he
   have hj := hM _ _ _ _ hj hp.mod
   obtain ⟨o1, o2⟩ := hO _ _ _ hj
   refine GL_rd (v := .bool _) (wn_none rfl) rfl (rd_extract rfl rfl rfl) ?_
   refine GL_nil ?_
   refine GW_seq ?_
   refine GW_true rfl ?_
   refine GW_skip ?_
   refine GW_block ?_
   refine GW_seq ?_
   refine GW_region ?_
   refine GL_rd (wn_none rfl) rfl (rd_entry rfl rfl (hp.get 0 rfl) o2 (mem_left he).1 hA.bornE) ?_
   refine GL_rd (v := .string _) (wn_none rfl) rfl (rd_extract rfl rfl rfl) ?_
   refine GL_rd (v := .string _) (wn_none rfl) rfl (rd_assign rfl rfl) ?_
   refine GL_nil ?_
   refine GW_seq ?_
   refine GW_regionY ?_
   refine GLY_of rfl ?_
   refine GL_rd (v := (yv yl)) (wn_none rfl) rfl (rd_move rfl rfl) ?_
   refine GL_nil ?_
   refine GLY_of rfl ?_
   refine GL_rd (v := .string _) (wn_none rfl) rfl (rd_move rfl rfl) ?_
   refine GL_nil ?_
   refine GLY_yield (wn_none rfl) rfl rfl rfl rfl (hy _ _ a.1 _ _ (keys_mid hs) hj) ?_
   intro b w hJb
   have hp := Hp.one ((hJb.1 r (by simp)).trans (hp.get 0 rfl))
   refine GLY_of rfl ?_
   refine GL_rd (wn_none rfl) rfl (rd_not rfl rfl) ?_
   refine GL_nil ?_
   refine GLY_nil ?_
   refine GW_cond rfl (fun hb => ?_) (fun hb => ?_)
   ·(try simp only [decide_eq_true_eq, decide_eq_false_iff_not, Bool.not_eq_true', Bool.not_eq_false', Bool.not_eq_eq_eq_not, Bool.not_true, Bool.not_false, Int.not_lt, Int.not_le] at hb)
    have hbf : b = false := by simpa using hb
    subst hbf
    refine GW_ret ?_
    exact ⟨_, res0 Try.results92 , .inr hJb.2⟩
   ·(try simp only [decide_eq_true_eq, decide_eq_false_iff_not, Bool.not_eq_true', Bool.not_eq_false', Bool.not_eq_eq_eq_not, Bool.not_true, Bool.not_false, Int.not_lt, Int.not_le] at hb)
    have hbf : b = true := by simpa using hb
    subst hbf
    refine GW_skip ?_
    exact ihL0 (q ++ [a], _) _ _ (left_shrinks _ _ _ he) ⟨_, slots2 rfl rfl, hp, hc2, by rw [List.map_append]; exact hJb.2⟩
 ·have hj0 := hN _ _ _ _ r h0 hmd hge hlt
  have hp := Hp.one (hp.get 0 rfl)
  refine ⟨_, slots2 rfl rfl, hp, Came.nil A, hj0⟩
theorem keys_0 (gm c : Nat) (A : AL) (w0 : World) : Does Try.prog 61 #[.map (some gm)] w0 fun v w' => ∃ ga, v = .func (.func 92) #[] #[.pointer (some ⟨ga, 0, none⟩)] ∧ Hp w0 [] w' [cells ga 134 [.map (some gm)]] := by
 refine does_of (l := [.map (some gm)]) Try.func61 (by kernel_rfl) rfl Try.ntmps61 rfl rfl (by kernel_rfl) ?_
 have hp := Hp.refl w0 []
 refine GW_seq ?_
 refine GW_region ?_
 refine GL_box (wn_none rfl) rfl rfl rfl rfl hp ?_
 intro g w hp
 refine GL_rd (v := _) (wn_none rfl) rfl (rd_assign rfl rfl) ?_
 refine GL_nil ?_
 refine GW_seq ?_
 refine GW_region ?_
 refine GL_rd (wn_none rfl) rfl (rd_closure (caps := #[.pointer (some ⟨g, 0, none⟩)]) rfl rfl) ?_
 refine GL_rd (v := .func _ _ _) (wn_none rfl) rfl (rd_assign rfl rfl) ?_
 refine GL_nil ?_
 refine GW_ret ?_
 exact ⟨_, res1 Try.results61 (rv_tmp (v := .func _ _ _) rfl rfl), _, rfl, hp⟩
theorem keys_It1 (ga gm c : Nat) (A : AL) (hA : AlOk A c) : IterB Try.prog 93 [.pointer (some ⟨ga, 0, none⟩)] (fun s : ByteArray => #[.string s]) (keysOf A) (OwnK 135 ga gm c A) := by
 intro yl J X w0 hN hM hX hO h0 hy
 obtain ⟨o1, o2⟩ := hO _ _ _ h0
 refine does_of (l := [yv yl, .pointer (some ⟨ga, 0, none⟩)]) Try.func93 (by kernel_rfl) rfl Try.ntmps93 rfl rfl (by kernel_rfl) ?_
 have hp := Hp.refl w0 []
 refine GW_seq ?_
 refine GW_region ?_
 refine GL_rd (wn_none rfl) rfl (rd_load rfl rfl Try.underlying135 rfl ((cell_of_cells (cells.keep o1 hp.mod) _).trans rfl)) ?_
 refine GL_rangeX (wn_none rfl) rfl rfl rfl Try.underlying135 hp o2 ?_
 intro r w hge hlt hmd hp
 refine GL_nil ?_
 refine GW_block ?_
 refine GW_loop ?_
 refine Lp_ind (α := AL × Array Nat) (fun a_0 f_0 w' => match a_0 with | (q, seen) => ∃ fz, f_0 = (upd (upd fz 0 (yv yl)) 5 (.pointer (some ⟨r, 0, none⟩))) ∧ Hp w' [r] w' [.blk r (.mapIter (some gm) c seen c)] ∧ (Came A q seen) ∧ (J [r] (q.map (·.1)) w')) (fun a_0 => match a_0 with | (q, seen) => (leftOf ⟨alE A⟩ seen).size) ?_ ([], #[]) _ _ ?_
 ·rintro ⟨q, seen⟩ f wz ⟨fz, rfl, hp, hc, hj⟩ ihL0
  obtain ⟨o1, o2⟩ := hO _ _ _ hj
  refine Lp_round ?_
  refine GW_seq ?_
  refine GW_region ?_
  refine GL_nextX (i := 0) (wn_none rfl) rfl rfl rfl hp rfl o2 hA.oldE (Nat.le_refl _) (fun h0 => ?_) (fun e w he hp => ?_)
  ·skip
   refine GL_rd (v := .bool _) (wn_none rfl) rfl (rd_extract rfl rfl rfl) ?_
   refine GL_nil ?_
   refine GW_seq ?_
   refine GW_false rfl ?_
   refine GW_exit ?_
   exact ⟨_, res0 Try.results93 , .inl ⟨_, _, keys_all (hc.all hA h0), hj⟩⟩
  ·skip
   obtain ⟨a, ha, rfl, hc2, s, hs⟩ := hc.step he
   have hj := hM _ _ _ _ hj hp.mod
   obtain ⟨o1, o2⟩ := hO _ _ _ hj
   refine GL_rd (v := .bool _) (wn_none rfl) rfl (rd_extract rfl rfl rfl) ?_
   refine GL_nil ?_
   refine GW_seq ?_
   refine GW_true rfl ?_
   refine GW_skip ?_
   refine GW_block ?_
   refine GW_seq ?_
   refine GW_region ?_
   refine GL_rd (wn_none rfl) rfl (rd_entry rfl rfl (hp.get 0 rfl) o2 (mem_left he).1 hA.bornE) ?_
   refine GL_rd (v := .string _) (wn_none rfl) rfl (rd_extract rfl rfl rfl) ?_
   refine GL_rd (v := .string _) (wn_none rfl) rfl (rd_assign rfl rfl) ?_
   refine GL_nil ?_
   refine GW_seq ?_
   refine GW_regionY ?_
   refine GLY_of rfl ?_
   refine GL_rd (v := (yv yl)) (wn_none rfl) rfl (rd_move rfl rfl) ?_
   refine GL_nil ?_
   refine GLY_of rfl ?_
   refine GL_rd (v := .string _) (wn_none rfl) rfl (rd_move rfl rfl) ?_
   refine GL_nil ?_
   refine GLY_yield (wn_none rfl) rfl rfl rfl rfl (hy _ _ a.1 _ _ (keys_mid hs) hj) ?_
   intro b w hJb
   have hp := Hp.one ((hJb.1 r (by simp)).trans (hp.get 0 rfl))
   refine GLY_of rfl ?_
   refine GL_rd (wn_none rfl) rfl (rd_not rfl rfl) ?_
   refine GL_nil ?_
   refine GLY_nil ?_
   refine GW_cond rfl (fun hb => ?_) (fun hb => ?_)
   ·(try simp only [decide_eq_true_eq, decide_eq_false_iff_not, Bool.not_eq_true', Bool.not_eq_false', Bool.not_eq_eq_eq_not, Bool.not_true, Bool.not_false, Int.not_lt, Int.not_le] at hb)
    have hbf : b = false := by simpa using hb
    subst hbf
    refine GW_ret ?_
    exact ⟨_, res0 Try.results93 , .inr hJb.2⟩
   ·(try simp only [decide_eq_true_eq, decide_eq_false_iff_not, Bool.not_eq_true', Bool.not_eq_false', Bool.not_eq_eq_eq_not, Bool.not_true, Bool.not_false, Int.not_lt, Int.not_le] at hb)
    have hbf : b = true := by simpa using hb
    subst hbf
    refine GW_skip ?_
    exact ihL0 (q ++ [a], _) _ _ (left_shrinks _ _ _ he) ⟨_, slots2 rfl rfl, hp, hc2, by rw [List.map_append]; exact hJb.2⟩
 ·have hj0 := hN _ _ _ _ r h0 hmd hge hlt
  have hp := Hp.one (hp.get 0 rfl)
  refine ⟨_, slots2 rfl rfl, hp, Came.nil A, hj0⟩
theorem keys_1 (gm c : Nat) (A : AL) (w0 : World) : Does Try.prog 62 #[.map (some gm)] w0 fun v w' => ∃ ga, v = .func (.func 93) #[] #[.pointer (some ⟨ga, 0, none⟩)] ∧ Hp w0 [] w' [cells ga 135 [.map (some gm)]] := by
 refine does_of (l := [.map (some gm)]) Try.func62 (by kernel_rfl) rfl Try.ntmps62 rfl rfl (by kernel_rfl) ?_
 have hp := Hp.refl w0 []
 refine GW_seq ?_
 refine GW_region ?_
 refine GL_box (wn_none rfl) rfl rfl rfl rfl hp ?_
 intro g w hp
 refine GL_rd (v := _) (wn_none rfl) rfl (rd_assign rfl rfl) ?_
 refine GL_nil ?_
 refine GW_seq ?_
 refine GW_region ?_
 refine GL_rd (wn_none rfl) rfl (rd_closure (caps := #[.pointer (some ⟨g, 0, none⟩)]) rfl rfl) ?_
 refine GL_rd (v := .func _ _ _) (wn_none rfl) rfl (rd_assign rfl rfl) ?_
 refine GL_nil ?_
 refine GW_ret ?_
 exact ⟨_, res1 Try.results62 (rv_tmp (v := .func _ _ _) rfl rfl), _, rfl, hp⟩
theorem seq_Append (kf : Nat) (caps : List Value) (A : List ByteArray → Prop) (Own : World → Prop) (hit : IterB Try.prog kf caps (fun s : ByteArray => #[.string s]) A Own) (hOw : ∀ w w', Own w → Mod [] w w' → Own w') (hAl : ∀ xs, A xs → xs.length ≤ 65000) (w0 : World) (h0 : Own w0) : Does Try.prog 115 #[.slice none 0 0, .func (.func kf) #[] ⟨caps⟩] w0 fun v w' => ∃ xs, A xs ∧ Hp w0 [] w' [.row 9 1 v (xs).length ((xs).map Value.string)] := by
 refine does_ofM (l := [.slice none 0 0, .func (.func kf) #[] ⟨caps⟩]) Try.func115 (by kernel_rfl) rfl Try.ntmps115 rfl rfl ?_
 have hp := Hp.refl w0 []
 refine GV_seq ?_
 refine GV_of (by kernel_rfl) ?_
 refine GW_region ?_
 refine GL_box (wn_none rfl) rfl rfl rfl rfl hp ?_
 intro g w hp
 refine GL_rd (v := .slice _ _ _) (wn_none rfl) rfl (rd_assign rfl rfl) ?_
 refine GL_nil ?_
 refine GV_seq ?_
 refine GV_seq ?_
 refine GV_of (by kernel_rfl) ?_
 refine GW_region ?_
 refine GL_rd (v := .func (.func kf) #[] ⟨caps⟩) (wn_none rfl) rfl (rd_move rfl rfl) ?_
 refine GL_nil ?_
 refine GV_block ?_
 have hp := hp.nilRow 9 1
 have hp := (((hp.front 0 rfl).front 1 rfl).take 2)
 refine GV_range1B (α := ByteArray) (β := Value) (γ := Unit) (fun s : ByteArray => .string s) A (fun q_ z => [cells g 62 [z], .row 9 1 z (q_).length ((q_).map Value.string)]) (fun q_ z => True) (fun c => []) (fun c => False) (Own) (.slice none 0 0) rfl (by kernel_rfl) (by kernel_rfl) (hit) hp trivial (fun _ _ _ h _ => hOw _ _ h0 h.mod) ?_ ?_ ?_
 ·intro fr_ q_ x s_ z w L1_ D1_ r_ r2_ hxs hz hp
  have hq2 : q_.length < 65000 := by have := hAl _ hxs; rw [List.length_append, List.length_cons] at this; omega
  obtain ⟨Az, cz, rfl⟩ := row_shape (hp.get 4 rfl)
  refine GW_region ?_
  refine GL_rd (v := .string _) (wn_none rfl) rfl (rd_assign rfl rfl) ?_
  refine GL_nil ?_
  refine ⟨rfl, _, hp, fun w hp => ?_⟩
  refine GW_block ?_
  refine GW_region ?_
  refine GL_rd (v := .slice _ _ _) (wn_none rfl) rfl (rd_load rfl rfl Try.underlying62 rfl ((cell_of_cells (hp.get 3 rfl) _).trans rfl)) ?_
  refine GL_rd (v := .string _) (wn_none rfl) rfl (rd_move rfl rfl) ?_
  refine GL_lit (L := [.string x]) (wn_none rfl) rfl rfl Try.underlying62 ts9 tz9 rfl (by kernel_rfl) rfl rfl hp ?_
  intro g2 w hp
  refine GL_append (i := 5) (wn_none rfl) rfl rfl rfl rfl Try.underlying62 ti9 rfl (by decide) hp rfl (Sl.row (hp.get 0 rfl)) (one1 rfl) (by omega) (by omega) ?_
  intro v w hp
  obtain ⟨Av, cv, rfl⟩ := row_shape (hp.get 5 rfl)
  refine GL_store (i := 4) (wn_none rfl) rfl rfl rfl rfl ts62 rfl rfl (one1 rfl) hp rfl (by first | exact Nat.le_of_ble_eq_true rfl | simp [bys_length, *]) (show splice _ _ _ = [_] from rfl) ?_
  intro w hp
  refine GL_nil ?_
  have hp := ((((((hp.front 5 rfl).front 5 rfl).front 5 rfl).front 5 rfl).front 5 rfl).take 5)
  rw [stR_snoc2] at hp
  exact ⟨_, trivial, hp⟩
 ·intro xs_ z Dm w hA_ hz hp
  obtain ⟨Az, cz, rfl⟩ := row_shape (hp.get 2 rfl)
  refine GV_of (by kernel_rfl) ?_
  refine GW_seq ?_
  refine GW_region ?_
  refine GL_rd (v := .slice _ _ _) (wn_none rfl) rfl (rd_load rfl rfl Try.underlying62 rfl ((cell_of_cells (hp.get 1 rfl) _).trans rfl)) ?_
  refine GL_rd (v := .slice _ _ _) (wn_none rfl) rfl (rd_assign rfl rfl) ?_
  refine GL_nil ?_
  refine GW_ret ?_
  refine (FM_of [Dm] ?_).1
  refine Shut_cons (i := 0) hp rfl fun w hp => ?_
  refine Shut_nil ?_
  have hp := ((hp.front 2 rfl).take 1)
  exact ⟨_, res1 Try.results115 (rv_tmp (v := .slice _ _ _) rfl rfl), _, hA_, hp⟩
 ·intro c Dm w hc hp
  exact hc.elim
theorem seq_Collect (kf : Nat) (caps : List Value) (A : List ByteArray → Prop) (Own : World → Prop) (hit : IterB Try.prog kf caps (fun s : ByteArray => #[.string s]) A Own) (hOw : ∀ w w', Own w → Mod [] w w' → Own w') (hAl : ∀ xs, A xs → xs.length ≤ 65000) (w0 : World) (h0 : Own w0) : Does Try.prog 90 #[.func (.func kf) #[] ⟨caps⟩] w0 fun v w' => ∃ xs, A xs ∧ Hp w0 [] w' [.row 9 1 v (xs).length ((xs).map Value.string)] := by
 refine does_of (l := [.func (.func kf) #[] ⟨caps⟩]) Try.func90 (by kernel_rfl) rfl Try.ntmps90 rfl rfl (by kernel_rfl) ?_
 have hp := Hp.refl w0 []
 refine GW_seq ?_
 refine GW_region ?_
 refine GL_rd (v := .slice _ _ _) (wn_none rfl) rfl (rd_assign rfl rfl) ?_
 refine GL_nil ?_
 refine GW_seq ?_
 refine GW_region ?_
 refine GL_rd (v := .func (.func kf) #[] ⟨caps⟩) (wn_none rfl) rfl (rd_move rfl rfl) ?_
 refine GL_call (wn_none rfl) rfl rfl (seq_Append kf caps A Own hit hOw hAl _ (hOw _ _ h0 hp.mod)) rfl ?_
 rintro v1 w ⟨xs, hxs, hk⟩
 have hp := hp.comp hk
 refine GL_rd (v := v1) (wn_none rfl) rfl (rd_assign rfl rfl) ?_
 refine GL_nil ?_
 refine GW_ret ?_
 exact ⟨_, res1 Try.results90 (rv_tmp (v := v1) rfl rfl), _, hxs, hp⟩
theorem seq_Sorted (kf : Nat) (caps : List Value) (A : List ByteArray → Prop) (Own : World → Prop) (hit : IterB Try.prog kf caps (fun s : ByteArray => #[.string s]) A Own) (hOw : ∀ w w', Own w → Mod [] w w' → Own w') (hAl : ∀ xs, A xs → xs.length ≤ 65000) (w0 : World) (h0 : Own w0) : Does Try.prog 60 #[.func (.func kf) #[] ⟨caps⟩] w0 fun v w' => ∃ xs, A xs ∧ Hp w0 [] w' [.row 9 1 v ((sortS xs)).length (((sortS xs)).map Value.string)] := by
 refine does_of (l := [.func (.func kf) #[] ⟨caps⟩]) Try.func60 (by kernel_rfl) rfl Try.ntmps60 rfl rfl (by kernel_rfl) ?_
 have hp := Hp.refl w0 []
 refine GW_seq ?_
 refine GW_region ?_
 refine GL_rd (v := .slice _ _ _) (wn_none rfl) rfl (rd_assign rfl rfl) ?_
 refine GL_nil ?_
 refine GW_seq ?_
 refine GW_region ?_
 refine GL_rd (v := .func (.func kf) #[] ⟨caps⟩) (wn_none rfl) rfl (rd_move rfl rfl) ?_
 refine GL_call (wn_none rfl) rfl rfl (seq_Collect kf caps A Own hit hOw hAl _ (hOw _ _ h0 hp.mod)) rfl ?_
 rintro v1 w ⟨xs, hxs, hk⟩
 have hp := hp.comp hk
 refine GL_rd (v := v1) (wn_none rfl) rfl (rd_assign rfl rfl) ?_
 refine GL_nil ?_
 refine GW_seq ?_
 refine GW_region ?_
 refine GL_rd (v := v1) (wn_none rfl) rfl (rd_move rfl rfl) ?_
 refine GL_call (wn_none rfl) rfl rfl (sl_SortS (hp.get 0 rfl) (by have := hAl _ hxs; omega)) rfl ?_
 intro _ w hk
 have hp := hp.turnAtMore 0 rfl hk
 have el := sortS_len2 xs
 rw [← el] at hp
 refine GL_nil ?_
 refine GW_seq ?_
 refine GW_region ?_
 refine GL_rd (v := v1) (wn_none rfl) rfl (rd_move rfl rfl) ?_
 refine GL_rd (v := v1) (wn_none rfl) rfl (rd_assign rfl rfl) ?_
 refine GL_nil ?_
 refine GW_ret ?_
 exact ⟨_, res1 Try.results60 (rv_tmp (v := v1) rfl rfl), _, hxs, hp⟩
end Go.Proofs.Ytpagpmioopaciaa
