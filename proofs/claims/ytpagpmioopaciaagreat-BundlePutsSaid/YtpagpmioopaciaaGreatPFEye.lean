/- Walks of functions of the program. -/
import Derived.Test.YtpagpmioopaciaaGreatPFTrp
import Derived.Test.YtpagpmioopaciaaGreatPBunE
import Derived.Test.YtpagpmioopaciaaGreatPFBuP
set_option linter.unusedVariables false
set_option linter.unusedSimpArgs false
namespace Go.Proofs.YtpagpmioopaciaaGreat
open Go.Mo Go.RowKit
theorem eye_take (g : Nat) (sv : Value) (L : List UInt8) (n : Nat) (wb w0 : World) (hm0 : Mod [] wb w0) (hg0 : wb.heap.size ≤ g) (ho0 : (cells g 73 [sv]).at_ w0) (hS0 : Sl wb sv 1 L.length (bys L)) (hn0 : n ≤ 9223372036854775807) : Thr Tryz.prog 69 #[.pointer (some ⟨g, 0, none⟩), .int .i64 (n : Int)] w0 (fun v w' => ∃ A c nv, v = .slice A n c ∧ n ≤ L.length ∧ Sl wb (.slice A n c) 1 n (bys (L.take n)) ∧ Sl wb nv 1 (L.drop n).length (bys (L.drop n)) ∧ Hp w0 [g] w' [cells g 73 [nv]]) (fun ch w' => ch = faultE 130 3 ∧ L.length < n ∧ Hp w0 [g] w' []) := by
 obtain ⟨A0, c0, rfl⟩ := sl_shape hS0
 refine thr_of (l := [.pointer (some ⟨g, 0, none⟩), .int .i64 (n : Int)]) Tryz.func69 (by kernel_rfl) rfl Tryz.ntmps69 rfl rfl (by kernel_rfl) ?_
 have hp := Hp.one ho0
 refine GW_seq ?_
 refine GW_region ?_
 refine GL_rd (v := .slice _ _ _) (wn_none rfl) rfl (rd_assign rfl rfl) ?_
 refine GL_nil ?_
 refine GW_seq ?_
 refine GW_seq ?_
 refine GW_region ?_
 refine GL_rd (v := .int _ _) (wn_none rfl) rfl (rd_move rfl rfl) ?_
 refine GL_rd (v := .pointer (some ⟨_, _, none⟩)) (wn_none rfl) rfl (rd_move rfl rfl) ?_
 refine GL_rd (wn_none rfl) rfl (rd_nilCheck rfl rfl) ?_
 refine GL_rd (wn_none rfl) rfl (rd_field rfl rfl fa73_0 _ rfl) ?_
 refine GL_rd (v := .slice _ _ _) (wn_none rfl) rfl (rd_load rfl rfl Tryz.underlying35 rfl ((cell_of_cells (hp.get 0 rfl) _).trans rfl)) ?_
 refine GL_rd (wn_none rfl) rfl (rd_len rfl rfl Tryz.underlying35) ?_
 refine GL_rd (wn_none rfl) rfl (rd_bin rfl rfl rfl bo_gtr) ?_
 refine GL_nil ?_
 refine GW_cond rfl (fun hb => ?_) (fun hb => ?_)
 ·(try simp only [decide_eq_true_eq, decide_eq_false_iff_not, Bool.not_eq_true', Bool.not_eq_false', Bool.not_eq_eq_eq_not, Bool.not_true, Bool.not_false, Int.not_lt, Int.not_le] at hb)
  have hlt : L.length < n := by have := hb; omega
  refine GW_region ?_
  refine GL_callX (wn_none rfl) rfl rfl (trap_Throw 3 _) rfl (fun ch w' q => by obtain ⟨rfl, hk⟩ := q; exact ⟨rfl, by omega, (hp.comp hk).mods⟩) ?_
  intro _ w q
  exact q.elim
 ·(try simp only [decide_eq_true_eq, decide_eq_false_iff_not, Bool.not_eq_true', Bool.not_eq_false', Bool.not_eq_eq_eq_not, Bool.not_true, Bool.not_false, Int.not_lt, Int.not_le] at hb)
  have hle : n ≤ L.length := by have := hb; omega
  refine GW_skip ?_
  refine GW_seq ?_
  refine GW_region ?_
  refine GL_rd (v := .pointer (some ⟨_, _, none⟩)) (wn_none rfl) rfl (rd_move rfl rfl) ?_
  refine GL_rd (wn_none rfl) rfl (rd_nilCheck rfl rfl) ?_
  refine GL_rd (wn_none rfl) rfl (rd_field rfl rfl fa73_0 _ rfl) ?_
  refine GL_rd (v := .slice _ _ _) (wn_none rfl) rfl (rd_load rfl rfl Tryz.underlying35 rfl ((cell_of_cells (hp.get 0 rfl) _).trans rfl)) ?_
  refine GL_rd (v := .int _ _) (wn_none rfl) rfl (rd_move rfl rfl) ?_
  refine GL_rd (v := .int _ _) (wn_none rfl) rfl (rd_move rfl rfl) ?_
  refine GL_rd (v := .slice _ _ _) (wn_none rfl) rfl (rd_slice3 rfl rfl Tryz.underlying35 ts5 rfl rfl (by have := (Sl.cap hS0).1; omega)) ?_
  refine GL_rd (v := .slice _ _ _) (wn_none rfl) rfl (rd_assign rfl rfl) ?_
  refine GL_nil ?_
  refine GW_seq ?_
  refine GW_region ?_
  refine GL_rd (v := .pointer (some ⟨_, _, none⟩)) (wn_none rfl) rfl (rd_move rfl rfl) ?_
  refine GL_rd (v := .pointer (some ⟨_, _, none⟩)) (wn_none rfl) rfl (rd_move rfl rfl) ?_
  refine GL_rd (wn_none rfl) rfl (rd_nilCheck rfl rfl) ?_
  refine GL_rd (wn_none rfl) rfl (rd_field rfl rfl fa73_0 _ rfl) ?_
  refine GL_rd (v := .slice _ _ _) (wn_none rfl) rfl (rd_load rfl rfl Tryz.underlying35 rfl ((cell_of_cells (hp.get 0 rfl) _).trans rfl)) ?_
  refine GL_rd (v := .int _ _) (wn_none rfl) rfl (rd_move rfl rfl) ?_
  refine GL_rd (wn_none rfl) rfl (rd_sliceS (lo := n) (hi := L.length) rfl rfl Tryz.underlying35 ts5 (at_some rfl rfl) to_none hle (by have := (Sl.cap hS0).1; omega)) ?_
  refine GL_rd (wn_none rfl) rfl (rd_nilCheck rfl rfl) ?_
  refine GL_rd (wn_none rfl) rfl (rd_field rfl rfl fa73_0 _ rfl) ?_
  refine GL_store (i := 0) (wn_none rfl) rfl rfl rfl rfl ts35 rfl rfl (one1 rfl) hp rfl (by first | exact Nat.le_of_ble_eq_true rfl | simp [bys_length, *]) rfl ?_
  intro w hp
  refine GL_nil ?_
  refine GW_seq ?_
  refine GW_region ?_
  refine GL_rd (v := .slice _ _ _) (wn_none rfl) rfl (rd_move rfl rfl) ?_
  refine GL_rd (v := .slice _ _ _) (wn_none rfl) rfl (rd_assign rfl rfl) ?_
  refine GL_nil ?_
  refine GW_ret ?_
  exact ⟨_, res1 Tryz.results69 (rv_tmp (v := .slice _ _ _) rfl rfl), _, _, _, rfl, hle, hS0.cut3 n hle, hS0.cutD n hle, hp⟩
theorem eye_field (g : Nat) (sv : Value) (L : List UInt8) (wb w0 : World) (hm0 : Mod [] wb w0) (hg0 : wb.heap.size ≤ g) (ho0 : (cells g 73 [sv]).at_ w0) (hS0 : Sl wb sv 1 L.length (bys L)) : Thr Tryz.prog 71 #[.pointer (some ⟨g, 0, none⟩)] w0 (fun v w' => ∃ A c nv x r, v = .slice A x.length c ∧ fdL L = some (x, r) ∧ Sl wb (.slice A x.length c) 1 x.length (bys x) ∧ Sl wb nv 1 r.length (bys r) ∧ Hp w0 [g] w' [cells g 73 [nv]]) (fun ch w' => ch = faultE 130 3 ∧ fdL L = none ∧ Hp w0 [g] w' []) := by
 obtain ⟨A0, c0, rfl⟩ := sl_shape hS0
 refine thr_of (l := [.pointer (some ⟨g, 0, none⟩)]) Tryz.func71 (by kernel_rfl) rfl Tryz.ntmps71 rfl rfl (by kernel_rfl) ?_
 have hp := Hp.one ho0
 refine GW_seq ?_
 refine GW_region ?_
 refine GL_rd (v := .slice _ _ _) (wn_none rfl) rfl (rd_assign rfl rfl) ?_
 refine GL_nil ?_
 refine GW_seq ?_
 refine GW_region ?_
 refine GL_rd (v := .pointer (some ⟨_, _, none⟩)) (wn_none rfl) rfl (rd_move rfl rfl) ?_
 refine GL_rd (v := .pointer (some ⟨_, _, none⟩)) (wn_none rfl) rfl (rd_move rfl rfl) ?_
 refine GL_callX (wn_none rfl) rfl rfl (eye_take g _ L 2 wb _ (mod_g hm0 hg0 hp.mod) hg0 (hp.get 0 rfl) hS0 (by decide)) rfl (fun ch w' q => by obtain ⟨rfl, ht, hk⟩ := q; have hp := hp.turnAtMore 0 rfl hk; exact ⟨rfl, by rw [fdL, tkL_no ht]; rfl, hp.mods⟩) ?_
 rintro _ w ⟨Aa, ca, nva, rfl, hla, hsa, hna, hk⟩
 have hp := hp.turnAt 0 rfl hk
 have ha := getL_lt (L.take 2)
 have hb : (L.take 2).length = 2 := by rw [List.length_take]; omega
 rw [hb, show (256 : Nat) ^ 2 = 65536 from rfl] at ha
 have hf : fdL L = tkL (getL (L.take 2)) (L.drop 2) := by rw [fdL, tkL_yes hla]; rfl
 refine GL_call (wn_none rfl) rfl rfl (word_Get _ _ _ _ (hsa.keep (mod_g hm0 hg0 hp.mod))) rfl ?_
 rintro _ w ⟨rfl, hk⟩
 have hp := hp.comp hk
 rw [show (L.take 2).take 8 = L.take 2 from List.take_of_length_le (by omega)]
 refine GL_rd (wn_none rfl) rfl (rd_convE (q := ((getL (L.take 2) : Nat) : Int)) rfl rfl Tryz.underlying3 Tryz.underlying62 (by simp) (i64_nat (by omega))) ?_
 refine GL_callX (wn_none rfl) rfl rfl (eye_take g _ (L.drop 2) (getL (L.take 2)) wb _ (mod_g hm0 hg0 hp.mod) hg0 (hp.get 0 rfl) hna (by omega)) rfl (fun ch w' q => by obtain ⟨rfl, ht, hk⟩ := q; have hp := hp.turnAtMore 0 rfl hk; exact ⟨rfl, by rw [hf]; exact tkL_no ht, hp.mods⟩) ?_
 rintro _ w ⟨Ab, cb, nvb, rfl, hlb, hsb, hnb, hk⟩
 have hp := hp.turnAt 0 rfl hk
 have hc : ((L.drop 2).take (getL (L.take 2))).length = getL (L.take 2) := by rw [List.length_take]; omega
 refine GL_rd (v := .slice _ _ _) (wn_none rfl) rfl (rd_assign rfl rfl) ?_
 refine GL_nil ?_
 refine GW_ret ?_
 exact ⟨_, res1 Tryz.results71 (rv_tmp (v := .slice _ _ _) rfl rfl), _, _, _, (L.drop 2).take (getL (L.take 2)), (L.drop 2).drop (getL (L.take 2)), by rw [hc], by rw [hf]; exact tkL_yes hlb, by rw [hc]; exact hsb, hnb, hp⟩
end Go.Proofs.YtpagpmioopaciaaGreat
