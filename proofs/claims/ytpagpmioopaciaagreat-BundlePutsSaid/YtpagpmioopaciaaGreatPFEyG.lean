/- Walks of functions of the program. -/
import Derived.Test.YtpagpmioopaciaaGreatPFEye
set_option linter.unusedVariables false
set_option linter.unusedSimpArgs false
namespace Go.Proofs.YtpagpmioopaciaaGreat
open Go.Mo Go.RowKit
set_option maxHeartbeats 1000000 in
theorem eye_get (ge : Nat) (sv : Value) (L : List UInt8) (wb w0 : World) (hm0 : Mod [] wb w0) (hg0 : wb.heap.size ≤ ge) (ho0 : (cells ge 73 [sv]).at_ w0) (hS0 : Sl wb sv 1 L.length (bys L)) : Thr Tryz.prog 42 #[.pointer (some ⟨ge, 0, none⟩)] w0 (fun v w' => ∃ (B : Bu) (tv av : Value), v = .agg ⟨buC B tv av⟩ ∧ decB L = some (bare B) ∧ BuSm B ∧ Hp w0 [ge] w' [.row 35 1 tv B.tx.length (B.tx.map Prod.fst), packL (rowsZ 5 B.tx), .row 46 100 av B.au.length (B.au.flatMap recC)]) (fun ch w' => ∃ c : Int, (c = 3 ∨ c = 5) ∧ ch = faultE 130 c ∧ decB L = none ∧ Hp w0 [ge] w' []) := by
 obtain ⟨A0, c0, rfl⟩ := sl_shape hS0
 refine thr_of (l := [.pointer (some ⟨ge, 0, none⟩)]) Tryz.func42 (by kernel_rfl) rfl Tryz.ntmps42 rfl rfl (by kernel_rfl) ?_
 have hp := Hp.one ho0
 refine GW_seq ?_
 refine GW_region ?_
 refine GL_alloc (wn_none rfl) rfl rfl tz28 rfl hp ?_
 intro g w hp
 refine GL_nil ?_
 refine GW_seq ?_
 refine GW_seq ?_
 refine GW_region ?_
 refine GL_rd (v := .pointer (some ⟨_, _, none⟩)) (wn_none rfl) rfl (rd_move rfl rfl) ?_
 refine GL_callX (wn_none rfl) rfl rfl (eye_take ge _ L 4 wb _ (mod_g hm0 hg0 hp.mod) hg0 (hp.get 1 rfl) hS0 (by decide)) rfl (fun ch w' q => by obtain ⟨rfl, ht, hk⟩ := q; have hp := hp.turnAtMore 1 rfl hk; first | exact ⟨3, .inl rfl, rfl, by rw [decB, tkL_no ht]; rfl, hp.mods⟩ | exact fun _ => ⟨3, .inl rfl, rfl, by rw [decB, tkL_no ht]; rfl, hp.mods⟩) ?_
 rintro _ w ⟨Aw, cw, nvw, rfl, hlw, hsw, hnw, hk⟩
 have hp := hp.turnAt 1 rfl hk
 refine GL_rd (wn_none rfl) rfl (rd_toStr rfl rfl Tryz.underlying35 Tryz.underlying9 Tryz.underlying5 (hsw.keep (mod_g hm0 hg0 hp.mod))) ?_
 refine GL_rd (wn_none rfl) rfl (rd_bin rfl rfl rfl bo_sneq) ?_
 refine GL_nil ?_
 refine GW_cond rfl (fun hb => ?_) (fun hb => ?_)
 ·(try simp only [decide_eq_true_eq, decide_eq_false_iff_not, Bool.not_eq_true', Bool.not_eq_false', Bool.not_eq_eq_eq_not, Bool.not_true, Bool.not_false, Int.not_lt, Int.not_le] at hb)
  have hw := hb
  have hD : decB L = none := by rw [decB, tkL_yes hlw, Option.bind_some, dec1, if_neg (fun q => hw (by rw [show L.take 4 = buW from q]; rfl))]
  refine GW_region ?_
  refine GL_callX (wn_none rfl) rfl rfl (trap_Throw 3 _) rfl (fun ch w' q => by obtain ⟨rfl, hk⟩ := q; have hp := hp.comp hk; first | exact ⟨3, .inl rfl, rfl, hD, hp.mods⟩ | exact fun _ => ⟨3, .inl rfl, rfl, hD, hp.mods⟩) ?_
  intro _ w q
  exact q.elim
 ·(try simp only [decide_eq_true_eq, decide_eq_false_iff_not, Bool.not_eq_true', Bool.not_eq_false', Bool.not_eq_eq_eq_not, Bool.not_true, Bool.not_false, Int.not_lt, Int.not_le] at hb)
  have hw := hb
  have hW : L.take 4 = buW := by have q := congrArg (fun s : ByteArray => s.data.toList) hw; unfold buW; simpa using q
  have hD : decB L = (fdL (L.drop 4)).bind dec2 := by rw [decB, tkL_yes hlw, Option.bind_some, dec1, if_pos hW]
  refine GW_skip ?_
  refine GW_cut (fun f_0 w' => ∃ (g2 : Nat) (xc : List UInt8) (mm : Nat) (xn : List UInt8) (rn : List UInt8) (nvn : Value) (fz : _), f_0 = (upd (upd (upd fz 3 (.pointer (some ⟨g2, 0, none⟩))) 0 (.pointer (some ⟨ge, 0, none⟩))) 2 (.pointer (some ⟨g, 0, none⟩))) ∧ Hp w0 [ge] w' [cells g2 28 [.string ⟨xc.toArray⟩, .int .i64 (mm : Int), .string ⟨xn.toArray⟩, .slice none 0 0, .slice none 0 0], cells g 28 [.string ⟨#[]⟩, .int .i64 0, .string ⟨#[]⟩, .slice none 0 0, .slice none 0 0], cells ge 73 [nvn]] ∧ (xc.length ≤ 65535) ∧ (xn.length ≤ 65535) ∧ (Sl wb nvn 1 rn.length (bys rn)) ∧ (decB L = (tkL 1 rn).bind (dec5 xc mm xn))) ?_ ?_
  ·skip
   refine GW_drawnK 12 (.one 0 true (.one 3 true (.one 7 true (.two 1 11 (.one 2 true (.two 4 11 (.two 5 11 (.one 6 true (.two 8 11 (.one 9 true (.one 10 true (.one 11 false (.one 12 false .nil)))) (.one 8 false (.one 9 true (.one 10 true (.one 12 false .nil)))))) (.one 5 false (.one 6 true (.one 8 false (.one 9 true (.one 10 true (.one 12 false .nil))))))) (.one 4 false (.one 5 false (.one 6 true (.one 8 false (.one 9 true (.one 10 true (.one 12 false .nil))))))))) (.one 1 false (.one 2 true (.one 4 false (.one 5 false (.one 6 true (.one 8 false (.one 9 true (.one 10 true (.one 12 false .nil))))))))))))) mixed (by kernel_rfl) hp (fun _ h => (h.sub (.cons_cons _ (.cons _ .slnil)))) fun w hp => ?_
   have hpS := (hp.sub (.cons_cons _ (.cons _ .slnil)))
   refine GO_rdT (v := .pointer (some ⟨_, _, none⟩)) rfl (wn_none rfl) rfl (fun w => (rd_move rfl rfl)) ?_
   refine GO_rdT (v := .pointer (some ⟨_, _, none⟩)) rfl (wn_none rfl) rfl (fun w => (rd_move rfl rfl)) ?_
   refine GO_rdT (v := .pointer (some ⟨_, _, none⟩)) rfl (wn_none rfl) rfl (fun w => (rd_move rfl rfl)) ?_
   refine GO_two rfl rfl ?_ ?_
   ·skip
    refine GC_of_GL ?_
    refine GL_callX (wn_none rfl) rfl rfl (eye_field ge _ (L.drop 4) wb _ (mod_g hm0 hg0 hp.mod) hg0 (hp.get 1 rfl) hnw) rfl (fun ch w' q => by obtain ⟨rfl, ht, hk⟩ := q; have hp := hp.turnAtMore 1 rfl hk; first | exact ⟨3, .inl rfl, rfl, by rw [hD, ht]; rfl, hp.mods⟩ | exact fun _ => ⟨3, .inl rfl, rfl, by rw [hD, ht]; rfl, hp.mods⟩) ?_
    rintro _ w ⟨Ac, cc, nvc, xc, rc, rfl, hfc, hsc, hnc, hk⟩
    have hp := hp.turnAt 1 rfl hk
    have hbc := fdL_len hfc
    have hD : decB L = (tkL 6 rc).bind (dec3 xc) := by rw [hD, hfc]; rfl
    have hpS2 := (hp.sub (.cons_cons _ (.cons _ .slnil)))
    refine GL_nil ⟨fun _ => hpS2, ?_⟩
    refine GO_rd rfl rfl (wn_none rfl) rfl hpS2 (fun w hp => (rd_toStr rfl rfl Tryz.underlying35 Tryz.underlying9 Tryz.underlying5 (hsc.keep (mod_g hm0 hg0 hp.mod)))) ?_
    refine GO_two rfl rfl ?_ ?_
    ·skip
     refine GC_of_GL ?_
     refine GL_callX (wn_none rfl) rfl rfl (eye_take ge _ rc 6 wb _ (mod_g hm0 hg0 hp.mod) hg0 (hp.get 1 rfl) hnc (by decide)) rfl (fun ch w' q => by obtain ⟨rfl, ht, hk⟩ := q; have hp := hp.turnAtMore 1 rfl hk; first | exact ⟨3, .inl rfl, rfl, by rw [hD, tkL_no ht]; rfl, hp.mods⟩ | exact fun _ => ⟨3, .inl rfl, rfl, by rw [hD, tkL_no ht]; rfl, hp.mods⟩) ?_
     rintro _ w ⟨Am, cm, nvm, rfl, hlm, hsm, hnm, hk⟩
     have hp := hp.turnAt 1 rfl hk
     have hD : decB L = (fdL (rc.drop 6)).bind (dec4 xc (getL (rc.take 6))) := by rw [hD, tkL_yes hlm]; rfl
     have hgm := getL_lt (rc.take 6)
     rw [show (rc.take 6).length = 6 by rw [List.length_take]; omega, show (256 : Nat) ^ 6 = 281474976710656 from rfl] at hgm
     have hpS3 := (hp.sub (.cons_cons _ (.cons _ .slnil)))
     refine GL_nil ⟨fun _ => hpS3, ?_⟩
     refine GO_two rfl rfl ?_ ?_
     ·skip
      refine GC_of_GL ?_
      refine GL_call (wn_none rfl) rfl rfl (word_Get _ _ _ _ (hsm.keep (mod_g hm0 hg0 hp.mod))) rfl ?_
      rintro _ w ⟨rfl, hk⟩
      have hp := hp.comp hk
      rw [show (rc.take 6).take 8 = rc.take 6 from List.take_of_length_le (by rw [List.length_take]; omega)]
      have hpS4 := (hp.sub (.cons_cons _ (.cons _ .slnil)))
      refine GL_nil ⟨fun _ => hpS4, ?_⟩
      refine GO_rd rfl rfl (wn_none rfl) rfl hpS4 (fun w hp => (rd_convE (q := ((getL (rc.take 6) : Nat) : Int)) rfl rfl Tryz.underlying3 Tryz.underlying62 (by simp) (i64_nat (by omega)))) ?_
      refine GO_two rfl rfl ?_ ?_
      ·skip
       refine GC_of_GL ?_
       refine GL_callX (wn_none rfl) rfl rfl (eye_field ge _ (rc.drop 6) wb _ (mod_g hm0 hg0 hp.mod) hg0 (hp.get 1 rfl) hnm) rfl (fun ch w' q => by obtain ⟨rfl, ht, hk⟩ := q; have hp := hp.turnAtMore 1 rfl hk; first | exact ⟨3, .inl rfl, rfl, by rw [hD, ht]; rfl, hp.mods⟩ | exact fun _ => ⟨3, .inl rfl, rfl, by rw [hD, ht]; rfl, hp.mods⟩) ?_
       rintro _ w ⟨An, cn, nvn, xn, rn, rfl, hfn, hsn, hnn, hk⟩
       have hp := hp.turnAt 1 rfl hk
       have hbn := fdL_len hfn
       have hD : decB L = (tkL 1 rn).bind (dec5 xc (getL (rc.take 6)) xn) := by rw [hD, hfn]; rfl
       have hpS5 := (hp.sub (.cons_cons _ (.cons _ .slnil)))
       refine GL_nil ⟨fun _ => hpS5, ?_⟩
       refine GO_rd rfl rfl (wn_none rfl) rfl hpS5 (fun w hp => (rd_toStr rfl rfl Tryz.underlying35 Tryz.underlying9 Tryz.underlying5 (hsn.keep (mod_g hm0 hg0 hp.mod)))) ?_
       refine GO_rd rfl rfl (wn_none rfl) rfl hpS5 (fun w hp => (rd_buildS (L := [.string ⟨xc.toArray⟩, .int .i64 (getL (rc.take 6) : Int), .string ⟨xn.toArray⟩, .slice none 0 0, .slice none 0 0]) rfl tz28 pl28 (by kernel_rfl))) ?_
       refine GO_of_GL rfl ?_
       refine GL_alloc (wn_none rfl) rfl rfl tz28 rfl hp ?_
       intro g2 w hp
       have hpS6 := (hp.sub (.cons _ (.cons_cons _ (.cons _ .slnil))))
       refine GL_nil ⟨fun _ => hpS6, ?_⟩
       refine GO_of_GL rfl ?_
       refine GL_store (i := 0) (wn_none rfl) rfl rfl rfl rfl ts28 rfl rfl (oneC rfl (oneC rfl (oneC rfl (oneC rfl (oneC rfl one0))))) hp rfl (by first | exact Nat.le_of_ble_eq_true rfl | simp [bys_length, *]) rfl ?_
       intro w hp
       refine GL_nil ⟨fun h => absurd h (by decide), ?_⟩
       refine GO_nil ?_
       have hp := ((((hp.front 2 rfl).front 2 rfl).front 2 rfl).take 3)
       exact ⟨g2, xc, getL (rc.take 6), xn, rn, nvn, _, slots3 rfl rfl rfl, hp, hbc, hbn, hnn, hD⟩
      ·skip
       refine GC_of_GL ?_
       refine GL_alloc (wn_none rfl) rfl rfl tz28 rfl hp ?_
       intro g3 w hp
       have hpS7 := (hp.sub (.cons _ (.cons_cons _ (.cons _ .slnil))))
       refine GL_nil ⟨fun _ => hpS7, ?_⟩
       refine GO_of_GL rfl ?_
       refine GL_callX (wn_none rfl) rfl rfl (eye_field ge _ (rc.drop 6) wb _ (mod_g hm0 hg0 hp.mod) hg0 (hp.get 2 rfl) hnm) rfl (fun ch w' q => by obtain ⟨rfl, ht, hk⟩ := q; have hp := hp.turnAtMore 2 rfl hk; first | exact ⟨3, .inl rfl, rfl, by rw [hD, ht]; rfl, hp.mods⟩ | exact fun _ => ⟨3, .inl rfl, rfl, by rw [hD, ht]; rfl, hp.mods⟩) ?_
       rintro _ w ⟨An, cn, nvn, xn, rn, rfl, hfn, hsn, hnn, hk⟩
       have hp := hp.turnAt 2 rfl hk
       have hbn := fdL_len hfn
       have hD : decB L = (tkL 1 rn).bind (dec5 xc (getL (rc.take 6)) xn) := by rw [hD, hfn]; rfl
       have hpS8 := (hp.sub (.cons _ (.cons_cons _ (.cons _ .slnil))))
       refine GL_nil ⟨fun _ => hpS8, ?_⟩
       refine GO_rd rfl rfl (wn_none rfl) rfl hpS8 (fun w hp => (rd_toStr rfl rfl Tryz.underlying35 Tryz.underlying9 Tryz.underlying5 (hsn.keep (mod_g hm0 hg0 hp.mod)))) ?_
       refine GO_rd rfl rfl (wn_none rfl) rfl hpS8 (fun w hp => (rd_buildS (L := [.string ⟨xc.toArray⟩, .int .i64 (getL (rc.take 6) : Int), .string ⟨xn.toArray⟩, .slice none 0 0, .slice none 0 0]) rfl tz28 pl28 (by kernel_rfl))) ?_
       refine GO_of_GL rfl ?_
       refine GL_store (i := 0) (wn_none rfl) rfl rfl rfl rfl ts28 rfl rfl (oneC rfl (oneC rfl (oneC rfl (oneC rfl (oneC rfl one0))))) hp rfl (by first | exact Nat.le_of_ble_eq_true rfl | simp [bys_length, *]) rfl ?_
       intro w hp
       refine GL_nil ⟨fun h => absurd h (by decide), ?_⟩
       refine GO_nil ?_
       have hp := ((((hp.front 2 rfl).front 2 rfl).front 2 rfl).take 3)
       exact ⟨g3, xc, getL (rc.take 6), xn, rn, nvn, _, slots3 rfl rfl rfl, hp, hbc, hbn, hnn, hD⟩
     ·skip
      refine GC_of_GL ?_
      refine GL_alloc (wn_none rfl) rfl rfl tz28 rfl hp ?_
      intro g4 w hp
      have hpS9 := (hp.sub (.cons _ (.cons_cons _ (.cons _ .slnil))))
      refine GL_nil ⟨fun _ => hpS9, ?_⟩
      refine GO_of_GL rfl ?_
      refine GL_call (wn_none rfl) rfl rfl (word_Get _ _ _ _ (hsm.keep (mod_g hm0 hg0 hp.mod))) rfl ?_
      rintro _ w ⟨rfl, hk⟩
      have hp := hp.comp hk
      rw [show (rc.take 6).take 8 = rc.take 6 from List.take_of_length_le (by rw [List.length_take]; omega)]
      have hpS10 := (hp.sub (.cons _ (.cons_cons _ (.cons _ .slnil))))
      refine GL_nil ⟨fun _ => hpS10, ?_⟩
      refine GO_rd rfl rfl (wn_none rfl) rfl hpS10 (fun w hp => (rd_convE (q := ((getL (rc.take 6) : Nat) : Int)) rfl rfl Tryz.underlying3 Tryz.underlying62 (by simp) (i64_nat (by omega)))) ?_
      refine GO_of_GL rfl ?_
      refine GL_callX (wn_none rfl) rfl rfl (eye_field ge _ (rc.drop 6) wb _ (mod_g hm0 hg0 hp.mod) hg0 (hp.get 2 rfl) hnm) rfl (fun ch w' q => by obtain ⟨rfl, ht, hk⟩ := q; have hp := hp.turnAtMore 2 rfl hk; first | exact ⟨3, .inl rfl, rfl, by rw [hD, ht]; rfl, hp.mods⟩ | exact fun _ => ⟨3, .inl rfl, rfl, by rw [hD, ht]; rfl, hp.mods⟩) ?_
      rintro _ w ⟨An, cn, nvn, xn, rn, rfl, hfn, hsn, hnn, hk⟩
      have hp := hp.turnAt 2 rfl hk
      have hbn := fdL_len hfn
      have hD : decB L = (tkL 1 rn).bind (dec5 xc (getL (rc.take 6)) xn) := by rw [hD, hfn]; rfl
      have hpS11 := (hp.sub (.cons _ (.cons_cons _ (.cons _ .slnil))))
      refine GL_nil ⟨fun _ => hpS11, ?_⟩
      refine GO_rd rfl rfl (wn_none rfl) rfl hpS11 (fun w hp => (rd_toStr rfl rfl Tryz.underlying35 Tryz.underlying9 Tryz.underlying5 (hsn.keep (mod_g hm0 hg0 hp.mod)))) ?_
      refine GO_rd rfl rfl (wn_none rfl) rfl hpS11 (fun w hp => (rd_buildS (L := [.string ⟨xc.toArray⟩, .int .i64 (getL (rc.take 6) : Int), .string ⟨xn.toArray⟩, .slice none 0 0, .slice none 0 0]) rfl tz28 pl28 (by kernel_rfl))) ?_
      refine GO_of_GL rfl ?_
      refine GL_store (i := 0) (wn_none rfl) rfl rfl rfl rfl ts28 rfl rfl (oneC rfl (oneC rfl (oneC rfl (oneC rfl (oneC rfl one0))))) hp rfl (by first | exact Nat.le_of_ble_eq_true rfl | simp [bys_length, *]) rfl ?_
      intro w hp
      refine GL_nil ⟨fun h => absurd h (by decide), ?_⟩
      refine GO_nil ?_
      have hp := ((((hp.front 2 rfl).front 2 rfl).front 2 rfl).take 3)
      exact ⟨g4, xc, getL (rc.take 6), xn, rn, nvn, _, slots3 rfl rfl rfl, hp, hbc, hbn, hnn, hD⟩
    ·skip
     refine GC_of_GL ?_
     refine GL_alloc (wn_none rfl) rfl rfl tz28 rfl hp ?_
     intro g5 w hp
     have hpS12 := (hp.sub (.cons _ (.cons_cons _ (.cons _ .slnil))))
     refine GL_nil ⟨fun _ => hpS12, ?_⟩
     refine GO_of_GL rfl ?_
     refine GL_callX (wn_none rfl) rfl rfl (eye_take ge _ rc 6 wb _ (mod_g hm0 hg0 hp.mod) hg0 (hp.get 2 rfl) hnc (by decide)) rfl (fun ch w' q => by obtain ⟨rfl, ht, hk⟩ := q; have hp := hp.turnAtMore 2 rfl hk; first | exact ⟨3, .inl rfl, rfl, by rw [hD, tkL_no ht]; rfl, hp.mods⟩ | exact fun _ => ⟨3, .inl rfl, rfl, by rw [hD, tkL_no ht]; rfl, hp.mods⟩) ?_
     rintro _ w ⟨Am, cm, nvm, rfl, hlm, hsm, hnm, hk⟩
     have hp := hp.turnAt 2 rfl hk
     have hD : decB L = (fdL (rc.drop 6)).bind (dec4 xc (getL (rc.take 6))) := by rw [hD, tkL_yes hlm]; rfl
     have hgm := getL_lt (rc.take 6)
     rw [show (rc.take 6).length = 6 by rw [List.length_take]; omega, show (256 : Nat) ^ 6 = 281474976710656 from rfl] at hgm
     have hpS13 := (hp.sub (.cons _ (.cons_cons _ (.cons _ .slnil))))
     refine GL_nil ⟨fun _ => hpS13, ?_⟩
     refine GO_of_GL rfl ?_
     refine GL_call (wn_none rfl) rfl rfl (word_Get _ _ _ _ (hsm.keep (mod_g hm0 hg0 hp.mod))) rfl ?_
     rintro _ w ⟨rfl, hk⟩
     have hp := hp.comp hk
     rw [show (rc.take 6).take 8 = rc.take 6 from List.take_of_length_le (by rw [List.length_take]; omega)]
     have hpS14 := (hp.sub (.cons _ (.cons_cons _ (.cons _ .slnil))))
     refine GL_nil ⟨fun _ => hpS14, ?_⟩
     refine GO_rd rfl rfl (wn_none rfl) rfl hpS14 (fun w hp => (rd_convE (q := ((getL (rc.take 6) : Nat) : Int)) rfl rfl Tryz.underlying3 Tryz.underlying62 (by simp) (i64_nat (by omega)))) ?_
     refine GO_of_GL rfl ?_
     refine GL_callX (wn_none rfl) rfl rfl (eye_field ge _ (rc.drop 6) wb _ (mod_g hm0 hg0 hp.mod) hg0 (hp.get 2 rfl) hnm) rfl (fun ch w' q => by obtain ⟨rfl, ht, hk⟩ := q; have hp := hp.turnAtMore 2 rfl hk; first | exact ⟨3, .inl rfl, rfl, by rw [hD, ht]; rfl, hp.mods⟩ | exact fun _ => ⟨3, .inl rfl, rfl, by rw [hD, ht]; rfl, hp.mods⟩) ?_
     rintro _ w ⟨An, cn, nvn, xn, rn, rfl, hfn, hsn, hnn, hk⟩
     have hp := hp.turnAt 2 rfl hk
     have hbn := fdL_len hfn
     have hD : decB L = (tkL 1 rn).bind (dec5 xc (getL (rc.take 6)) xn) := by rw [hD, hfn]; rfl
     have hpS15 := (hp.sub (.cons _ (.cons_cons _ (.cons _ .slnil))))
     refine GL_nil ⟨fun _ => hpS15, ?_⟩
     refine GO_rd rfl rfl (wn_none rfl) rfl hpS15 (fun w hp => (rd_toStr rfl rfl Tryz.underlying35 Tryz.underlying9 Tryz.underlying5 (hsn.keep (mod_g hm0 hg0 hp.mod)))) ?_
     refine GO_rd rfl rfl (wn_none rfl) rfl hpS15 (fun w hp => (rd_buildS (L := [.string ⟨xc.toArray⟩, .int .i64 (getL (rc.take 6) : Int), .string ⟨xn.toArray⟩, .slice none 0 0, .slice none 0 0]) rfl tz28 pl28 (by kernel_rfl))) ?_
     refine GO_of_GL rfl ?_
     refine GL_store (i := 0) (wn_none rfl) rfl rfl rfl rfl ts28 rfl rfl (oneC rfl (oneC rfl (oneC rfl (oneC rfl (oneC rfl one0))))) hp rfl (by first | exact Nat.le_of_ble_eq_true rfl | simp [bys_length, *]) rfl ?_
     intro w hp
     refine GL_nil ⟨fun h => absurd h (by decide), ?_⟩
     refine GO_nil ?_
     have hp := ((((hp.front 2 rfl).front 2 rfl).front 2 rfl).take 3)
     exact ⟨g5, xc, getL (rc.take 6), xn, rn, nvn, _, slots3 rfl rfl rfl, hp, hbc, hbn, hnn, hD⟩
   ·skip
    refine GC_of_GL ?_
    refine GL_alloc (wn_none rfl) rfl rfl tz28 rfl hp ?_
    intro g6 w hp
    have hpS16 := (hp.sub (.cons _ (.cons_cons _ (.cons _ .slnil))))
    refine GL_nil ⟨fun _ => hpS16, ?_⟩
    refine GO_of_GL rfl ?_
    refine GL_callX (wn_none rfl) rfl rfl (eye_field ge _ (L.drop 4) wb _ (mod_g hm0 hg0 hp.mod) hg0 (hp.get 2 rfl) hnw) rfl (fun ch w' q => by obtain ⟨rfl, ht, hk⟩ := q; have hp := hp.turnAtMore 2 rfl hk; first | exact ⟨3, .inl rfl, rfl, by rw [hD, ht]; rfl, hp.mods⟩ | exact fun _ => ⟨3, .inl rfl, rfl, by rw [hD, ht]; rfl, hp.mods⟩) ?_
    rintro _ w ⟨Ac, cc, nvc, xc, rc, rfl, hfc, hsc, hnc, hk⟩
    have hp := hp.turnAt 2 rfl hk
    have hbc := fdL_len hfc
    have hD : decB L = (tkL 6 rc).bind (dec3 xc) := by rw [hD, hfc]; rfl
    have hpS17 := (hp.sub (.cons _ (.cons_cons _ (.cons _ .slnil))))
    refine GL_nil ⟨fun _ => hpS17, ?_⟩
    refine GO_rd rfl rfl (wn_none rfl) rfl hpS17 (fun w hp => (rd_toStr rfl rfl Tryz.underlying35 Tryz.underlying9 Tryz.underlying5 (hsc.keep (mod_g hm0 hg0 hp.mod)))) ?_
    refine GO_of_GL rfl ?_
    refine GL_callX (wn_none rfl) rfl rfl (eye_take ge _ rc 6 wb _ (mod_g hm0 hg0 hp.mod) hg0 (hp.get 2 rfl) hnc (by decide)) rfl (fun ch w' q => by obtain ⟨rfl, ht, hk⟩ := q; have hp := hp.turnAtMore 2 rfl hk; first | exact ⟨3, .inl rfl, rfl, by rw [hD, tkL_no ht]; rfl, hp.mods⟩ | exact fun _ => ⟨3, .inl rfl, rfl, by rw [hD, tkL_no ht]; rfl, hp.mods⟩) ?_
    rintro _ w ⟨Am, cm, nvm, rfl, hlm, hsm, hnm, hk⟩
    have hp := hp.turnAt 2 rfl hk
    have hD : decB L = (fdL (rc.drop 6)).bind (dec4 xc (getL (rc.take 6))) := by rw [hD, tkL_yes hlm]; rfl
    have hgm := getL_lt (rc.take 6)
    rw [show (rc.take 6).length = 6 by rw [List.length_take]; omega, show (256 : Nat) ^ 6 = 281474976710656 from rfl] at hgm
    have hpS18 := (hp.sub (.cons _ (.cons_cons _ (.cons _ .slnil))))
    refine GL_nil ⟨fun _ => hpS18, ?_⟩
    refine GO_of_GL rfl ?_
    refine GL_call (wn_none rfl) rfl rfl (word_Get _ _ _ _ (hsm.keep (mod_g hm0 hg0 hp.mod))) rfl ?_
    rintro _ w ⟨rfl, hk⟩
    have hp := hp.comp hk
    rw [show (rc.take 6).take 8 = rc.take 6 from List.take_of_length_le (by rw [List.length_take]; omega)]
    have hpS19 := (hp.sub (.cons _ (.cons_cons _ (.cons _ .slnil))))
    refine GL_nil ⟨fun _ => hpS19, ?_⟩
    refine GO_rd rfl rfl (wn_none rfl) rfl hpS19 (fun w hp => (rd_convE (q := ((getL (rc.take 6) : Nat) : Int)) rfl rfl Tryz.underlying3 Tryz.underlying62 (by simp) (i64_nat (by omega)))) ?_
    refine GO_of_GL rfl ?_
    refine GL_callX (wn_none rfl) rfl rfl (eye_field ge _ (rc.drop 6) wb _ (mod_g hm0 hg0 hp.mod) hg0 (hp.get 2 rfl) hnm) rfl (fun ch w' q => by obtain ⟨rfl, ht, hk⟩ := q; have hp := hp.turnAtMore 2 rfl hk; first | exact ⟨3, .inl rfl, rfl, by rw [hD, ht]; rfl, hp.mods⟩ | exact fun _ => ⟨3, .inl rfl, rfl, by rw [hD, ht]; rfl, hp.mods⟩) ?_
    rintro _ w ⟨An, cn, nvn, xn, rn, rfl, hfn, hsn, hnn, hk⟩
    have hp := hp.turnAt 2 rfl hk
    have hbn := fdL_len hfn
    have hD : decB L = (tkL 1 rn).bind (dec5 xc (getL (rc.take 6)) xn) := by rw [hD, hfn]; rfl
    have hpS20 := (hp.sub (.cons _ (.cons_cons _ (.cons _ .slnil))))
    refine GL_nil ⟨fun _ => hpS20, ?_⟩
    refine GO_rd rfl rfl (wn_none rfl) rfl hpS20 (fun w hp => (rd_toStr rfl rfl Tryz.underlying35 Tryz.underlying9 Tryz.underlying5 (hsn.keep (mod_g hm0 hg0 hp.mod)))) ?_
    refine GO_rd rfl rfl (wn_none rfl) rfl hpS20 (fun w hp => (rd_buildS (L := [.string ⟨xc.toArray⟩, .int .i64 (getL (rc.take 6) : Int), .string ⟨xn.toArray⟩, .slice none 0 0, .slice none 0 0]) rfl tz28 pl28 (by kernel_rfl))) ?_
    refine GO_of_GL rfl ?_
    refine GL_store (i := 0) (wn_none rfl) rfl rfl rfl rfl ts28 rfl rfl (oneC rfl (oneC rfl (oneC rfl (oneC rfl (oneC rfl one0))))) hp rfl (by first | exact Nat.le_of_ble_eq_true rfl | simp [bys_length, *]) rfl ?_
    intro w hp
    refine GL_nil ⟨fun h => absurd h (by decide), ?_⟩
    refine GO_nil ?_
    have hp := ((((hp.front 2 rfl).front 2 rfl).front 2 rfl).take 3)
    exact ⟨g6, xc, getL (rc.take 6), xn, rn, nvn, _, slots3 rfl rfl rfl, hp, hbc, hbn, hnn, hD⟩
  ·rintro f w ⟨g2, xc, mm, xn, rn, nvn, fz, rfl, hp, hbc, hbn, hnn, hD⟩
   refine GW_seq ?_
   refine GW_seq ?_
   refine GW_region ?_
   refine GL_rd (v := .pointer (some ⟨_, _, none⟩)) (wn_none rfl) rfl (rd_move rfl rfl) ?_
   refine GL_callX (wn_none rfl) rfl rfl (eye_take ge _ rn 1 wb _ (mod_g hm0 hg0 hp.mod) hg0 (hp.get 2 rfl) hnn (by decide)) rfl (fun ch w' q => by obtain ⟨rfl, ht, hk⟩ := q; have hp := hp.turnAtMore 2 rfl hk; first | exact ⟨3, .inl rfl, rfl, by rw [hD, tkL_no ht]; rfl, hp.mods⟩ | exact fun _ => ⟨3, .inl rfl, rfl, by rw [hD, tkL_no ht]; rfl, hp.mods⟩) ?_
   rintro _ w ⟨Ak, ck, nvk, rfl, hlk, hsk, hnk, hk⟩
   have hp := hp.turnAt 2 rfl hk
   have h1k : (rn.take 1).length = 1 := by rw [List.length_take]; omega
   have hD : decB L = (repL fdL ((rn.take 1).getD 0 0).toNat (rn.drop 1)).bind (dec6 xc mm xn) := by rw [hD, tkL_yes hlk, ← get_one1 h1k]; rfl
   obtain ⟨gk, bk, rfl⟩ := hsk.addr (by rw [bys_length, h1k]; omega)
   refine GL_rd (wn_none rfl) rfl (rd_indexS (j := 0) rfl rfl rfl Tryz.underlying35 ts5 rfl (by omega) _ rfl) ?_
   refine GL_rd (wn_none rfl) rfl (rd_load rfl rfl Tryz.underlying5 rfl (Sl.byte (hsk.keep (mod_g hm0 hg0 hp.mod)) 0 (by omega))) ?_
   obtain ⟨kk, hkk⟩ : ∃ kk, (rn.take 1).getD 0 0 = kk := ⟨_, rfl⟩
   rw [hkk] at hD ⊢
   have hkl := kk.toNat_lt
   refine GL_rd (wn_none rfl) rfl (rd_conv8 .i64 rfl rfl Tryz.underlying3 Tryz.underlying5 (by simp)) ?_
   refine GL_rd (v := .int _ _) (wn_none rfl) rfl (rd_move rfl rfl) ?_
   refine GL_nil ?_
   refine GW_block ?_
   refine GW_loop ?_
   refine Lp_ind (α := Nat × Value × Value × List UInt8 × List (Value × List UInt8)) (fun a_0 f_0 w' => match a_0 with | (i, tv, nv, r, Lt) => ∃ fz, f_0 = (upd (upd (upd (upd (upd fz 30 (.int .i64 (i : Int))) 29 (.int .i64 (kk.toNat : Int))) 0 (.pointer (some ⟨ge, 0, none⟩))) 2 (.pointer (some ⟨g, 0, none⟩))) 3 (.pointer (some ⟨g2, 0, none⟩))) ∧ Hp w0 [ge] w' [.row 35 1 tv i (Lt.map Prod.fst), packL (rowsZ 5 Lt), cells g2 28 [.string ⟨xc.toArray⟩, .int .i64 (mm : Int), .string ⟨xn.toArray⟩, tv, .slice none 0 0], cells g 28 [.string ⟨#[]⟩, .int .i64 0, .string ⟨#[]⟩, .slice none 0 0, .slice none 0 0], cells ge 73 [nv]] ∧ (i ≤ kk.toNat) ∧ (Lt.length = i) ∧ (Sl wb nv 1 r.length (bys r)) ∧ (repL fdL i (rn.drop 1) = some (Lt.map Prod.snd, r)) ∧ (∀ x ∈ Lt, x.2.length ≤ 65535)) (fun a_0 => match a_0 with | (i, tv, nv, r, Lt) => kk.toNat - i) ?_ (0, .slice none 0 0, nvk, rn.drop 1, []) _ _ ?_
   ·rintro ⟨i, tv, nv, r, Lt⟩ f wz ⟨fz, rfl, hp, hi0, hLt, hn, hR, hLb⟩ ihL0
    refine Lp_round ?_
    refine GW_seq ?_
    refine GW_region ?_
    refine GL_rd (wn_none rfl) rfl (rd_bin rfl rfl rfl bo_lss) ?_
    refine GL_nil ?_
    refine GW_seq ?_
    refine GW_cond rfl (fun hb2 => ?_) (fun hb2 => ?_)
    ·(try simp only [decide_eq_true_eq, decide_eq_false_iff_not, Bool.not_eq_true', Bool.not_eq_false', Bool.not_eq_eq_eq_not, Bool.not_true, Bool.not_false, Int.not_lt, Int.not_le] at hb2)
     have hik : i < kk.toNat := by have := hb2; omega
     refine GW_skip ?_
     refine GW_seq ?_
     refine GW_block ?_
     refine GW_drawnK 9 (.one 0 true (.one 1 true (.one 3 true (.two 2 4 (.one 4 false (.one 5 false (.one 6 false (.one 7 false (.one 8 true (.one 9 false .nil)))))) (.one 2 false (.one 5 false (.one 6 false (.one 7 false (.one 8 true (.one 9 false .nil)))))))))) mixed (by kernel_rfl) hp (fun _ h => (h.sub (.cons _ (.cons _ (.cons_cons _ (.cons_cons _ (.cons _ .slnil))))))) fun w hp => ?_
     have hpS21 := (hp.sub (.cons _ (.cons _ (.cons_cons _ (.cons_cons _ (.cons _ .slnil))))))
     refine GO_rdT rfl (wn_none rfl) rfl (fun w => (rd_field rfl rfl fa28_3 _ rfl)) ?_
     refine GO_rd rfl rfl (wn_none rfl) rfl hpS21 (fun w hp => (rd_load rfl rfl Tryz.underlying22 rfl ((cell_of_cells (hp.get 0 rfl) _).trans rfl))) ?_
     refine GO_rdT (v := .pointer (some ⟨_, _, none⟩)) rfl (wn_none rfl) rfl (fun w => (rd_move rfl rfl)) ?_
     refine GO_two rfl rfl ?_ ?_
     ·skip
      refine GC_of_GL ?_
      refine GL_lit (L := []) (wn_none rfl) rfl rfl Tryz.underlying35 ts5 tz5 rfl (by kernel_rfl) rfl rfl hp ?_
      intro g7 w hp
      have hpS22 := (hp.sub (.cons _ (.cons _ (.cons _ (.cons_cons _ (.cons_cons _ (.cons _ .slnil)))))))
      refine GL_nil ⟨fun _ => hpS22, ?_⟩
      refine GO_of_GL rfl ?_
      refine GL_callX (wn_none rfl) rfl rfl (eye_field ge _ r wb _ (mod_g hm0 hg0 hp.mod) hg0 (hp.get 5 rfl) hn) rfl (fun ch w' q => by obtain ⟨rfl, ht, hk⟩ := q; have hp := hp.turnAtMore 5 rfl hk; first | exact ⟨3, .inl rfl, rfl, by rw [hD, repL_stop (by omega) hR ht]; rfl, hp.mods⟩ | exact fun _ => ⟨3, .inl rfl, rfl, by rw [hD, repL_stop (by omega) hR ht]; rfl, hp.mods⟩) ?_
      rintro _ w ⟨At, ct, nvt, xt, rt, rfl, hft, hst, hnt, hk⟩
      have hp := hp.turnAt 5 rfl hk
      have hbt := fdL_len hft
      have hpS23 := (hp.sub (.cons _ (.cons _ (.cons _ (.cons_cons _ (.cons_cons _ (.cons _ .slnil)))))))
      refine GL_nil ⟨fun _ => hpS23, ?_⟩
      refine GO_of_GL rfl ?_
      refine GL_append (i := 0) (wn_none rfl) rfl rfl rfl rfl Tryz.underlying35 ti5 rfl (by decide) hp rfl (hst.keep (mod_g hm0 hg0 hp.mod)) (bys_one _) (by omega) (by omega) ?_
      intro v w hp
      obtain ⟨Av, cv, rfl⟩ := row_shape (hp.get 0 rfl)
      rw [Nat.zero_add xt.length] at hp ⊢
      rw [List.nil_append] at hp
      have hpS24 := (hp.sub (.cons _ (.cons _ (.cons _ (.cons_cons _ (.cons_cons _ (.cons _ .slnil)))))))
      refine GL_nil ⟨fun _ => hpS24, ?_⟩
      refine GO_of_GL rfl ?_
      refine GL_lit (L := [.slice Av xt.length cv]) (wn_none rfl) rfl rfl Tryz.underlying22 ts35 tz35 rfl (by kernel_rfl) rfl rfl hp ?_
      intro g8 w hp
      have hpS25 := (hp.sub (.cons _ (.cons _ (.cons _ (.cons _ (.cons_cons _ (.cons_cons _ (.cons _ .slnil))))))))
      refine GL_nil ⟨fun _ => hpS25, ?_⟩
      refine GO_of_GL rfl ?_
      refine GL_append (i := 2) (wn_none rfl) rfl rfl rfl rfl Tryz.underlying22 ti35 rfl (by decide) hp rfl (Sl.row (hp.get 0 rfl)) (one1 rfl) (by omega) (by omega) ?_
      intro v2 w hp
      obtain ⟨Av2, cv2, rfl⟩ := row_shape (hp.get 2 rfl)
      have hpS26 := (hp.sub (.cons _ (.cons _ (.cons _ (.cons _ (.cons_cons _ (.cons_cons _ (.cons _ .slnil))))))))
      refine GL_nil ⟨fun _ => hpS26, ?_⟩
      refine GO_rdT rfl (wn_none rfl) rfl (fun w => (rd_field rfl rfl fa28_3 _ rfl)) ?_
      refine GO_of_GL rfl ?_
      refine GL_store (i := 4) (wn_none rfl) rfl rfl rfl rfl ts22 rfl rfl (one1 rfl) hp rfl (by first | exact Nat.le_of_ble_eq_true rfl | simp [bys_length, *]) rfl ?_
      intro w hp
      refine GL_nil ⟨fun h => absurd h (by decide), ?_⟩
      refine GO_nil ?_
      refine GW_region ?_
      refine GL_rd (wn_none rfl) rfl (rd_bin rfl rfl rfl (bo_add64 (by omega))) ?_
      refine GL_rd (v := .int _ _) (wn_none rfl) rfl (rd_move rfl rfl) ?_
      refine GL_nil ?_
      have hp := (((((((hp.front 6 rfl).front 6 rfl).front 6 rfl).front 5 rfl).front 6 rfl).front 6 rfl).take 6)
      have hp := hp.rowsZ_in
      have hp := hp.front 1 rfl
      have hp := hp.cast (show _ = [.row 35 1 (.slice Av2 (i + 1) cv2) (i + 1) ((Lt ++ [(Value.slice Av xt.length cv, xt)]).map Prod.fst), packL (rowsZ 5 (Lt ++ [(Value.slice Av xt.length cv, xt)])), cells g2 28 [.string ⟨xc.toArray⟩, .int .i64 (mm : Int), .string ⟨xn.toArray⟩, (.slice Av2 (i + 1) cv2), .slice none 0 0], cells g 28 [.string ⟨#[]⟩, .int .i64 0, .string ⟨#[]⟩, .slice none 0 0, .slice none 0 0], cells ge 73 [nvt]] by rw [List.map_append]; rfl)
      exact ihL0 (i + 1, _, nvt, rt, Lt ++ [(Value.slice Av xt.length cv, xt)]) _ _ (by simp only []; omega) ⟨_, slots5 rfl rfl rfl rfl rfl, hp, by omega, by rw [List.length_append, hLt]; rfl, hnt, by rw [List.map_append]; exact repL_next hR hft, fun x hx => by rcases List.mem_append.1 hx with h | h; exact hLb x h; rw [List.mem_singleton.1 h]; exact hbt⟩
     ·skip
      refine GC_of_GL ?_
      refine GL_callX (wn_none rfl) rfl rfl (eye_field ge _ r wb _ (mod_g hm0 hg0 hp.mod) hg0 (hp.get 4 rfl) hn) rfl (fun ch w' q => by obtain ⟨rfl, ht, hk⟩ := q; have hp := hp.turnAtMore 4 rfl hk; first | exact ⟨3, .inl rfl, rfl, by rw [hD, repL_stop (by omega) hR ht]; rfl, hp.mods⟩ | exact fun _ => ⟨3, .inl rfl, rfl, by rw [hD, repL_stop (by omega) hR ht]; rfl, hp.mods⟩) ?_
      rintro _ w ⟨At, ct, nvt, xt, rt, rfl, hft, hst, hnt, hk⟩
      have hp := hp.turnAt 4 rfl hk
      have hbt := fdL_len hft
      have hpS27 := (hp.sub (.cons _ (.cons _ (.cons_cons _ (.cons_cons _ (.cons _ .slnil))))))
      refine GL_nil ⟨fun _ => hpS27, ?_⟩
      refine GO_of_GL rfl ?_
      refine GL_lit (L := []) (wn_none rfl) rfl rfl Tryz.underlying35 ts5 tz5 rfl (by kernel_rfl) rfl rfl hp ?_
      intro g9 w hp
      have hpS28 := (hp.sub (.cons _ (.cons _ (.cons _ (.cons_cons _ (.cons_cons _ (.cons _ .slnil)))))))
      refine GL_nil ⟨fun _ => hpS28, ?_⟩
      refine GO_of_GL rfl ?_
      refine GL_append (i := 0) (wn_none rfl) rfl rfl rfl rfl Tryz.underlying35 ti5 rfl (by decide) hp rfl (hst.keep (mod_g hm0 hg0 hp.mod)) (bys_one _) (by omega) (by omega) ?_
      intro v3 w hp
      obtain ⟨Av3, cv3, rfl⟩ := row_shape (hp.get 0 rfl)
      rw [Nat.zero_add xt.length] at hp ⊢
      rw [List.nil_append] at hp
      have hpS29 := (hp.sub (.cons _ (.cons _ (.cons _ (.cons_cons _ (.cons_cons _ (.cons _ .slnil)))))))
      refine GL_nil ⟨fun _ => hpS29, ?_⟩
      refine GO_of_GL rfl ?_
      refine GL_lit (L := [.slice Av3 xt.length cv3]) (wn_none rfl) rfl rfl Tryz.underlying22 ts35 tz35 rfl (by kernel_rfl) rfl rfl hp ?_
      intro g10 w hp
      have hpS30 := (hp.sub (.cons _ (.cons _ (.cons _ (.cons _ (.cons_cons _ (.cons_cons _ (.cons _ .slnil))))))))
      refine GL_nil ⟨fun _ => hpS30, ?_⟩
      refine GO_of_GL rfl ?_
      refine GL_append (i := 2) (wn_none rfl) rfl rfl rfl rfl Tryz.underlying22 ti35 rfl (by decide) hp rfl (Sl.row (hp.get 0 rfl)) (one1 rfl) (by omega) (by omega) ?_
      intro v4 w hp
      obtain ⟨Av4, cv4, rfl⟩ := row_shape (hp.get 2 rfl)
      have hpS31 := (hp.sub (.cons _ (.cons _ (.cons _ (.cons _ (.cons_cons _ (.cons_cons _ (.cons _ .slnil))))))))
      refine GL_nil ⟨fun _ => hpS31, ?_⟩
      refine GO_rdT rfl (wn_none rfl) rfl (fun w => (rd_field rfl rfl fa28_3 _ rfl)) ?_
      refine GO_of_GL rfl ?_
      refine GL_store (i := 4) (wn_none rfl) rfl rfl rfl rfl ts22 rfl rfl (one1 rfl) hp rfl (by first | exact Nat.le_of_ble_eq_true rfl | simp [bys_length, *]) rfl ?_
      intro w hp
      refine GL_nil ⟨fun h => absurd h (by decide), ?_⟩
      refine GO_nil ?_
      refine GW_region ?_
      refine GL_rd (wn_none rfl) rfl (rd_bin rfl rfl rfl (bo_add64 (by omega))) ?_
      refine GL_rd (v := .int _ _) (wn_none rfl) rfl (rd_move rfl rfl) ?_
      refine GL_nil ?_
      have hp := (((((((hp.front 6 rfl).front 6 rfl).front 6 rfl).front 5 rfl).front 6 rfl).front 6 rfl).take 6)
      have hp := hp.rowsZ_in
      have hp := hp.front 1 rfl
      have hp := hp.cast (show _ = [.row 35 1 (.slice Av4 (i + 1) cv4) (i + 1) ((Lt ++ [(Value.slice Av3 xt.length cv3, xt)]).map Prod.fst), packL (rowsZ 5 (Lt ++ [(Value.slice Av3 xt.length cv3, xt)])), cells g2 28 [.string ⟨xc.toArray⟩, .int .i64 (mm : Int), .string ⟨xn.toArray⟩, (.slice Av4 (i + 1) cv4), .slice none 0 0], cells g 28 [.string ⟨#[]⟩, .int .i64 0, .string ⟨#[]⟩, .slice none 0 0, .slice none 0 0], cells ge 73 [nvt]] by rw [List.map_append]; rfl)
      exact ihL0 (i + 1, _, nvt, rt, Lt ++ [(Value.slice Av3 xt.length cv3, xt)]) _ _ (by simp only []; omega) ⟨_, slots5 rfl rfl rfl rfl rfl, hp, by omega, by rw [List.length_append, hLt]; rfl, hnt, by rw [List.map_append]; exact repL_next hR hft, fun x hx => by rcases List.mem_append.1 hx with h | h; exact hLb x h; rw [List.mem_singleton.1 h]; exact hbt⟩
    ·(try simp only [decide_eq_true_eq, decide_eq_false_iff_not, Bool.not_eq_true', Bool.not_eq_false', Bool.not_eq_eq_eq_not, Bool.not_true, Bool.not_false, Int.not_lt, Int.not_le] at hb2)
     have hik : i = kk.toNat := by have := hb2; omega
     rw [← hik, hR] at hD
     have hD : decB L = (tkL 1 r).bind (dec7 xc mm xn (Lt.map Prod.snd)) := hD
     refine GW_exit ?_
     refine GW_seq ?_
     refine GW_seq ?_
     refine GW_region ?_
     refine GL_rd (v := .pointer (some ⟨_, _, none⟩)) (wn_none rfl) rfl (rd_move rfl rfl) ?_
     refine GL_callX (wn_none rfl) rfl rfl (eye_take ge _ r 1 wb _ (mod_g hm0 hg0 hp.mod) hg0 (hp.get 4 rfl) hn (by decide)) rfl (fun ch w' q => by obtain ⟨rfl, ht, hk⟩ := q; have hp := hp.turnAtMore 4 rfl hk; first | exact ⟨3, .inl rfl, rfl, by rw [hD, tkL_no ht]; rfl, hp.mods⟩ | exact fun _ => ⟨3, .inl rfl, rfl, by rw [hD, tkL_no ht]; rfl, hp.mods⟩) ?_
     rintro _ w ⟨Aq, cq, nvq, rfl, hlq, hsq, hnq, hk⟩
     have hp := hp.turnAt 4 rfl hk
     have h1q : (r.take 1).length = 1 := by rw [List.length_take]; omega
     have hD : decB L = (repL rcL ((r.take 1).getD 0 0).toNat (r.drop 1)).bind (dec8 xc mm xn (Lt.map Prod.snd)) := by rw [hD, tkL_yes hlq, ← get_one1 h1q]; rfl
     obtain ⟨gq, bq, rfl⟩ := hsq.addr (by rw [bys_length, h1q]; omega)
     refine GL_rd (wn_none rfl) rfl (rd_indexS (j := 0) rfl rfl rfl Tryz.underlying35 ts5 rfl (by omega) _ rfl) ?_
     refine GL_rd (wn_none rfl) rfl (rd_load rfl rfl Tryz.underlying5 rfl (Sl.byte (hsq.keep (mod_g hm0 hg0 hp.mod)) 0 (by omega))) ?_
     obtain ⟨qq, hqq⟩ : ∃ qq, (r.take 1).getD 0 0 = qq := ⟨_, rfl⟩
     rw [hqq] at hD ⊢
     have hql := qq.toNat_lt
     refine GL_rd (wn_none rfl) rfl (rd_conv8 .i64 rfl rfl Tryz.underlying3 Tryz.underlying5 (by simp)) ?_
     refine GL_rd (v := .int _ _) (wn_none rfl) rfl (rd_move rfl rfl) ?_
     refine GL_nil ?_
     refine GW_block ?_
     refine GW_loop ?_
     refine Lp_ind (α := Nat × Value × Value × List UInt8 × List Rec) (fun a_0 f_0 w' => match a_0 with | (j, av, nv, s, La) => ∃ fz, f_0 = (upd (upd (upd (upd (upd fz 47 (.int .i64 (j : Int))) 46 (.int .i64 (qq.toNat : Int))) 0 (.pointer (some ⟨ge, 0, none⟩))) 2 (.pointer (some ⟨g, 0, none⟩))) 3 (.pointer (some ⟨g2, 0, none⟩))) ∧ Hp w0 [ge] w' [.row 46 100 av j (La.flatMap recC), .row 35 1 tv i (Lt.map Prod.fst), packL (rowsZ 5 Lt), cells g2 28 [.string ⟨xc.toArray⟩, .int .i64 (mm : Int), .string ⟨xn.toArray⟩, tv, av], cells g 28 [.string ⟨#[]⟩, .int .i64 0, .string ⟨#[]⟩, .slice none 0 0, .slice none 0 0], cells ge 73 [nv]] ∧ (j ≤ qq.toNat) ∧ (La.length = j) ∧ (Sl wb nv 1 s.length (bys s)) ∧ (repL rcL j (r.drop 1) = some (La, s)) ∧ (∀ x ∈ La, x.actor.size ≤ 4294967296 ∧ x.reason.size ≤ 4294967296)) (fun a_0 => match a_0 with | (j, av, nv, s, La) => qq.toNat - j) ?_ (0, .slice none 0 0, nvq, r.drop 1, []) _ _ ?_
     ·rintro ⟨j, av, nv, s, La⟩ f wz ⟨fz, rfl, hp, hj0, hLa, hn, hR, hLs⟩ ihL1
      refine Lp_round ?_
      refine GW_seq ?_
      refine GW_region ?_
      refine GL_rd (wn_none rfl) rfl (rd_bin rfl rfl rfl bo_lss) ?_
      refine GL_nil ?_
      refine GW_seq ?_
      refine GW_cond rfl (fun hb3 => ?_) (fun hb3 => ?_)
      ·(try simp only [decide_eq_true_eq, decide_eq_false_iff_not, Bool.not_eq_true', Bool.not_eq_false', Bool.not_eq_eq_eq_not, Bool.not_true, Bool.not_false, Int.not_lt, Int.not_le] at hb3)
       have hjq : j < qq.toNat := by have := hb3; omega
       refine GW_skip ?_
       refine GW_seq ?_
       refine GW_block ?_
       refine GW_seq ?_
       refine GW_region ?_
       refine GL_rd (v := .pointer (some ⟨_, _, none⟩)) (wn_none rfl) rfl (rd_move rfl rfl) ?_
       refine GL_callX (wn_none rfl) rfl rfl (eye_take ge _ s 155 wb _ (mod_g hm0 hg0 hp.mod) hg0 (hp.get 5 rfl) hn (by decide)) rfl (fun ch w' q => by obtain ⟨rfl, ht, hk⟩ := q; have hp := hp.turnAtMore 5 rfl hk; first | exact ⟨3, .inl rfl, rfl, by rw [hD, repL_stop (by omega) hR (rcL_no1 ht)]; rfl, hp.mods⟩ | exact fun _ => ⟨3, .inl rfl, rfl, by rw [hD, repL_stop (by omega) hR (rcL_no1 ht)]; rfl, hp.mods⟩) ?_
       rintro _ w ⟨Aa, ca, nva, rfl, hla, hsa, hna, hk⟩
       have hp := hp.turnAt 5 rfl hk
       refine GL_call (wn_none rfl) rfl rfl (aud_Get _ 155 (s.take 155) _ (hsa.keep (mod_g hm0 hg0 hp.mod)) rfl) rfl ?_
       rintro _ w ⟨rfl, hk⟩
       have hp := hp.comp hk
       refine GL_rd (v := .tuple _) (wn_none rfl) rfl (rd_move rfl rfl) ?_
       refine GL_rd (v := .agg ⟨_⟩) (wn_none rfl) rfl (rd_extract rfl rfl rfl) ?_
       refine GL_rd (v := .int _ _) (wn_none rfl) rfl (rd_extract rfl rfl rfl) ?_
       refine GL_alloc (wn_none rfl) rfl rfl tz46 rfl hp ?_
       intro g11 w hp
       refine GL_store (i := 0) (wn_none rfl) rfl rfl rfl rfl ts46 rfl (recC_len _) (recC_one _) hp rfl (by first | exact Nat.le_of_ble_eq_true rfl | (rw [recC_len]; decide)) (splice_all _ _ (by first | rw [recC_len, recC_len] | (rw [recC_len]; rfl))) ?_
       intro w hp
       refine GL_rd (v := .int _ _) (wn_none rfl) rfl (rd_assign rfl rfl) ?_
       refine GL_nil ?_
       refine GW_seq ?_
       refine GW_seq ?_
       refine GW_region ?_
       refine GL_rd (v := .int _ _) (wn_none rfl) rfl (rd_move rfl rfl) ?_
       refine GL_rd (wn_none rfl) rfl (rd_bin rfl rfl rfl bo_neq) ?_
       refine GL_nil ?_
       refine GW_cond rfl (fun hb4 => ?_) (fun hb4 => ?_)
       ·(try simp only [decide_eq_true_eq, decide_eq_false_iff_not, Bool.not_eq_true', Bool.not_eq_false', Bool.not_eq_eq_eq_not, Bool.not_true, Bool.not_false, Int.not_lt, Int.not_le] at hb4)
        have hne : ¬ getE (s.take 155) = 0 := hb4
        refine GW_region ?_
        refine GL_callX (wn_none rfl) rfl rfl (trap_Throw 3 _) rfl (fun ch w' q => by obtain ⟨rfl, hk⟩ := q; have hp := hp.comp hk; first | exact ⟨3, .inl rfl, rfl, by rw [hD, repL_stop (by omega) hR (rcL_no2 hla hne)]; rfl, hp.mods⟩ | exact fun _ => ⟨3, .inl rfl, rfl, by rw [hD, repL_stop (by omega) hR (rcL_no2 hla hne)]; rfl, hp.mods⟩) ?_
        intro _ w q
        exact q.elim
       ·(try simp only [decide_eq_true_eq, decide_eq_false_iff_not, Bool.not_eq_true', Bool.not_eq_false', Bool.not_eq_eq_eq_not, Bool.not_true, Bool.not_false, Int.not_lt, Int.not_le] at hb4)
        have hgz : getE (s.take 155) = 0 := hb4
        refine GW_skip ?_
        refine GW_region ?_
        refine GL_rd (wn_none rfl) rfl (rd_field rfl rfl fa28_4 _ rfl) ?_
        refine GL_rd (wn_none rfl) rfl (rd_load rfl rfl Tryz.underlying23 rfl ((cell_of_cells (hp.get 4 rfl) _).trans rfl)) ?_
        refine GL_rd (wn_none rfl) rfl (rd_loadC rfl rfl Tryz.underlying46 rfl ts46 (hp.get 0 rfl) (recC_len _)) ?_
        refine GL_lit1 (L := _) (wn_none rfl) rfl rfl rfl rfl Tryz.underlying23 ts46 tz46 (by kernel_rfl) (recC_len _) hp ?_
        intro g12 w hp
        refine GL_append (i := 2) (wn_none rfl) rfl rfl rfl rfl Tryz.underlying23 ti46 rfl (by decide) hp rfl (Sl.row (hp.get 0 rfl)) (recC_one _) (by omega) (by omega) ?_
        intro v5 w hp
        obtain ⟨Av5, cv5, rfl⟩ := row_shape (hp.get 2 rfl)
        rw [flat_push] at hp
        refine GL_rd (wn_none rfl) rfl (rd_field rfl rfl fa28_4 _ rfl) ?_
        refine GL_store (i := 5) (wn_none rfl) rfl rfl rfl rfl ts23 rfl rfl (one1 rfl) hp rfl (by first | exact Nat.le_of_ble_eq_true rfl | simp [bys_length, *]) rfl ?_
        intro w hp
        refine GL_nil ?_
        refine GW_region ?_
        refine GL_rd (wn_none rfl) rfl (rd_bin rfl rfl rfl (bo_add64 (by omega))) ?_
        refine GL_rd (v := .int _ _) (wn_none rfl) rfl (rd_move rfl rfl) ?_
        refine GL_nil ?_
        have hp := (((((((hp.front 7 rfl).front 7 rfl).front 7 rfl).front 7 rfl).front 7 rfl).front 7 rfl).take 6)
        exact ihL1 (j + 1, _, nva, s.drop 155, La ++ [getR (s.take 155)]) _ _ (by simp only []; omega) ⟨_, slots5 rfl rfl rfl rfl rfl, hp, by omega, by rw [List.length_append, hLa]; rfl, hna, repL_next hR (rcL_yes hla hgz), fun x hx => by rcases List.mem_append.1 hx with h | h; exact hLs x h; rw [List.mem_singleton.1 h]; exact getR_small _⟩
      ·(try simp only [decide_eq_true_eq, decide_eq_false_iff_not, Bool.not_eq_true', Bool.not_eq_false', Bool.not_eq_eq_eq_not, Bool.not_true, Bool.not_false, Int.not_lt, Int.not_le] at hb3)
       have hjq : j = qq.toNat := by have := hb3; omega
       rw [← hjq, hR] at hD
       have hD : decB L = dec8 xc mm xn (Lt.map Prod.snd) (La, s) := hD
       have hBS : BuSm (⟨⟨xc.toArray⟩, (mm : Int), ⟨xn.toArray⟩, Lt, La⟩ : Bu) := ⟨hbc, hbn, by show Lt.length ≤ _; omega, hLb, by show La.length ≤ _; omega, hLs⟩
       refine GW_exit ?_
       refine GW_seq ?_
       refine GW_region ?_
       refine GL_rd (v := .pointer (some ⟨_, _, none⟩)) (wn_none rfl) rfl (rd_move rfl rfl) ?_
       refine GL_callX (wn_none rfl) rfl rfl (eye_take ge _ s 32 wb _ (mod_g hm0 hg0 hp.mod) hg0 (hp.get 5 rfl) hn (by decide)) rfl (fun ch w' q => by obtain ⟨rfl, ht, hk⟩ := q; have hp := hp.turnAtMore 5 rfl hk; first | exact ⟨3, .inl rfl, rfl, by rw [hD, dec8, tkL_no ht]; rfl, hp.mods⟩ | exact fun _ => ⟨3, .inl rfl, rfl, by rw [hD, dec8, tkL_no ht]; rfl, hp.mods⟩) ?_
       rintro _ w ⟨As, cs, nvs, rfl, hls, hss, hns, hk⟩
       have hp := hp.turnAt 5 rfl hk
       have h1s : (s.take 32).length = 32 := by rw [List.length_take]; omega
       have hD : decB L = decE xc mm xn (Lt.map Prod.snd) La (s.take 32, s.drop 32) := by rw [hD, dec8, tkL_yes hls]; rfl
       obtain ⟨Az, cz, rfl⟩ := sl_shape hns
       obtain ⟨gs, bs, rfl⟩ := hss.addr (by rw [bys_length, h1s]; omega)
       refine GL_rd (v := _) (wn_none rfl) rfl (rd_toArr rfl rfl Tryz.underlying30 (Nat.le_refl _)) ?_
       refine GL_rd (wn_none rfl) rfl (rd_loadN (L := bys (s.take 32)) rfl rfl Tryz.underlying30 rfl ts30 (by rw [bys_length]; exact h1s) (fun j u hj => (hss.keep (mod_g hm0 hg0 hp.mod)).get j u hj)) ?_
       refine GL_alloc (wn_none rfl) rfl rfl tz30 rfl hp ?_
       intro g13 w hp
       refine GL_store (i := 0) (wn_none rfl) rfl rfl rfl rfl ts30 rfl (by rw [bys_length]; exact h1s) (bys_one _) hp rfl (Nat.le_of_ble_eq_true rfl) (splice_all _ _ (by rw [bys_length]; exact h1s.trans rfl)) ?_
       intro w hp
       refine GL_nil ?_
       refine GW_seq ?_
       refine GW_seq ?_
       refine GW_region ?_
       refine GL_rd (wn_none rfl) rfl (rd_loadC rfl rfl Tryz.underlying28 rfl ts28 (hp.get 4 rfl) (by first | (rw [bys_length]; first | exact a32_len _) | rfl | simp [bys_length, *])) ?_
       have hBA : BuAt (⟨⟨xc.toArray⟩, (mm : Int), ⟨xn.toArray⟩, Lt, La⟩ : Bu) tv av _ := ⟨by rw [hLt]; exact Sl.row (hp.get 2 rfl), rowsZ_sl (hp.get 3 rfl), by rw [hLa]; exact Sl.row (hp.get 1 rfl)⟩
       refine GL_call (wn_none rfl) rfl rfl (bu_Seal (⟨⟨xc.toArray⟩, (mm : Int), ⟨xn.toArray⟩, Lt, La⟩ : Bu) tv av _ hBA hBS) rfl ?_
       rintro _ w ⟨rfl, hk⟩
       have hp := hp.comp hk
       refine GL_rd (v := .tuple _) (wn_none rfl) rfl (rd_move rfl rfl) ?_
       refine GL_rd (v := .agg ⟨_⟩) (wn_none rfl) rfl (rd_extract rfl rfl rfl) ?_
       refine GL_rd (v := .int _ _) (wn_none rfl) rfl (rd_extract rfl rfl rfl) ?_
       refine GL_alloc (wn_none rfl) rfl rfl tz30 rfl hp ?_
       intro g14 w hp
       refine GL_store (i := 0) (wn_none rfl) rfl rfl rfl rfl ts30 rfl (by rw [bys_length]; exact (buSeal _).2) (bys_one _) hp rfl (Nat.le_of_ble_eq_true rfl) (splice_all _ _ (by rw [bys_length]; exact (buSeal _).2.trans rfl)) ?_
       intro w hp
       refine GL_rd (v := .int _ _) (wn_none rfl) rfl (rd_assign rfl rfl) ?_
       refine GL_nil ?_
       refine GW_seq ?_
       refine GW_region ?_
       refine GL_rd (v := .int _ _) (wn_none rfl) rfl (rd_move rfl rfl) ?_
       refine GL_rd (wn_none rfl) rfl (rd_bin rfl rfl rfl bo_neq) ?_
       refine GL_rd (v := .bool _) (wn_none rfl) rfl (rd_move rfl rfl) ?_
       refine GL_split (t := 76) (b := _) rfl ?_ ?_
       ·intro hb5; (try simp only [decide_eq_true_eq, decide_eq_false_iff_not, Bool.not_eq_true', Bool.not_eq_false', Bool.not_eq_eq_eq_not, Bool.not_true, Bool.not_false, Int.not_lt, Int.not_le] at hb5)
        have hno : ¬ (buK (⟨⟨xc.toArray⟩, (mm : Int), ⟨xn.toArray⟩, Lt, La⟩ : Bu) = 0 ∧ (buSeal (⟨⟨xc.toArray⟩, (mm : Int), ⟨xn.toArray⟩, Lt, La⟩ : Bu)).1 = s.take 32 ∧ s.drop 32 = []) := fun q => hb5 q.1
        refine GL_pass (nw_off rfl rfl rfl rfl rfl) rfl ?_
        refine GL_pass (nw_off rfl rfl rfl rfl rfl) rfl ?_
        refine GL_pass (nw_off rfl rfl rfl rfl rfl) rfl ?_
        refine GL_rd (v := .bool _) (wn_none rfl) rfl (rd_pickT rfl rfl rfl) ?_
        refine GL_rd (v := .bool _) (wn_none rfl) rfl (rd_move rfl rfl) ?_
        refine GL_pass (nw_off rfl rfl rfl rfl rfl) rfl ?_
        refine GL_pass (nw_off rfl rfl rfl rfl rfl) rfl ?_
        refine GL_pass (nw_off rfl rfl rfl rfl rfl) rfl ?_
        refine GL_pass (nw_off rfl rfl rfl rfl rfl) rfl ?_
        refine GL_pass (nw_off rfl rfl rfl rfl rfl) rfl ?_
        refine GL_pass (nw_off rfl rfl rfl rfl rfl) rfl ?_
        refine GL_rd (v := .bool _) (wn_none rfl) rfl (rd_pickT rfl rfl rfl) ?_
        refine GL_nil ?_
        refine GW_true rfl ?_
        refine GW_region ?_
        refine GL_callX (wn_none rfl) rfl rfl (trap_Throw 5 _) rfl (fun ch w' q => by obtain ⟨rfl, hk⟩ := q; have hp := hp.comp hk; first | exact ⟨5, .inr rfl, rfl, by rw [hD]; exact decE_no (B := (⟨⟨xc.toArray⟩, (mm : Int), ⟨xn.toArray⟩, Lt, La⟩ : Bu)) rfl rfl rfl hno, hp.mods⟩ | exact fun _ => ⟨5, .inr rfl, rfl, by rw [hD]; exact decE_no (B := (⟨⟨xc.toArray⟩, (mm : Int), ⟨xn.toArray⟩, Lt, La⟩ : Bu)) rfl rfl rfl hno, hp.mods⟩) ?_
        intro _ w q
        exact q.elim
       ·intro hb5; (try simp only [decide_eq_true_eq, decide_eq_false_iff_not, Bool.not_eq_true', Bool.not_eq_false', Bool.not_eq_eq_eq_not, Bool.not_true, Bool.not_false, Int.not_lt, Int.not_le] at hb5)
        have hk0 := hb5
        refine GL_rd (wn_on rfl rfl rfl rfl) rfl (rd_loadC rfl rfl Tryz.underlying30 rfl ts30 (hp.get 1 rfl) (by first | (rw [bys_length]; first | exact a32_len _) | rfl | simp [bys_length, *])) ?_
        refine GL_rd (wn_on rfl rfl rfl rfl) rfl (rd_loadC rfl rfl Tryz.underlying30 rfl ts30 (hp.get 0 rfl) (by first | (rw [bys_length]; first | exact a32_len _) | rfl | simp [bys_length, *])) ?_
        refine GL_rd (wn_on rfl rfl rfl rfl) rfl (rd_bin rfl rfl rfl (bo_arrB Tryz.underlying30 Tryz.underlying5 ts5 (by kernel_rfl) h1s (buSeal _).2).2) ?_
        refine GL_rd (v := .bool _) (wn_none rfl) rfl (rd_pickF rfl rfl rfl) ?_
        refine GL_rd (v := .bool _) (wn_none rfl) rfl (rd_move rfl rfl) ?_
        refine GL_split (t := 81) (b := _) rfl ?_ ?_
        ·intro hb6; (try simp only [decide_eq_true_eq, decide_eq_false_iff_not, Bool.not_eq_true', Bool.not_eq_false', Bool.not_eq_eq_eq_not, Bool.not_true, Bool.not_false, Int.not_lt, Int.not_le] at hb6)
         have hno : ¬ (buK (⟨⟨xc.toArray⟩, (mm : Int), ⟨xn.toArray⟩, Lt, La⟩ : Bu) = 0 ∧ (buSeal (⟨⟨xc.toArray⟩, (mm : Int), ⟨xn.toArray⟩, Lt, La⟩ : Bu)).1 = s.take 32 ∧ s.drop 32 = []) := fun q => hb6 q.2.1.symm
         refine GL_pass (nw_off rfl rfl rfl rfl rfl) rfl ?_
         refine GL_pass (nw_off rfl rfl rfl rfl rfl) rfl ?_
         refine GL_pass (nw_off rfl rfl rfl rfl rfl) rfl ?_
         refine GL_pass (nw_off rfl rfl rfl rfl rfl) rfl ?_
         refine GL_pass (nw_off rfl rfl rfl rfl rfl) rfl ?_
         refine GL_pass (nw_off rfl rfl rfl rfl rfl) rfl ?_
         refine GL_rd (v := .bool _) (wn_none rfl) rfl (rd_pickT rfl rfl rfl) ?_
         refine GL_nil ?_
         refine GW_true rfl ?_
         refine GW_region ?_
         refine GL_callX (wn_none rfl) rfl rfl (trap_Throw 5 _) rfl (fun ch w' q => by obtain ⟨rfl, hk⟩ := q; have hp := hp.comp hk; first | exact ⟨5, .inr rfl, rfl, by rw [hD]; exact decE_no (B := (⟨⟨xc.toArray⟩, (mm : Int), ⟨xn.toArray⟩, Lt, La⟩ : Bu)) rfl rfl rfl hno, hp.mods⟩ | exact fun _ => ⟨5, .inr rfl, rfl, by rw [hD]; exact decE_no (B := (⟨⟨xc.toArray⟩, (mm : Int), ⟨xn.toArray⟩, Lt, La⟩ : Bu)) rfl rfl rfl hno, hp.mods⟩) ?_
         intro _ w q
         exact q.elim
        ·intro hb6; (try simp only [decide_eq_true_eq, decide_eq_false_iff_not, Bool.not_eq_true', Bool.not_eq_false', Bool.not_eq_eq_eq_not, Bool.not_true, Bool.not_false, Int.not_lt, Int.not_le] at hb6)
         have hs0 := hb6
         refine GL_rd (v := .pointer (some ⟨_, _, none⟩)) (wn_on rfl rfl rfl rfl) rfl (rd_move rfl rfl) ?_
         refine GL_rd (wn_on rfl rfl rfl rfl) rfl (rd_nilCheck rfl rfl) ?_
         refine GL_rd (wn_on rfl rfl rfl rfl) rfl (rd_field rfl rfl fa73_0 _ rfl) ?_
         refine GL_rd (v := .slice _ _ _) (wn_on rfl rfl rfl rfl) rfl (rd_load rfl rfl Tryz.underlying35 rfl ((cell_of_cells (hp.get 7 rfl) _).trans rfl)) ?_
         refine GL_rd (wn_on rfl rfl rfl rfl) rfl (rd_len rfl rfl Tryz.underlying35) ?_
         refine GL_rd (wn_on rfl rfl rfl rfl) rfl (rd_bin rfl rfl rfl bo_gtr) ?_
         refine GL_rd (v := .bool _) (wn_none rfl) rfl (rd_pickF rfl rfl rfl) ?_
         refine GL_nil ?_
         refine GW_cond rfl (fun hb7 => ?_) (fun hb7 => ?_)
         ·(try simp only [decide_eq_true_eq, decide_eq_false_iff_not, Bool.not_eq_true', Bool.not_eq_false', Bool.not_eq_eq_eq_not, Bool.not_true, Bool.not_false, Int.not_lt, Int.not_le] at hb7)
          have hno : ¬ (buK (⟨⟨xc.toArray⟩, (mm : Int), ⟨xn.toArray⟩, Lt, La⟩ : Bu) = 0 ∧ (buSeal (⟨⟨xc.toArray⟩, (mm : Int), ⟨xn.toArray⟩, Lt, La⟩ : Bu)).1 = s.take 32 ∧ s.drop 32 = []) := fun q => by have h := hb7; rw [q.2.2] at h; simp at h
          refine GW_region ?_
          refine GL_callX (wn_none rfl) rfl rfl (trap_Throw 5 _) rfl (fun ch w' q => by obtain ⟨rfl, hk⟩ := q; have hp := hp.comp hk; first | exact ⟨5, .inr rfl, rfl, by rw [hD]; exact decE_no (B := (⟨⟨xc.toArray⟩, (mm : Int), ⟨xn.toArray⟩, Lt, La⟩ : Bu)) rfl rfl rfl hno, hp.mods⟩ | exact fun _ => ⟨5, .inr rfl, rfl, by rw [hD]; exact decE_no (B := (⟨⟨xc.toArray⟩, (mm : Int), ⟨xn.toArray⟩, Lt, La⟩ : Bu)) rfl rfl rfl hno, hp.mods⟩) ?_
          intro _ w q
          exact q.elim
         ·(try simp only [decide_eq_true_eq, decide_eq_false_iff_not, Bool.not_eq_true', Bool.not_eq_false', Bool.not_eq_eq_eq_not, Bool.not_true, Bool.not_false, Int.not_lt, Int.not_le] at hb7)
          have hz : s.drop 32 = [] := List.eq_nil_of_length_eq_zero (by have h := hb7; omega)
          refine GW_skip ?_
          refine GW_seq ?_
          refine GW_region ?_
          refine GL_rd (wn_none rfl) rfl (rd_loadC rfl rfl Tryz.underlying28 rfl ts28 (hp.get 5 rfl) (by first | (rw [bys_length]; first | exact a32_len _) | rfl | simp [bys_length, *])) ?_
          refine GL_store (i := 6) (wn_none rfl) rfl rfl rfl rfl ts28 rfl rfl (oneC rfl (oneC rfl (oneC rfl (oneC (row_one (hp.get 3 rfl)) (oneC (row_one (hp.get 2 rfl)) one0))))) hp rfl (by first | exact Nat.le_of_ble_eq_true rfl | simp [bys_length, *]) rfl ?_
          intro w hp
          refine GL_nil ?_
          refine GW_ret ?_
          refine ⟨_, res1 Tryz.results42 (rv_cell rfl rfl Tryz.underlying28 rfl ts28 rfl (hp.get 6 rfl)), (⟨⟨xc.toArray⟩, (mm : Int), ⟨xn.toArray⟩, Lt, La⟩ : Bu), tv, av, rfl, by rw [hD]; exact decE_yes (B := (⟨⟨xc.toArray⟩, (mm : Int), ⟨xn.toArray⟩, Lt, La⟩ : Bu)) rfl rfl rfl hk0 hs0.symm hz, hBS, ?_⟩
          have hp := ((((hp.front 2 rfl).front 4 rfl).front 4 rfl).take 3)
          exact hp.cast (show _ = [.row 35 1 tv Lt.length (Lt.map Prod.fst), packL (rowsZ 5 Lt), .row 46 100 av La.length (La.flatMap recC)] by rw [hLt, hLa]; rfl)
     ·have hp := hp.nilRow 46 100
      have hp := (((((((hp.front 5 rfl).front 5 rfl).front 5 rfl).front 5 rfl).front 5 rfl).front 5 rfl).take 6)
      refine ⟨_, slots5 rfl rfl rfl rfl rfl, hp, Nat.zero_le _, rfl, hnq, rfl, fun x hx => by cases hx⟩
   ·have hp := hp.packNil
    have hp := hp.nilRow 35 1
    have hp := ((((((hp.front 4 rfl).front 4 rfl).front 4 rfl).front 4 rfl).front 4 rfl).take 5)
    refine ⟨_, slots5 rfl rfl rfl rfl rfl, hp, Nat.zero_le _, rfl, hnk, rfl, fun x hx => by cases hx⟩
end Go.Proofs.YtpagpmioopaciaaGreat
