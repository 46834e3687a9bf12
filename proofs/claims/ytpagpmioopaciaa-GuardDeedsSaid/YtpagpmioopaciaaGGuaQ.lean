/- The program's guard goes with the reference's: plain laws. -/
import Derived.Test.YtpagpmioopaciaaGGuaP
set_option linter.unusedVariables false
set_option linter.unusedSimpArgs false
namespace Go.Mo
open Go.RowKit
/-- The program's maps and the reference's lists say the same. -/
structure GuRel (RA : AL) (mk : MK) (PA : AL) (ct : CT) (R : List RO) (L : List HA) : Prop where
  srt : riseR R
  rns : ∀ s, s ∈ RA.map (·.1) ↔ s ∈ R.map (·.1)
  mks : ∀ x ∈ R, mk x.1 = ofBt x.2.2
  cts : ∀ s, ct s = (L.filter fun h => decide (h.1 = s)).map (·.2)
  pns : ∀ s, s ∈ PA.map (·.1) ↔ s ∈ L.map (·.1)
  nod : L.Nodup
  inR : ∀ h ∈ L, h.2 ∈ R.map (·.1)
section
variable {RA PA : AL} {mk : MK} {ct : CT} {R : List RO} {L : List HA} {cr cp : Nat}
theorem GuRel.nil : GuRel [] (fun _ => 0#32) [] (fun _ => []) [] [] := ⟨.nil, by simp, by simp, by simp, by simp, .nil, by simp⟩
theorem keys_len {A : AL} {c : Nat} {l : List ByteArray} (hA : AlOk A c) (hl : l.Nodup) (h : ∀ s, s ∈ A.map (·.1) ↔ s ∈ l) : A.length = l.length := by
  have := ((List.perm_ext_iff_of_nodup hA.keys hl).2 h).length_eq
  rwa [List.length_map] at this
theorem GuRel.rlen (h : GuRel RA mk PA ct R L) (hO : GuOk RA cr mk PA cp ct) : RA.length = R.length := by
  rw [keys_len hO.rok (rise_names h.srt) h.rns, List.length_map]
theorem GuRel.plen (h : GuRel RA mk PA ct R L) (hO : GuOk RA cr mk PA cp ct) : PA.length = (peoL L).length :=
  keys_len hO.pok (rise_nodup (peo_all L).2) fun s => by rw [h.pns, (peo_all L).1]
theorem GuRel.rno (h : GuRel RA mk PA ct R L) (s : ByteArray) : alG RA s = none ↔ roF R s < 0 := by
  rw [alG_none, h.rns]
  constructor
  · intro q; rw [roF_lt q]; decide
  · intro q hm
    obtain ⟨i, _, e, _⟩ := roF_ge hm
    omega
theorem GuRel.ctm (h : GuRel RA mk PA ct R L) (w s : ByteArray) : s ∈ ct w ↔ (w, s) ∈ L := by
  rw [h.cts, List.mem_map]
  constructor
  · rintro ⟨x, hx, rfl⟩
    obtain ⟨a, b⟩ := List.mem_filter.1 hx
    rw [← of_decide_eq_true b]; exact a
  · exact fun q => ⟨_, List.mem_filter.2 ⟨q, decide_eq_true rfl⟩, rfl⟩
theorem GuRel.hno (h : GuRel RA mk PA ct R L) (w s : ByteArray) : s ∈ ct w ↔ 0 ≤ haF L w s := by
  rw [h.ctm]
  constructor
  · intro q
    obtain ⟨i, _, e, _⟩ := haF_ge q
    omega
  · intro q
    apply Classical.byContradiction
    intro k; rw [haF_lt k] at q; omega
theorem GuRel.defC_eq (h : GuRel RA mk PA ct R L) (hO : GuOk RA cr mk PA cp ct) (nm : ByteArray) : defC RA nm = defK R nm := by
  unfold defC defK
  rw [h.rlen hO]
  by_cases h0 : nameC nm = 0
  · rw [if_pos h0, if_pos h0]
    by_cases h1 : roF R nm < 0 ∧ 16 ≤ R.length
    · rw [if_pos ⟨(h.rno nm).2 h1.1, h1.2⟩, if_pos h1]
    · rw [if_neg (fun q => h1 ⟨(h.rno nm).1 q.1, q.2⟩), if_neg h1]
  · rw [if_neg h0, if_neg h0]
theorem GuRel.who (h : GuRel RA mk PA ct R L) (w : ByteArray) : alG PA w = none ↔ ¬ ∃ j, j < L.length ∧ (haAt L j).1 = w := by
  rw [alG_none, h.pns]
  refine not_congr ?_
  constructor
  · intro q
    obtain ⟨x, hx, rfl⟩ := List.mem_map.1 q
    obtain ⟨j, hj, rfl⟩ := ha_idx hx
    exact ⟨j, hj, rfl⟩
  · rintro ⟨j, hj, rfl⟩; exact List.mem_map_of_mem (haAt_mem hj)
theorem GuRel.graC_eq (h : GuRel RA mk PA ct R L) (hO : GuOk RA cr mk PA cp ct) (w s : ByteArray) : graC RA PA ct w s = graK R L w s := by
  unfold graC graK
  rw [h.plen hO]
  simp only [h.rno s, h.hno w s, h.who w]
theorem GuRel.ctl (h : GuRel RA mk PA ct R L) (w : ByteArray) : (ct w).length ≤ L.length := by rw [h.cts, List.length_map]; exact List.length_filter_le _ _
theorem GuOk.nil : GuOk [] 0 (fun _ => 0#32) [] 0 (fun _ => []) := ⟨AlOk.nil, fun s v h => (by cases h), fun _ _ => rfl, AlOk.nil, fun _ _ => rfl⟩
theorem gra_ok {w s : ByteArray} (h : graK R L w s = 0) : ¬ roF R s < 0 ∧ ¬ 0 ≤ haF L w s := by
  unfold graK at h
  split at h
  · split at h
    · cases h
    · rename_i h1
      split at h
      · cases h
      · rename_i h2; exact ⟨h1, h2⟩
  · rename_i h1; exact absurd h h1
theorem and_all (l : List Int) : ofBt l &&& ofBt (allK 18) = ofBt l := by
  apply BitVec.eq_of_getLsbD_eq
  intro k hk
  rw [BitVec.getLsbD_and, ofBt_bit, ofBt_bit, Bool.eq_iff_iff]
  simp only [Bool.and_eq_true, decide_eq_true_eq, mem_allK]
  constructor
  · exact fun q => q.1
  · exact fun q => ⟨q, q.1, q.2.1, by omega⟩
theorem GuRel.define (h : GuRel RA mk PA ct R L) (nm : ByteArray) (ov : Value) (ops : List Int) (v : Value) : GuRel (alPut RA nm v cr) (fun s => if s = nm then ofBt ops &&& ofBt (allK 18) else mk s) PA ct (defR R (nm, ov, ops)) L := by
  refine ⟨defR_rise h.srt, fun s => ?_, fun x hx => ?_, h.cts, h.pns, h.nod, fun x hx => ?_⟩
  · rw [al_mem_put, defR_names, h.rns]
  · rcases defR_mem.1 hx with rfl | ⟨a, b⟩
    · simp only [if_true, and_all]
    · simp only [if_neg b]; exact h.mks x a
  · exact defR_names.2 (.inr (h.inR x hx))
theorem GuRel.grant (h : GuRel RA mk PA ct R L) (w s : ByteArray) (v : Value) (hs : ¬ roF R s < 0) (hn : ¬ s ∈ ct w) : GuRel RA mk (alPut PA w v cp) (upd1 ct w (ct w ++ [s])) R (L ++ [(w, s)]) := by
  refine ⟨h.srt, h.rns, h.mks, fun t => ?_, fun t => ?_, ?_, fun x hx => ?_⟩
  · rw [List.filter_append, List.map_append, ← h.cts]
    by_cases e : t = w
    · subst e; rw [upd1_self]; simp
    · rw [upd1_ne e]; simp [show ¬ w = t from fun q => e q.symm]
  · rw [al_mem_put, h.pns, List.map_append, List.mem_append]
    simp only [List.map_cons, List.map_nil, List.mem_singleton]
    exact Or.comm
  · unfold List.Nodup
    rw [List.pairwise_append]
    refine ⟨h.nod, List.pairwise_singleton _ _, fun a ha b hb => ?_⟩
    rw [List.mem_singleton] at hb
    subst hb
    rintro rfl
    exact hn ((h.ctm w s).2 ha)
  · rcases List.mem_append.1 hx with q | q
    · exact h.inR x q
    · rw [List.mem_singleton] at q
      subst q
      apply Classical.byContradiction
      intro k; exact hs (by rw [roF_lt k]; decide)
theorem drop_mid (a b : List ByteArray) (s : ByteArray) : (a ++ s :: b).drop (a.length + 1) = b := by induction a <;> simp_all
theorem first_uniq {l : List ByteArray} {a b : List ByteArray} {s : ByteArray} {i : Nat} (hl : l = a ++ s :: b) (ha : ¬ s ∈ a) (hi : i < l.length) (he : strAt l i = s) (hno : ∀ j, j < i → ¬ strAt l j = s) : i = a.length := by
  subst hl
  rcases Nat.lt_trichotomy i a.length with h | h | h
  · exfalso
    have := strAt_some (l := a ++ s :: b) (i := i) hi
    rw [he, List.getElem?_append_left h] at this
    exact ha (List.mem_of_getElem? this)
  · exact h
  · exfalso
    have := strAt_some (l := a ++ s :: b) (i := a.length) (by simp)
    rw [List.getElem?_append_right (Nat.le_refl _), Nat.sub_self] at this
    exact hno a.length h (Option.some.inj this).symm
theorem GuRel.revoke (h : GuRel RA mk PA ct R L) {PA' : AL} {w s : ByteArray} {i k : Nat} (hi : i < (ct w).length) (he : strAt (ct w) i = s) (hno : ∀ j, j < i → ¬ strAt (ct w) j = s) (hk : k < L.length) (hke : haAt L k = (w, s)) (hA : ∀ t, alG PA' t = none ↔ if t = w then cutS (ct w) i = [] else alG PA t = none) : GuRel RA mk PA' (upd1 ct w (cutS (ct w) i)) R (eraH L k) := by
  have hL : L = L.take k ++ (w, s) :: L.drop (k + 1) := by
    have e1 := List.take_append_drop k L
    have e2 := haAt_some hk
    rw [hke] at e2
    rw [List.drop_eq_getElem_cons hk] at e1
    rw [List.getElem?_eq_getElem hk] at e2
    rw [Option.some.inj e2] at e1
    exact e1.symm
  have hnd : (L.take k ++ (w, s) :: L.drop (k + 1)).Nodup := hL ▸ h.nod
  have hnA : ¬ (w, s) ∈ L.take k := fun q => (List.pairwise_append.1 hnd).2.2 _ q _ List.mem_cons_self rfl
  have hct : ct w = ((L.take k).filter fun h => decide (h.1 = w)).map (·.2) ++ s :: ((L.drop (k + 1)).filter fun h => decide (h.1 = w)).map (·.2) := by
    rw [h.cts]
    conv => lhs; rw [hL]
    rw [List.filter_append, List.filter_cons, if_pos (by simp), List.map_append, List.map_cons]
  have hnl : ¬ s ∈ ((L.take k).filter fun h => decide (h.1 = w)).map (·.2) := by
    intro q
    obtain ⟨x, hx, e⟩ := List.mem_map.1 q
    obtain ⟨a, b⟩ := List.mem_filter.1 hx
    exact hnA (by rw [← e, ← of_decide_eq_true b]; exact a)
  have hii := first_uniq hct hnl hi he hno
  have hcut : cutS (ct w) i = ((L.take k).filter fun h => decide (h.1 = w)).map (·.2) ++ ((L.drop (k + 1)).filter fun h => decide (h.1 = w)).map (·.2) := by
    unfold cutS
    rw [hct, hii, List.take_left, drop_mid]
  have hcts : ∀ t, upd1 ct w (cutS (ct w) i) t = ((eraH L k).filter fun h => decide (h.1 = t)).map (·.2) := by
    intro t
    unfold eraH
    rw [List.filter_append, List.map_append]
    by_cases e : t = w
    · subst e; rw [upd1_self, hcut]
    · rw [upd1_ne e, h.cts]
      conv => lhs; rw [hL]
      rw [List.filter_append, List.filter_cons, if_neg (by simpa using fun q => e q.symm), List.map_append]
  refine ⟨h.srt, h.rns, h.mks, hcts, fun t => ?_, ?_, fun x hx => ?_⟩
  · have hm : t ∈ (eraH L k).map (·.1) ↔ ¬ upd1 ct w (cutS (ct w) i) t = [] := by
      rw [hcts, List.map_eq_nil_iff, List.filter_eq_nil_iff, List.mem_map]
      constructor
      · rintro ⟨x, hx, rfl⟩ q; exact q x hx (decide_eq_true rfl)
      · intro q
        apply Classical.byContradiction
        intro n; exact q fun x hx e => n ⟨x, hx, of_decide_eq_true e⟩
    rw [hm, al_mem, hA]
    refine not_congr ?_
    by_cases e : t = w
    · subst e; rw [if_pos rfl, upd1_self]
    · rw [if_neg e, upd1_ne e, h.cts, List.map_eq_nil_iff, List.filter_eq_nil_iff, alG_none, h.pns, List.mem_map]
      constructor
      · intro q x hx e2; exact q ⟨x, hx, of_decide_eq_true e2⟩
      · rintro q ⟨x, hx, rfl⟩; exact q x hx (decide_eq_true rfl)
  · exact (hnd.sublist ((List.sublist_cons_self _ _).append_left (l := L.take k)))
  · refine h.inR x ?_
    rw [hL]
    unfold eraH at hx
    rcases List.mem_append.1 hx with q | q
    · exact List.mem_append_left _ q
    · exact List.mem_append_right _ (List.mem_cons_of_mem _ q)
theorem rig_bit (mk : MK) (k : Nat) (l : List ByteArray) : (rigB mk l).getLsbD k = l.any fun s => (mk s).getLsbD k := by
  have key : ∀ (l : List ByteArray) (b : BitVec 32), (l.foldl (fun b s => b ||| mk s) b).getLsbD k = (b.getLsbD k || l.any fun s => (mk s).getLsbD k) := by
    intro l
    induction l with
    | nil => intro b; simp
    | cons a l ih => intro b; rw [List.foldl_cons, ih, BitVec.getLsbD_or, List.any_cons, Bool.or_assoc]
  rw [rigB, key]; simp
theorem GuRel.may (h : GuRel RA mk PA ct R L) (w : ByteArray) (op : Int) : mayB mk ct w op = mayR R L w op := by
  unfold mayB mayR
  rw [Bool.eq_iff_iff, decide_eq_true_eq, hasB]
  simp only [Bool.and_eq_true, decide_eq_true_eq, rig_bit, List.any_eq_true]
  have hbit : ∀ x ∈ L, ∀ q : Nat, op = (q : Int) → ((mk x.2).getLsbD q = true ↔ 1 ≤ op ∧ op ≤ 18 ∧ op ∈ (roAt R (roF R x.2).toNat).2.2) := by
    intro x hx q hq
    obtain ⟨i, hi, e, en⟩ := roF_ge (h.inR x hx)
    rw [e, Int.toNat_natCast, ← en, h.mks _ (roAt_mem hi), ofBt_bit, decide_eq_true_eq, hq]
    constructor
    · rintro ⟨a, b, c⟩; exact ⟨by omega, by omega, c⟩
    · rintro ⟨a, b, c⟩; exact ⟨by omega, by omega, c⟩
  constructor
  · rintro ⟨ho, s, hs, hb⟩
    have hm := (h.ctm w s).1 hs
    have := (hbit _ hm op.toNat (by omega)).1 hb
    exact ⟨_, hm, rfl, this.2.2, this.1, this.2.1⟩
  · rintro ⟨x, hx, rfl, ha, h1, h2⟩
    exact ⟨⟨h1, h2⟩, x.2, (h.ctm x.1 x.2).2 hx, (hbit x hx op.toNat (by omega)).2 ⟨h1, h2, ha⟩⟩
theorem GuRel.sorted (h : GuRel RA mk PA ct R L) (hO : GuOk RA cr mk PA cp ct) {xs : List ByteArray} (hx : keysOf PA xs) : sortS xs = peoL L :=
  sortS_of (hx.trans ((List.perm_ext_iff_of_nodup hO.pok.keys (rise_nodup (peo_all L).2)).2 fun s => by rw [h.pns, (peo_all L).1])) (peo_all L).2
theorem GuRel.roles (h : GuRel RA mk PA ct R L) (hO : GuOk RA cr mk PA cp ct) {xs : List ByteArray} (hx : keysOf RA xs) : sortS xs = R.map (·.1) := by
  refine sortS_of (hx.trans ((List.perm_ext_iff_of_nodup hO.rok.keys (rise_names h.srt)).2 h.rns)) ?_
  rw [List.pairwise_map]; exact h.srt
theorem GuRel.apart (h : GuRel RA mk PA ct R L) (a b : Int) : (PA.map (·.1)).all (fun s => !(mayB mk ct s a && mayB mk ct s b)) = !(peoL L).any fun s => mayR R L s a && mayR R L s b := by
  rw [← List.not_any_eq_all_not]
  congr 1
  rw [Bool.eq_iff_iff, List.any_eq_true, List.any_eq_true]
  constructor
  · rintro ⟨s, hs, e⟩; exact ⟨s, by rw [(peo_all L).1, ← h.pns]; exact hs, by rw [← h.may, ← h.may]; exact e⟩
  · rintro ⟨s, hs, e⟩; exact ⟨s, by rw [h.pns, ← (peo_all L).1]; exact hs, by rw [h.may, h.may]; exact e⟩
end
end Go.Mo
