/- What records tell: how long, how often, by whom; the example of the laws. -/
import Derived.Test.YtdbkmpnknkldlaaHHisS
import Derived.Test.YtdbkmpnknkldlaaHAudW
import Derived.Test.YtdbkmpnknkldlaaHShfS
set_option linter.unusedVariables false
set_option linter.unusedSimpArgs false
namespace Go.Mo
open Go.RowKit Go.Lib
theorem GL_lit3 {P : Program} {n : Nat} {ops : Array Oper} {f : Fm} {w w0 : World} {S : List Nat} {H : List Res} {K : Fm → World → Prop} {o : Oper} {rest : List Oper} {d : Nat} {x y z : Operand} {T E sz : Nat} {zv v u t : Value} {L M N Q : List Value} (hw : Wn n ops f o) (hd : o.dst = some d) (ho : o.op = .buildSlice T 3 #[(0, x), (1, y), (2, z)]) (hx : ev n f x = v) (hy : ev n f y = u) (hz3 : ev n f z = t) (hv : v.cells = ⟨L⟩) (hu : u.cells = ⟨M⟩) (ht : t.cells = ⟨N⟩) (hT : P.underlying T = some (.slice E))
    (hs : (P.info? E).map (·.size) = some sz) (hz : (P.info? E).bind (·.zero) = some zv) (hl : Nat.ble (3 * sz) 16777216 = true) (h1 : L.length = sz) (h2 : M.length = sz) (h3 : N.length = sz) (hQ : L ++ (M ++ N) = Q) (hp : Hp w0 S w H)
    (h : ∀ g w', Hp w0 S w' (.row E sz (.slice (some ⟨g, 0, none⟩) 3 3) 3 Q :: H) → GL P n ops rest (upd f d (.slice (some ⟨g, 0, none⟩) 3 3)) w' K) : GL P n ops (o :: rest) f w K := by
  subst hQ
  refine GL_lit (L := L ++ (M ++ N)) hw hd ho hT hs hz hl ?_ (by rw [List.length_append, List.length_append, h1, h2, h3]; omega) rfl hp h
  have e : (#[(0, x), (1, y), (2, z)].map fun (i, x) => (i, ev n f x)).toList = [((0 : Nat), v), (1, u), (2, t)] := by simp [hx, hy, hz3]
  rw [e]
  have hlen : ∀ (A : Array Value), A = ⟨A.toList⟩ := fun A => rfl
  generalize hA : (Array.range (3 * sz)).map (fun i => zv.cells[i % zv.cells.size]!) = A
  have hAl : A.toList.length = 3 * sz := by rw [← hA]; simp
  rw [hlen A]
  refine fill_more (L' := L ++ A.toList.drop sz) 0 sz (by simp) hv h1 (by omega) ?_ (fill_more (L' := L ++ (M ++ A.toList.drop (2 * sz))) sz sz (by simp) hu h2 (by rw [List.length_append, List.length_drop]; omega) ?_ (fill_more (L' := L ++ (M ++ N)) (2 * sz) sz (by simp) ht h3 (by simp only [List.length_append, List.length_drop]; omega) ?_ (fill_done rfl)))
  · have e1 : A.toList = [] ++ (A.toList.take sz ++ A.toList.drop sz) := by rw [List.nil_append, List.take_append_drop]
    rw [e1, splice_mid [] _ _ _ 0 rfl (by rw [List.length_take]; omega), List.nil_append, List.nil_append, List.take_append_drop]
  · have e2 : L ++ A.toList.drop sz = L ++ ((A.toList.drop sz).take sz ++ A.toList.drop (2 * sz)) := by
      have := List.take_append_drop sz (A.toList.drop sz)
      rw [List.drop_drop, show sz + sz = 2 * sz by omega] at this
      rw [this]
    rw [e2, splice_mid L _ _ M sz h1 (by rw [List.length_take, List.length_drop]; omega)]
  · have e3 : L ++ (M ++ A.toList.drop (2 * sz)) = (L ++ M) ++ (A.toList.drop (2 * sz) ++ []) := by rw [List.append_nil, List.append_assoc]
    rw [e3, splice_mid (L ++ M) _ [] N (2 * sz) (by rw [List.length_append]; omega) (by rw [List.length_drop]; omega), List.append_nil, List.append_assoc]
theorem run_equalIn_fnil {P : Program} (d : Nat) {w : World} {T : TypeId} {a : Fn} {b c : Array Value} {p q : Array TypeId} {r : Bool} (hT : P.underlying T = some (.func p q r)) : (Op.equalIn (d + 1) T (.func a b c) .nilFunc).run P w = .ok false w := by
  simp [Op.equalIn, run_underlying hT]
theorem bo_fnil {P : Program} {x y : Operand} {w : World} {T : TypeId} {a : Fn} {b c : Array Value} {p q : Array TypeId} {r : Bool} (hT : P.underlying T = some (.func p q r)) : Bo P .eql T x y (.func a b c) .nilFunc w (.bool false) :=
  bo_of (by simp [eqGuard, Sem.run]) (by simp only [binOp]; simp [show (Op.equal T (.func a b c) .nilFunc).run P w = .ok false w from run_equalIn_fnil 9999 hT])
theorem three_flat (r s t : Rec) : recC r ++ (recC s ++ recC t) = [r, s, t].flatMap recC := by simp
theorem rec_setReason (r : Rec) (q : ByteArray) : splice (recC r) 35 [.string q] = recC { r with reason := q } := by
  have h1 := clip_len r
  have e := splice_mid (recHd r ++ bys r.clip.1) [.string r.reason] (bys r.prev.1 ++ bys r.sum.1) [.string q] 35 (by simp [recHd]; omega) rfl
  rw [recC_eq, recC_eq]
  simp only [List.append_assoc, recHd] at e ⊢
  exact e
theorem rec_fillD (k t : Int) (a q : ByteArray) (c : A32) : Instr.fill (([(0, 1), (1, 1), (2, 1), (3, 32), (35, 1), (36, 32), (68, 32)] : List (Nat × Nat)).toArray[·]?) (⟨recC recZ⟩ : Array Value) [(0, .int .i64 k), (1, .int .i64 t), (2, .string a), (3, .agg ⟨bys c.1⟩), (4, .string q)] = some ⟨recC ⟨k, t, a, c, q, a32Z, a32Z⟩⟩ := by
  refine fill_more (L' := recC ⟨k, 0, ⟨#[]⟩, a32Z, ⟨#[]⟩, a32Z, a32Z⟩) 0 1 rfl rfl rfl (by rw [recC_len]; decide) (by rw [recC_eq, recC_eq]; rfl) ?_
  refine fill_more (L' := recC ⟨k, t, ⟨#[]⟩, a32Z, ⟨#[]⟩, a32Z, a32Z⟩) 1 1 rfl rfl rfl (by rw [recC_len]; decide) (by rw [recC_eq, recC_eq]; rfl) ?_
  refine fill_more (L' := recC ⟨k, t, a, a32Z, ⟨#[]⟩, a32Z, a32Z⟩) 2 1 rfl rfl rfl (by rw [recC_len]; decide) (by rw [recC_eq, recC_eq]; rfl) ?_
  refine fill_more (L' := recC ⟨k, t, a, c, ⟨#[]⟩, a32Z, a32Z⟩) 3 32 rfl rfl (by rw [bys_length]; exact c.2) (by rw [recC_len]; decide) (rec_setClip _ c) ?_
  refine fill_more (L' := recC ⟨k, t, a, c, q, a32Z, a32Z⟩) 35 1 rfl rfl rfl (by rw [recC_len]; decide) (rec_setReason _ q) ?_
  exact fill_done rfl
def heldH (s : HS) : Bool := decide (0 < s.holds.length) && !s.gone
def spStep (a : A32) (p : HS × Int × Int) (r : Rec) : HS × Int × Int := if r.clip = a then (hNext (if p.1.gone = true then hzZ else p.1) r, r.time, if heldH p.1 = true then p.2.2 + (r.time - p.2.1) else p.2.2) else p
def spF (a : A32) (q : List Rec) : HS × Int × Int := q.foldl (spStep a) (hzZ, 0, 0)
theorem spF_snoc (a : A32) (q : List Rec) (x : Rec) : spF a (q ++ [x]) = spStep a (spF a q) x := by rw [spF, List.foldl_append]; rfl
theorem spF_state (a : A32) (q : List Rec) : (spF a q).1 = hF a q := by
  induction q using rev_ind with
  | h0 => rfl
  | h1 q x ih =>
    rw [spF_snoc, hF_snoc, spStep, hStep]
    split
    · rw [ih]
    · exact ih
def lastF (a : A32) (q : List Rec) : Int := (spF a q).2.1
def nF (a : A32) (q : List Rec) : Int := (spF a q).2.2
theorem sp_skip {a : A32} {q : List Rec} {x : Rec} (h : ¬ x.clip = a) : lastF a (q ++ [x]) = lastF a q ∧ nF a (q ++ [x]) = nF a q := by
  unfold lastF nF; rw [spF_snoc, spStep, if_neg h]; exact ⟨rfl, rfl⟩
theorem sp_last {a : A32} {q : List Rec} {x : Rec} (h : x.clip = a) : lastF a (q ++ [x]) = x.time := by
  unfold lastF; rw [spF_snoc, spStep, if_pos h]
theorem sp_held {a : A32} {q : List Rec} {x : Rec} (h : x.clip = a) (hh : heldH (hF a q) = true) : nF a (q ++ [x]) = nF a q + (x.time - lastF a q) := by
  unfold nF lastF; rw [spF_snoc, spStep, if_pos h, spF_state]
  show (if heldH (hF a q) = true then (spF a q).2.2 + (x.time - (spF a q).2.1) else _) = _
  rw [if_pos hh]
theorem sp_free {a : A32} {q : List Rec} {x : Rec} (h : x.clip = a) (hh : heldH (hF a q) = false) : nF a (q ++ [x]) = nF a q := by
  unfold nF; rw [spF_snoc, spStep, if_pos h, spF_state]
  show (if heldH (hF a q) = true then _ else (spF a q).2.2) = _
  rw [if_neg (by rw [hh]; decide)]
theorem sp_bounds {a : A32} {q : List Rec} (h : ∀ r ∈ q, 0 ≤ r.time ∧ r.time ≤ 1099511627776) : 0 ≤ lastF a q ∧ lastF a q ≤ 1099511627776 ∧ -(1099511627776 * (q.length : Int)) ≤ nF a q ∧ nF a q ≤ 1099511627776 * (q.length : Int) := by
  induction q using rev_ind with
  | h0 => simp [lastF, nF, spF]
  | h1 q x ih =>
    have h1 := ih (fun r hr => h r (List.mem_append_left _ hr))
    have h2 := h x (by simp)
    have e : ((q ++ [x]).length : Int) = (q.length : Int) + 1 := by simp
    rw [e]
    by_cases hc : x.clip = a
    · rw [sp_last hc]
      cases hh : heldH (hF a q) with
      | true => rw [sp_held hc hh]; omega
      | false => rw [sp_free hc hh]; omega
    · rw [(sp_skip hc).1, (sp_skip hc).2]; omega
def spanL (l : List Rec) (a : A32) (t : Int) : Int := if heldH (hOf l a t) = true then nF a (l.filter (uT t)) + (t - lastF a (l.filter (uT t))) else nF a (l.filter (uT t))
def byN (q : List Rec) (nm : ByteArray) (k : Int) : Nat := (q.filter fun r => decide (r.actor = nm) && decide (r.kind = k)).length
def byC (q : List Rec) (nm : ByteArray) : List Value := [.int .i64 (byN q nm 0 : Int), .int .i64 (byN q nm 1 : Int), .int .i64 (byN q nm 2 : Int), .int .i64 (byN q nm 3 : Int), .int .i64 (byN q nm 4 : Int), .int .i64 (byN q nm 5 : Int)]
theorem byN_yes {q : List Rec} {nm : ByteArray} {r : Rec} {k : Int} (ha : r.actor = nm) (hk : r.kind = k) : byN (q ++ [r]) nm k = byN q nm k + 1 := by simp [byN, List.filter_append, ha, hk]
theorem byN_no {q : List Rec} {nm : ByteArray} {r : Rec} {k : Int} (h : ¬ (r.actor = nm ∧ r.kind = k)) : byN (q ++ [r]) nm k = byN q nm k := by
  have e : (decide (r.actor = nm) && decide (r.kind = k)) = false := by
    cases h1 : decide (r.actor = nm) <;> cases h2 : decide (r.kind = k) <;> simp_all
  simp [byN, List.filter_append, e]
theorem byN_le (q : List Rec) (nm : ByteArray) (k : Int) : byN q nm k ≤ q.length := List.length_filter_le _ _
theorem byC_no {q : List Rec} {nm : ByteArray} {r : Rec} (h : ¬ (r.actor = nm ∧ 0 ≤ r.kind ∧ r.kind < 6)) : byC (q ++ [r]) nm = byC q nm := by
  unfold byC
  rw [byN_no (fun e => h ⟨e.1, by omega, by omega⟩), byN_no (fun e => h ⟨e.1, by omega, by omega⟩), byN_no (fun e => h ⟨e.1, by omega, by omega⟩), byN_no (fun e => h ⟨e.1, by omega, by omega⟩), byN_no (fun e => h ⟨e.1, by omega, by omega⟩), byN_no (fun e => h ⟨e.1, by omega, by omega⟩)]
theorem byC_yes {q : List Rec} {nm : ByteArray} {r : Rec} (ha : r.actor = nm) {j : Nat} (hj : j < 6) (hk : r.kind = (j : Int)) : splice (byC q nm) (0 + j * 1) [.int .i64 ((byN q nm (j : Int) : Int) + 1)] = byC (q ++ [r]) nm := by
  have hy := byN_yes (q := q) ha hk
  have hn : ∀ k : Int, ¬ k = (j : Int) → byN (q ++ [r]) nm k = byN q nm k := fun k h => byN_no (fun e => h (by rw [← e.2, hk]))
  unfold byC
  rcases (show j = 0 ∨ j = 1 ∨ j = 2 ∨ j = 3 ∨ j = 4 ∨ j = 5 by omega) with rfl | rfl | rfl | rfl | rfl | rfl
  · rw [hn 1 (by decide), hn 2 (by decide), hn 3 (by decide), hn 4 (by decide), hn 5 (by decide)]; rw [show (0 : Int) = ((0 : Nat) : Int) from rfl, hy]; rfl
  · rw [hn 0 (by decide), hn 2 (by decide), hn 3 (by decide), hn 4 (by decide), hn 5 (by decide)]; rw [show (1 : Int) = ((1 : Nat) : Int) from rfl, hy]; rfl
  · rw [hn 0 (by decide), hn 1 (by decide), hn 3 (by decide), hn 4 (by decide), hn 5 (by decide)]; rw [show (2 : Int) = ((2 : Nat) : Int) from rfl, hy]; rfl
  · rw [hn 0 (by decide), hn 1 (by decide), hn 2 (by decide), hn 4 (by decide), hn 5 (by decide)]; rw [show (3 : Int) = ((3 : Nat) : Int) from rfl, hy]; rfl
  · rw [hn 0 (by decide), hn 1 (by decide), hn 2 (by decide), hn 3 (by decide), hn 5 (by decide)]; rw [show (4 : Int) = ((4 : Nat) : Int) from rfl, hy]; rfl
  · rw [hn 0 (by decide), hn 1 (by decide), hn 2 (by decide), hn 3 (by decide), hn 4 (by decide)]; rw [show (5 : Int) = ((5 : Nat) : Int) from rfl, hy]; rfl
def actL (l : List Rec) : List ByteArray := compactS (sortS (l.map (·.actor)))
theorem sortS_len (l : List ByteArray) : (sortS l).length = l.length := by rw [sortS, backS_len, List.length_mergeSort, strL_len]
theorem acts_snoc {l : List Rec} {i : Nat} (hi : i < l.length) : (l.take (i + 1)).map (·.actor) = (l.take i).map (·.actor) ++ [(recAt l i).actor] := by rw [take_recs hi, List.map_append]; rfl
def hkA : Rec := ⟨3, 2, ⟨#[97, 110, 110]⟩, ad1, ⟨#[99, 111, 117, 114, 116]⟩, a32Z, a32Z⟩
def hkB : Rec := ⟨4, 5, ⟨#[98, 111, 98]⟩, ad1, ⟨#[99, 111, 117, 114, 116]⟩, a32Z, a32Z⟩
def hkC : Rec := ⟨1, 9, ⟨#[97, 110, 110]⟩, ad1, ⟨#[]⟩, a32Z, a32Z⟩
def hkL : List Rec := [hkA, hkB, hkC]
theorem hkH1 : (hOf hkL ad1 3).holds.length = 1 := by decide +kernel
theorem hkG1 : (hOf hkL ad1 3).gone = false := by decide +kernel
theorem hkG2 : (hOf hkL ad1 9).gone = true := by decide +kernel
theorem hkW2 : (hOf hkL ad1 9).actor = ⟨#[97, 110, 110]⟩ := by decide +kernel
theorem hkH2 : (hOf hkL ad1 9).holds.length = 0 := by decide +kernel
theorem hkU : (hkL.filter (uT 5)).length = 2 := by decide +kernel
theorem hkS1 : spanL hkL ad1 20 = 3 := by decide +kernel
theorem hkS2 : spanL hkL ad1 4 = 2 := by decide +kernel
theorem hkD1 : (heldL hkL ⟨#[99, 111, 117, 114, 116]⟩ 4).length = 1 := by decide +kernel
theorem hkD2 : (heldL hkL ⟨#[99, 111, 117, 114, 116]⟩ 6).length = 0 := by decide +kernel
theorem hkK : (clipsL hkL).length = 1 := by decide +kernel
theorem hkB3 : byN hkL ⟨#[97, 110, 110]⟩ 3 = 1 := by decide +kernel
theorem hkB1 : byN hkL ⟨#[97, 110, 110]⟩ 1 = 1 := by decide +kernel
theorem hkT : ∀ r ∈ hkL, 0 ≤ r.time ∧ r.time ≤ 1099511627776 := by decide +kernel
theorem hkA0 : actL hkL = [⟨#[97, 110, 110]⟩, ⟨#[98, 111, 98]⟩] := by
  have e : sortS (hkL.map (·.actor)) = [⟨#[97, 110, 110]⟩, ⟨#[97, 110, 110]⟩, ⟨#[98, 111, 98]⟩] := by
    have h1 : ([97, 110, 110] : List UInt8) ≤ [98, 111, 98] := by decide
    have h2 : ([97, 110, 110] : List UInt8) ≤ [97, 110, 110] := by decide
    have h3 : ¬ ([98, 111, 98] : List UInt8) ≤ [97, 110, 110] := by decide
    simp [sortS, strL, hkL, hkA, hkB, hkC, backS, List.mergeSort, List.MergeSort.Internal.splitInTwo, List.merge, h1, h2, h3]
  rw [actL, e]
  decide +kernel
end Go.Mo
