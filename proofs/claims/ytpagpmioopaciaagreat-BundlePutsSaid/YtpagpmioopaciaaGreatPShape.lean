/- From what a row's statement says of its arguments to what the walks ask: values of any nested shape. -/
import Derived.Test.YtpagpmioopaciaaGreatPRow
set_option linter.unusedVariables false
set_option linter.unusedSimpArgs false
namespace Go.Mo
open Go.ChangeShapes Go.WideShapes Go.ChangeAt Go.RowKit
/-- Shapes of types: whole numbers, texts, bits, rows of bytes, slices, structs (their fields one by one). -/
inductive Sh where
  | i (k : IntKind)
  | s
  | b
  | a (n : Nat)
  | sl (e : Sh)
  | st (fs : Sh)
  | fn
  | fc (h t : Sh)
def Sh.size : Sh → Nat
  | .a n => n
  | .st fs => fs.size
  | .fn => 0
  | .fc h t => h.size + t.size
  | _ => 1
def Sh.isF : Sh → Bool
  | .fn => true
  | .fc _ _ => true
  | _ => false
inductive Dt where
  | i (k : IntKind) (n : Int)
  | s (t : ByteArray)
  | b (v : Bool)
  | a (l : List UInt8)
  | sl (v : Value) (sz n : Nat) (el : Nat → Dt)
  | st (fs : Dt)
  | fn
  | fc (h t : Dt)
def Dt.cells : Dt → List Value
  | .i k n => [.int k n]
  | .s t => [.string t]
  | .b v => [.bool v]
  | .a l => bys l
  | .sl v _ _ _ => [v]
  | .st fs => fs.cells
  | .fn => []
  | .fc h t => h.cells ++ t.cells
def Dt.ok (W : World) : Dt → Sh → Prop
  | .i k n, .i k' => k = k' ∧ (Lit.int k n).wf = true
  | .s _, .s => True
  | .b _, .b => True
  | .a l, .a n => l.length = n
  | .sl v sz n el, .sl e => sz = e.size ∧ Sl W v sz n ((List.range n).flatMap fun i => (el i).cells) ∧ ∀ i, i < n → (el i).ok W e
  | .st f, .st g => f.ok W g
  | .fn, .fn => True
  | .fc h t, .fc h' t' => h.ok W h' ∧ t.ok W t'
  | _, _ => False
def shB (P : Program) : Sh → TypeId → List Field → Nat → Bool
  | .i k, T, _, _ => match P.underlying T with | some (.int k') => decide (k' = k) | _ => false
  | .s, T, _, _ => match P.underlying T with | some .string => true | _ => false
  | .b, T, _, _ => match P.underlying T with | some .bool => true | _ => false
  | .a n, T, _, _ => match P.underlying T with | some (.array m E) => decide (m = n) && ((match P.underlying E with | some (.int .u8) => true | _ => false) && (P.cellsOf E == 1 && P.cellsOf T == n)) | _ => false
  | .sl e, T, _, _ => match P.underlying T with | some (.slice E) => !e.isF && (P.cellsOf E == e.size && (decide (0 < e.size) && shB P e E [] 0)) | _ => false
  | .st g, T, _, _ => match P.underlying T with | some (.struct fs) => g.isF && (P.cellsOf T == g.size && shB P g 0 fs.toList 0) | _ => false
  | .fn, _, [], _ => true
  | .fc h t, _, f :: fs, off => !h.isF && (t.isF && (f.offset == off && (P.cellsOf f.type == h.size && (shB P h f.type [] 0 && shB P t 0 fs (off + h.size)))))
  | _, _, _, _ => false
theorem ok_len {W : World} : ∀ {y : Dt} {sh : Sh}, y.ok W sh → y.cells.length = sh.size
  | .i _ _, .i _, _ => rfl
  | .s _, .s, _ => rfl
  | .b _, .b, _ => rfl
  | .a l, .a n, h => by rw [Dt.cells, bys_length]; exact h
  | .sl _ _ _ _, .sl _, _ => rfl
  | .st f, .st g, h => ok_len (y := f) (sh := g) h
  | .fn, .fn, _ => rfl
  | .fc a b, .fc c d, h => by rw [Dt.cells, List.length_append, ok_len h.1, ok_len h.2]; rfl
  | .i _ _, .s, h | .i _ _, .b, h | .i _ _, .a _, h | .i _ _, .sl _, h | .i _ _, .st _, h | .i _ _, .fn, h | .i _ _, .fc _ _, h => absurd h id
  | .s _, .i _, h | .s _, .b, h | .s _, .a _, h | .s _, .sl _, h | .s _, .st _, h | .s _, .fn, h | .s _, .fc _ _, h => absurd h id
  | .b _, .i _, h | .b _, .s, h | .b _, .a _, h | .b _, .sl _, h | .b _, .st _, h | .b _, .fn, h | .b _, .fc _ _, h => absurd h id
  | .a _, .i _, h | .a _, .s, h | .a _, .b, h | .a _, .sl _, h | .a _, .st _, h | .a _, .fn, h | .a _, .fc _ _, h => absurd h id
  | .sl _ _ _ _, .i _, h | .sl _ _ _ _, .s, h | .sl _ _ _ _, .b, h | .sl _ _ _ _, .a _, h | .sl _ _ _ _, .st _, h | .sl _ _ _ _, .fn, h | .sl _ _ _ _, .fc _ _, h => absurd h id
  | .st _, .i _, h | .st _, .s, h | .st _, .b, h | .st _, .a _, h | .st _, .sl _, h | .st _, .fn, h | .st _, .fc _ _, h => absurd h id
  | .fn, .i _, h | .fn, .s, h | .fn, .b, h | .fn, .a _, h | .fn, .sl _, h | .fn, .st _, h | .fn, .fc _ _, h => absurd h id
  | .fc _ _, .i _, h | .fc _ _, .s, h | .fc _ _, .b, h | .fc _ _, .a _, h | .fc _ _, .sl _, h | .fc _ _, .st _, h | .fc _ _, .fn, h => absurd h id
section
variable {H : Type} {enc : TypeId × Value → H} {P : Program} {W : World}
theorem arr_trod {t e : TypeId} {m n : Nat} {cs : List Value} {x : DataW H × List MemPlace} (ht : P.underlying t = some (.array m e)) (he : P.underlying e = some (.int .u8)) (hc : P.cellsOf e = 1) (hct : P.cellsOf t = m)
    (h : DataW.trod enc P W 0 (fun _ => true) true n t cs = some x) : ∃ b : List UInt8, b.length = m ∧ cs = bys b := by
  obtain ⟨xs, n, _, _, hl, hxl, hi⟩ := DataW.trod_array ht h
  simp only [hc, Nat.mul_one] at hi
  have hlen : cs.length = m := by rw [hl, hct]
  refine ⟨cs.map byteOf, by rw [List.length_map, hlen], ?_⟩
  apply List.ext_getElem (by rw [bys_length, List.length_map])
  intro i h1 h2
  have him : i < m := by omega
  have h3 := hi i him
  obtain ⟨y, hy⟩ : ∃ y, xs[i]? = some y := ⟨_, List.getElem?_eq_getElem (by omega)⟩
  rw [hy, List.drop_eq_getElem_cons h1] at h3
  obtain ⟨q, e2, _, hw⟩ := DataW.trod_int he h3
  simp only [List.take_succ_cons, List.take_zero, List.cons.injEq, and_true] at e2
  have hq := wf_u8 hw
  have h4 : (UInt8.ofNat q.toNat).toNat = q.toNat % 256 := UInt8.toNat_ofNat'
  simp only [bys, List.map_map, List.getElem_map, Function.comp_apply]
  rw [e2, byteOf, h4]
  congr 1
  omega
/-- A row of as many cells, whatever is given. -/
def fitC (sz : Nat) (cs : List Value) : List Value := (cs ++ List.replicate sz undef).take sz
theorem fitC_len (sz : Nat) (cs : List Value) : (fitC sz cs).length = sz := by rw [fitC, List.length_take, List.length_append, List.length_replicate]; omega
theorem fitC_id {sz : Nat} {cs : List Value} (h : cs.length = sz) : fitC sz cs = cs := by rw [fitC, List.take_left' h]
theorem choose_el {p : Nat → Dt → Prop} : ∀ n, (∀ i, i < n → ∃ y, p i y) → ∃ el : Nat → Dt, ∀ i, i < n → p i (el i) := fun n h => by
  have h2 : ∀ i, ∃ y, i < n → p i y := fun i => by
    by_cases hi : i < n
    · obtain ⟨y, hy⟩ := h i hi; exact ⟨y, fun _ => hy⟩
    · exact ⟨.fn, fun q => absurd q hi⟩
  obtain ⟨g, hg⟩ := Classical.axiomOfChoice h2
  exact ⟨g, hg⟩
theorem flat_range {α : Type} {f : α → List Value} : ∀ {xs : List α} {g : Nat → List Value}, (∀ i x, xs[i]? = some x → f x = g i) → xs.flatMap f = (List.range xs.length).flatMap g
  | [], _, _ => rfl
  | x :: l, g, h => by
    have ih := flat_range (f := f) (xs := l) (g := fun i => g (i + 1)) fun i y hy => h (i + 1) y (by rw [List.getElem?_cons_succ]; exact hy)
    rw [List.flatMap_cons, ih, h 0 x rfl, List.length_cons, List.range_succ_eq_map, List.flatMap_cons, List.flatMap_map]
theorem rd_sl {T E : TypeId} {e : Sh} {cs : List Value} {fuel : Nat} {x : DataW H × List MemPlace} (hT : P.underlying T = some (.slice E)) (hc : P.cellsOf E = e.size) (h0 : 0 < e.size) (ih : ∀ cs fuel x, DataW.trod enc P W 0 (fun _ => true) true fuel E cs = some x → ∃ y : Dt, y.ok W e ∧ cs = y.cells)
    (h : DataW.trod enc P W 0 (fun _ => true) true fuel T cs = some x) : ∃ (v : Value) (n : Nat) (el : Nat → Dt), cs = [v] ∧ Sl W v e.size n ((List.range n).flatMap fun i => (el i).cells) ∧ (∀ i, i < n → (el i).ok W e) ∧ ∃ A c, v = .slice A n c := by
  obtain ⟨A, n, c, rfl⟩ : ∃ A n c, cs = [.slice A n c] := by
    rcases Deep.open_slice hT h with ⟨e, _⟩ | ⟨a, len, cap, _, _, _, _, e, _⟩
    · exact ⟨_, _, _, e⟩
    · exact ⟨_, _, _, e⟩
  obtain ⟨d, ps⟩ := x
  obtain ⟨xs, hx1, hx2, hx3⟩ := row_of_flat (f := fitC e.size) (ok := fun cs : List Value => ∃ y : Dt, y.ok W e ∧ cs = y.cells) h0 hT hc (fitC_len _) (fun n cs x hx => by
    obtain ⟨y, hy, rfl⟩ := ih _ _ _ hx
    exact ⟨y.cells, (fitC_id (ok_len hy)).symm, y, hy, rfl⟩) (a := A) (len := n) (cap := c) (d := d) (ps := ps) ⟨fuel, h⟩
  obtain ⟨el, hel⟩ := choose_el (p := fun i y => y.ok W e ∧ ∀ z, xs[i]? = some z → z = y.cells) n (fun i hi => by
    have hs : xs[i]? = some xs[i] := List.getElem?_eq_getElem (by omega)
    obtain ⟨y, hy, hz⟩ := hx2 _ (List.mem_of_getElem? hs)
    exact ⟨y, hy, fun z hz2 => by rw [hs] at hz2; rw [← Option.some.inj hz2]; exact hz⟩)
  refine ⟨_, n, el, rfl, ?_, fun i hi => (hel i hi).1, A, c, rfl⟩
  rw [flat_range (g := fun i => (el i).cells) (fun i x hi => by
    have hlt := (List.getElem?_eq_some_iff.1 hi).1
    have := (hel i (by omega)).2 x hi
    subst this
    exact fitC_id (ok_len (hel i (by omega)).1)), hx1] at hx3
  exact hx3
theorem rd_dt : ∀ (sh : Sh), (sh.isF = false → ∀ T cs fuel x, shB P sh T [] 0 = true → DataW.trod enc P W 0 (fun _ => true) true fuel T cs = some x → ∃ y : Dt, y.ok W sh ∧ cs = y.cells) ∧
    (sh.isF = true → ∀ (fs : List Field) (off : Nat) (cs : List Value), shB P sh 0 fs off = true → cs.length = off + sh.size → (∀ (i : Nat) (fd : Field), fs[i]? = some fd → ∃ n y, DataW.trod enc P W 0 (fun _ => true) true n fd.type ((cs.drop fd.offset).take (P.cellsOf fd.type)) = some y) → ∃ y : Dt, y.ok W sh ∧ cs.drop off = y.cells) := by
  intro sh
  induction sh with
  | i k =>
    refine ⟨fun _ T cs fuel x hb h => ?_, fun h => (by cases h)⟩
    simp only [shB] at hb
    split at hb
    · rename_i k' hk
      obtain rfl := of_decide_eq_true hb
      obtain ⟨q, e, _, hw⟩ := DataW.trod_int hk h
      exact ⟨.i k' q, ⟨rfl, hw⟩, e⟩
    · cases hb
  | s =>
    refine ⟨fun _ T cs fuel x hb h => ?_, fun h => (by cases h)⟩
    simp only [shB] at hb
    split at hb
    · rename_i hk
      obtain ⟨q, e, _, _⟩ := DataW.trod_string hk h
      exact ⟨.s q, trivial, e⟩
    · cases hb
  | b =>
    refine ⟨fun _ T cs fuel x hb h => ?_, fun h => (by cases h)⟩
    simp only [shB] at hb
    split at hb
    · rename_i hk
      obtain ⟨q, e, _⟩ := DataW.trod_bool hk h
      exact ⟨.b q, trivial, e⟩
    · cases hb
  | a n =>
    refine ⟨fun _ T cs fuel x hb h => ?_, fun h => (by cases h)⟩
    simp only [shB] at hb
    split at hb
    · rename_i m E hk
      simp only [Bool.and_eq_true, decide_eq_true_eq, beq_iff_eq] at hb
      obtain ⟨rfl, h2, h3, h4⟩ := hb
      split at h2
      · rename_i hE
        obtain ⟨l, hl, e⟩ := arr_trod hk hE h3 h4 h
        exact ⟨.a l, hl, e⟩
      · cases h2
    · cases hb
  | sl e ih =>
    refine ⟨fun _ T cs fuel x hb h => ?_, fun h => (by cases h)⟩
    simp only [shB] at hb
    split at hb
    · rename_i E hk
      simp only [Bool.and_eq_true, Bool.not_eq_true', decide_eq_true_eq, beq_iff_eq] at hb
      obtain ⟨h1, h2, h3, h4⟩ := hb
      obtain ⟨v, n, el, e1, e2, e3, _⟩ := rd_sl hk h2 h3 (fun cs fuel x hx => ih.1 h1 E cs fuel x h4 hx) h
      exact ⟨.sl v e.size n el, ⟨rfl, e2, e3⟩, e1⟩
    · cases hb
  | st g ih =>
    refine ⟨fun _ T cs fuel x hb h => ?_, fun h => (by cases h)⟩
    simp only [shB] at hb
    split at hb
    · rename_i fs hk
      simp only [Bool.and_eq_true, beq_iff_eq] at hb
      obtain ⟨h1, h2, h3⟩ := hb
      have hl := struct_len hk h h2
      obtain ⟨y, hy, e⟩ := ih.2 h1 fs.toList 0 cs h3 (by omega) (fun i fd hi => field_trod hk h i (by simpa using hi) rfl rfl)
      exact ⟨.st y, hy, by rw [← List.drop_zero (l := cs)]; exact e⟩
    · cases hb
  | fn =>
    refine ⟨fun h => (by cases h), fun _ fs off cs hb hl hi => ?_⟩
    exact ⟨.fn, trivial, List.drop_of_length_le (by rw [hl]; exact Nat.le_refl _)⟩
  | fc p q ihp ihq =>
    refine ⟨fun h => (by cases h), fun _ fs off cs hb hl hi => ?_⟩
    cases fs with
    | nil => cases hb
    | cons f fs =>
      simp only [shB, Bool.and_eq_true, Bool.not_eq_true', beq_iff_eq] at hb
      obtain ⟨h1, h2, h3, h4, h5, h6⟩ := hb
      obtain ⟨n, y, hy⟩ := hi 0 f rfl
      rw [h3, h4] at hy
      obtain ⟨z, z1, z2⟩ := ihp.1 h1 _ _ _ _ h5 hy
      simp only [Sh.size] at hl
      obtain ⟨u, u1, u2⟩ := ihq.2 h2 fs (off + p.size) cs h6 (by omega) (fun i fd h => hi (i + 1) fd (by simpa using h))
      refine ⟨.fc z u, ⟨z1, u1⟩, ?_⟩
      rw [Dt.cells, ← z2, ← u2, ← List.drop_drop, List.take_append_drop]
/-- A struct that came in. -/
theorem dt_st {base : Nat} {r : Reach} {T : TypeId} {g : Sh} {v : Value} {d : DataW H} {ps : List MemPlace} (hB : shB P (.st g) T [] 0 = true) (hv : Value.okWide P W r base T v) (h : DataW.Trod enc P W 0 (fun _ => true) true T v d ps) : ∃ y : Dt, y.ok W g ∧ v = .agg ⟨y.cells⟩ := by
  obtain ⟨fuel, hf⟩ := h
  obtain ⟨y, hy, e⟩ := (rd_dt (.st g)).1 rfl T _ _ _ hB hf
  simp only [shB] at hB
  split at hB
  · rename_i fs hu
    obtain ⟨cs, rfl, _⟩ : ∃ cs, v = .agg cs ∧ True := by
      simp only [Value.okWide, hu] at hv
      obtain ⟨cs, h1, _⟩ := hv
      exact ⟨cs, h1, trivial⟩
    cases y with
    | st y =>
      refine ⟨y, hy, ?_⟩
      have hcs : (Value.agg cs).cells = cs := rfl
      rw [hcs] at e
      show Value.agg ⟨cs.toList⟩ = _
      rw [show cs.toList = _ from e]; rfl
    | _ => exact absurd hy id
  · cases hB
end
variable {W : World}
theorem ok_i {y : Dt} {k : IntKind} (h : y.ok W (.i k)) : ∃ n, y = .i k n ∧ (Lit.int k n).wf = true := by
  cases y <;> try exact absurd h id
  obtain ⟨rfl, hw⟩ := h
  exact ⟨_, rfl, hw⟩
theorem ok_s {y : Dt} (h : y.ok W .s) : ∃ t, y = .s t := by cases y <;> first | exact absurd h id | exact ⟨_, rfl⟩
theorem ok_a {y : Dt} {n : Nat} (h : y.ok W (.a n)) : ∃ l, y = .a l ∧ l.length = n := by cases y <;> first | exact absurd h id | exact ⟨_, rfl, h⟩
theorem ok_sl {y : Dt} {e : Sh} (h : y.ok W (.sl e)) : ∃ v n el, y = .sl v e.size n el ∧ Sl W v e.size n ((List.range n).flatMap fun i => (el i).cells) ∧ ∀ i, i < n → (el i).ok W e := by
  cases y <;> try exact absurd h id
  obtain ⟨rfl, h1, h2⟩ := h
  exact ⟨_, _, _, rfl, h1, h2⟩
theorem ok_st {y : Dt} {g : Sh} (h : y.ok W (.st g)) : ∃ z, y = .st z ∧ z.ok W g := by cases y <;> first | exact absurd h id | exact ⟨_, rfl, h⟩
theorem ok_fc {y : Dt} {p q : Sh} (h : y.ok W (.fc p q)) : ∃ z u, y = .fc z u ∧ z.ok W p ∧ u.ok W q := by cases y <;> first | exact absurd h id | exact ⟨_, _, rfl, h.1, h.2⟩
theorem ok_fn {y : Dt} (h : y.ok W .fn) : y = .fn := by cases y <;> first | exact absurd h id | rfl
/-- The elements of a slice, one by one as they are wanted. -/
theorem sl_list {α : Type} {f : α → List Value} {p : α → Prop} {e : Sh} {v : Value} {sz n : Nat} {el : Nat → Dt} (dec : ∀ y : Dt, y.ok W e → ∃ a, y.cells = f a ∧ p a) (hs : Sl W v sz n ((List.range n).flatMap fun i => (el i).cells)) (h : ∀ i, i < n → (el i).ok W e) :
    ∃ l : List α, l.length = n ∧ (∀ a ∈ l, p a) ∧ Sl W v sz n (l.flatMap f) := by
  have : ∀ m, m ≤ n → ∃ l : List α, l.length = m ∧ (∀ a ∈ l, p a) ∧ (List.range m).flatMap (fun i => (el i).cells) = l.flatMap f := by
    intro m
    induction m with
    | zero => exact fun _ => ⟨[], rfl, by simp, rfl⟩
    | succ m ih =>
      intro hm
      obtain ⟨l, h1, h2, h3⟩ := ih (by omega)
      obtain ⟨a, ha, hp⟩ := dec _ (h m (by omega))
      refine ⟨l ++ [a], by rw [List.length_append, h1]; rfl, fun b hb => ?_, ?_⟩
      · rcases List.mem_append.1 hb with hb | hb
        · exact h2 b hb
        · rw [List.mem_singleton.1 hb]; exact hp
      · rw [List.range_succ, List.flatMap_append, List.flatMap_append, h3]
        simp only [List.flatMap_cons, List.flatMap_nil, List.append_nil]
        rw [ha]
  obtain ⟨l, h1, h2, h3⟩ := this n (Nat.le_refl _)
  rw [h3] at hs
  exact ⟨l, h1, h2, hs⟩
theorem flat_each {α : Type} (g : α → Value) (l : List α) : (l.flatMap fun x => [g x]) = l.map g := by induction l <;> simp_all
theorem sl_nums {k : IntKind} {v : Value} {sz n : Nat} {el : Nat → Dt} (hs : Sl W v sz n ((List.range n).flatMap fun i => (el i).cells)) (h : ∀ i, i < n → (el i).ok W (.i k)) : ∃ l : List Int, l.length = n ∧ (∀ x ∈ l, (Lit.int k x).wf = true) ∧ Sl W v sz n (l.map (Value.int k)) := by
  obtain ⟨l, h1, h2, h3⟩ := sl_list (f := fun t => [Value.int k t]) (p := fun x => (Lit.int k x).wf = true) (fun y hy => by obtain ⟨t, rfl, hw⟩ := ok_i hy; exact ⟨t, rfl, hw⟩) hs h
  rw [flat_each] at h3
  exact ⟨l, h1, h2, h3⟩
theorem sl_u8s {v : Value} {sz n : Nat} {el : Nat → Dt} (hs : Sl W v sz n ((List.range n).flatMap fun i => (el i).cells)) (h : ∀ i, i < n → (el i).ok W (.i .u8)) : ∃ l : List UInt8, l.length = n ∧ Sl W v sz n (bys l) := by
  obtain ⟨zs, hz, hw, hs⟩ := sl_nums hs h
  refine ⟨zs.map fun n => UInt8.ofNat n.toNat, by rw [List.length_map, hz], ?_⟩
  have e : bys (zs.map fun n => UInt8.ofNat n.toNat) = zs.map (Value.int .u8) := by
    simp only [bys, List.map_map]
    refine List.map_congr_left fun n hn => ?_
    have h1 := wf_u8 (hw n hn)
    simp only [Function.comp_apply]
    congr 1
    have h2 : (UInt8.ofNat n.toNat).toNat = n.toNat % 256 := UInt8.toNat_ofNat'
    rw [h2]
    omega
  rw [e]
  exact hs
end Go.Mo
