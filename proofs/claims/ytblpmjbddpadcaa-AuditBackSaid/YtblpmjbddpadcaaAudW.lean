/- Records of what was done: what the laws and their examples come to. -/
import Derived.Test.YtblpmjbddpadcaaAudS
set_option linter.unusedVariables false
set_option linter.unusedSimpArgs false
namespace Go.Mo
open Go.RowKit Go.Lib
theorem GL_lit2 {P : Program} {n : Nat} {ops : Array Oper} {f : Fm} {w w0 : World} {S : List Nat} {H : List Res} {K : Fm → World → Prop} {o : Oper} {rest : List Oper} {d : Nat} {x y : Operand} {T E sz : Nat} {z v u : Value} {L M Q : List Value} (hw : Wn n ops f o) (hd : o.dst = some d) (ho : o.op = .buildSlice T 2 #[(0, x), (1, y)]) (hx : ev n f x = v) (hy : ev n f y = u) (hv : v.cells = ⟨L⟩) (hu : u.cells = ⟨M⟩) (hT : P.underlying T = some (.slice E))
    (hs : (P.info? E).map (·.size) = some sz) (hz : (P.info? E).bind (·.zero) = some z) (hl : Nat.ble (2 * sz) 16777216 = true) (h1 : L.length = sz) (h2 : M.length = sz) (hQ : L ++ M = Q) (hp : Hp w0 S w H)
    (h : ∀ g w', Hp w0 S w' (.row E sz (.slice (some ⟨g, 0, none⟩) 2 2) 2 Q :: H) → GL P n ops rest (upd f d (.slice (some ⟨g, 0, none⟩) 2 2)) w' K) : GL P n ops (o :: rest) f w K := by
  subst hQ
  refine GL_lit (L := L ++ M) hw hd ho hT hs hz hl ?_ (by rw [List.length_append, h1, h2]; omega) rfl hp h
  have e : (#[(0, x), (1, y)].map fun (i, x) => (i, ev n f x)).toList = [((0 : Nat), v), (1, u)] := by simp [hx, hy]
  rw [e]
  have hlen : ∀ (A : Array Value), A = ⟨A.toList⟩ := fun A => rfl
  generalize hA : (Array.range (2 * sz)).map (fun i => z.cells[i % z.cells.size]!) = A
  have hAl : A.toList.length = 2 * sz := by rw [← hA]; simp
  rw [hlen A]
  refine fill_more (L' := L ++ A.toList.drop sz) 0 sz (by simp) hv h1 (by omega) ?_ (fill_more (L' := L ++ M) sz sz (by simp) hu h2 (by rw [List.length_append, List.length_drop]; omega) ?_ (fill_done rfl))
  · have e1 : A.toList = [] ++ (A.toList.take sz ++ A.toList.drop sz) := by rw [List.nil_append, List.take_append_drop]
    rw [e1, splice_mid [] _ _ _ 0 rfl (by rw [List.length_take]; omega), List.nil_append, List.nil_append, List.take_append_drop]
  · have e2 : L ++ A.toList.drop sz = L ++ (A.toList.drop sz ++ []) := by rw [List.append_nil]
    rw [e2, splice_mid L _ [] M sz h1 (by rw [List.length_drop]; omega), List.append_nil]
theorem one_flat (r : Rec) : recC r = [r].flatMap recC := by simp
theorem one_sl {w : World} {v : Value} {r : Rec} (h : Sl w v 100 1 (recC r)) : Sl w v 100 1 ([r].flatMap recC) := by rwa [one_flat] at h
theorem two_flat (r s : Rec) : recC r ++ recC s = [r, s].flatMap recC := by simp
def wA : Rec := ⟨3, 3, ⟨#[97, 110, 110]⟩, a32Z, ⟨#[108, 97, 119]⟩, a32Z, a32Z⟩
def ad1 : A32 := ⟨1 :: List.replicate 31 0, rfl⟩
def wB : Rec := ⟨1, 5, ⟨#[98, 111, 98]⟩, ad1, ⟨#[]⟩, a32Z, a32Z⟩
def wC : Rec := ⟨9, 0, ⟨#[]⟩, a32Z, ⟨#[]⟩, a32Z, a32Z⟩
def rA : Rec := nextV [] wA
def rB : Rec := nextV [rA] wB
abbrev L2 : List Rec := [rA, rB]
abbrev C2 : List Rec := [rB, rA]
theorem wA_ok : checkR wA = 0 := by decide +kernel
theorem wB_ok : checkR wB = 0 := by decide +kernel
theorem wC_no : checkR wC = 1 := by decide +kernel
theorem nextR_sum (l : List Rec) (r : Rec) : (nextR l r).sum = sumR (nextR l r) := rfl
theorem nextR_prev (l : List Rec) (r : Rec) : (nextR l r).prev = headR l := rfl
theorem rA_eq : rA = nextR [] wA := by unfold rA; exact nextV_yes wA_ok
theorem rB_eq : rB = nextR [rA] wB := by unfold rB; exact nextV_yes wB_ok
theorem nextR_check (l : List Rec) (r : Rec) : checkR (nextR l r) = checkR r := rfl
theorem rA_ok : checkR rA = 0 := by rw [rA_eq]; exact (nextR_check _ _).trans wA_ok
theorem rB_ok : checkR rB = 0 := by rw [rB_eq]; exact (nextR_check _ _).trans wB_ok
set_option maxRecDepth 100000 in
theorem rA_sum : rA.sum.1 = [13, 134, 221, 1, 28, 40, 27, 176, 61, 167, 58, 10, 30, 108, 247, 199, 31, 82, 188, 77, 64, 224, 233, 33, 168, 119, 69, 171, 101, 22, 198, 166] := by decide +kernel
set_option maxRecDepth 100000 in
theorem rB_sum : rB.sum.1 = [202, 199, 227, 59, 119, 73, 199, 167, 168, 77, 79, 51, 244, 68, 171, 179, 190, 232, 253, 168, 133, 223, 38, 70, 198, 125, 166, 12, 197, 239, 69, 106] := by decide +kernel
theorem rA_prev : rA.prev = a32Z := by rw [rA_eq]; exact nextR_prev _ _
theorem rB_prev : rB.prev = rA.sum := by rw [rB_eq]; exact nextR_prev _ _
theorem rA_said : rA.sum = sumR rA := by rw [rA_eq]; exact nextR_sum _ _
theorem rB_said : rB.sum = sumR rB := by rw [rB_eq]; exact nextR_sum _ _
theorem sum_ne : ¬ rB.sum = rA.sum := fun e => by have := congrArg Subtype.val e; rw [rA_sum, rB_sum] at this; revert this; decide
theorem sum_nz : ¬ rA.sum = a32Z := fun e => by have := congrArg Subtype.val e; rw [rA_sum] at this; revert this; decide
theorem small2 : ∀ x ∈ L2, x.actor.size ≤ 4294967296 ∧ x.reason.size ≤ 4294967296 := by
  intro x hx
  simp only [List.mem_cons, List.not_mem_nil, or_false] at hx
  rcases hx with rfl | rfl
  · rw [rA_eq]; exact ⟨by decide, by decide⟩
  · rw [rB_eq]; exact ⟨by decide, by decide⟩
theorem smallC : ∀ x ∈ C2, x.actor.size ≤ 4294967296 ∧ x.reason.size ≤ 4294967296 := fun x hx => small2 x (by simp only [List.mem_cons, List.not_mem_nil, or_false] at hx ⊢; exact hx.symm)
theorem okA : okR L2 0 = true := okR_iff.2 ⟨rA_ok, rA_prev, rA_said, fun h => absurd h (by decide)⟩
theorem okB : okR L2 1 = true := okR_iff.2 ⟨rB_ok, rB_prev, rB_said, fun _ => by
  show rA.time ≤ rB.time
  rw [rA_eq, rB_eq]; decide⟩
theorem ver2 : verR L2 = -1 := verR_all fun j hj => by
  have : j = 0 ∨ j = 1 := by have h : j < 2 := hj; omega
  rcases this with rfl | rfl
  · exact okA
  · exact okB
theorem verC : verR C2 = 0 := verR_at (i := 0) (by decide) (fun j hj => absurd hj (by omega)) (okR_no fun q => sum_nz (by
  have : rB.prev = a32Z := q.2.1
  rw [← rB_prev]; exact this))
theorem acc_yes : decide (verR L2 < 0 ∧ headR L2 = rB.sum) = true := decide_eq_true ⟨by rw [ver2]; decide, rfl⟩
theorem acc_no : decide (verR L2 < 0 ∧ headR L2 = rA.sum) = false := decide_eq_false fun q => sum_ne q.2
theorem all2 : ∀ r ∈ L2, checkR r = 0 := by
  intro x hx
  simp only [List.mem_cons, List.not_mem_nil, or_false] at hx
  rcases hx with rfl | rfl
  · exact rA_ok
  · exact rB_ok
theorem exp2 : expE L2 = 0 := exp_all fun j hj => all2 _ (recAt_mem hj)
theorem expB2 : expB L2 = L2.flatMap bytesR := by rw [expB, if_pos exp2]
theorem expL2 : (expB L2).length = 310 := by rw [expB2, flat_bytes all2]; rfl
theorem imp2 : impE (expB L2) = 0 ∧ impL (expB L2) = L2 := by rw [expB2]; exact imp_exp all2
theorem imp3 : impE ((expB L2).take 154) = 3 := by
  have hl : ((expB L2).take 154).length = 154 := by rw [List.length_take, expL2]; rfl
  exact imp_odd (impG_all (k := 0) (by omega) (fun j hj => absurd hj (by omega))) (by omega)
theorem ofB2 : ofR (secRec rB) = rB ∧ ofB' (secRec rB) = true ∧ ofE (secRec rB) = 0 := by
  have h := of_back rB_ok
  exact ⟨by rw [(of_yes h.1).1, h.2], h.1, (of_yes h.1).2⟩
theorem getA : getR (putB rA) = rA ∧ getE (putB rA) = 0 := by
  have h := gr_back rA_ok []
  rw [List.append_nil] at h
  rw [putB_yes rA_ok, (get_yes h.1).1, (get_yes h.1).2]
  exact ⟨h.2, rfl⟩
theorem putA : (putB rA).length = 155 := by rw [putB_yes rA_ok, bytesR_length rA_ok]
theorem clipA : rA.clip = a32Z := by rw [rA_eq]; rfl
theorem clipB : rB.clip = ad1 := by rw [rB_eq]; rfl
theorem clip2 : (L2.filter fun r => decide (r.clip = ad1)).length = 1 := by
  have h1 : decide (rA.clip = ad1) = false := decide_eq_false (by rw [clipA]; decide)
  have h2 : decide (rB.clip = ad1) = true := decide_eq_true clipB
  simp [L2, h1, h2]
abbrev bsBob : ByteArray := ⟨#[98, 111, 98]⟩
theorem bob2 : (L2.filter fun r => decide (r.actor = bsBob)).length = 1 := by
  have h1 : decide (rA.actor = bsBob) = false := by rw [rA_eq]; decide
  have h2 : decide (rB.actor = bsBob) = true := by rw [rB_eq]; decide
  simp [L2, h1, h2]
theorem headL2 : headR L2 = rB.sum := rfl
/-- What the examples are told of. -/
structure WF (a b : Rec) : Prop where
  hA : nextV [] wA = a
  hB : nextV [a] wB = b
  okA : checkR a = 0
  okB : checkR b = 0
  small2 : ∀ x ∈ [a, b], x.actor.size ≤ 4294967296 ∧ x.reason.size ≤ 4294967296
  smallC : ∀ x ∈ [b, a], x.actor.size ≤ 4294967296 ∧ x.reason.size ≤ 4294967296
  exp2 : expE [a, b] = 0
  expL2 : (expB [a, b]).length = 310
  imp2 : impE (expB [a, b]) = 0 ∧ impL (expB [a, b]) = [a, b]
  imp3 : impE ((expB [a, b]).take 154) = 3
  ofB2 : ofR (secRec b) = b ∧ ofB' (secRec b) = true ∧ ofE (secRec b) = 0
  getA : getR (putB a) = a ∧ getE (putB a) = 0
  putA : (putB a).length = 155
  ver2 : verR [a, b] = -1
  verC : verR [b, a] = 0
  acc_yes : decide (verR [a, b] < 0 ∧ headR [a, b] = b.sum) = true
  acc_no : decide (verR [a, b] < 0 ∧ headR [a, b] = a.sum) = false
  clip2 : ([a, b].filter fun r => decide (r.clip = ad1)).length = 1
  bob2 : ([a, b].filter fun r => decide (r.actor = bsBob)).length = 1
  prev : b.prev = a.sum
  said : b.sum = sumR b
theorem wf : WF rA rB := ⟨rfl, rfl, rA_ok, rB_ok, small2, smallC, exp2, expL2, imp2, imp3, ofB2, getA, putA, ver2, verC, acc_yes, acc_no, clip2, bob2, rB_prev, rB_said⟩
/-! ### Guards, chains that are made -/
def litB (r : Rec) : Bool := decide (r.actor.size ≤ 100 ∧ r.reason.size ≤ 100)
def lightI (l : List Rec) : Int := if l.length ≤ 20 ∧ l.all litB = true then 0 else 1
theorem light_long {l : List Rec} (h : 20 < l.length) : lightI l = 1 := by rw [lightI, if_neg (by omega)]
theorem light_bad {l : List Rec} {i : Nat} (hi : i < l.length) (h : litB (recAt l i) = false) : lightI l = 1 := by
  rw [lightI, if_neg (fun q => by have := List.all_eq_true.1 q.2 _ (recAt_mem hi); rw [h] at this; cases this)]
theorem light_ok {l : List Rec} (h : l.length ≤ 20) (ha : ∀ j, j < l.length → litB (recAt l j) = true) : lightI l = 0 := by
  have hall : l.all litB = true := by
    rw [List.all_eq_true]
    intro r hr
    obtain ⟨j, hj⟩ := List.getElem?_of_mem hr
    have hjl := (List.getElem?_eq_some_iff.1 hj).1
    rw [recAt_some hjl] at hj
    rw [← Option.some.inj hj]; exact ha j hjl
  rw [lightI, if_pos ⟨h, hall⟩]
theorem light_of {l : List Rec} (h : lightI l ≤ 0) : l.length ≤ 20 ∧ ∀ r ∈ l, r.actor.size ≤ 100 ∧ r.reason.size ≤ 100 := by
  unfold lightI at h
  split at h
  · rename_i q
    refine ⟨q.1, fun r hr => ?_⟩
    have := List.all_eq_true.1 q.2 r hr
    simpa [litB] using this
  · omega
theorem light_small {l : List Rec} (h : lightI l ≤ 0) : ∀ r ∈ l, r.actor.size ≤ 4294967296 ∧ r.reason.size ≤ 4294967296 := fun r hr => by have := (light_of h).2 r hr; omega
def raiseR (last : Int) (r : Rec) : Rec := if r.time < last then { r with time := last } else r
def madeS (s : List Rec × Int) (r : Rec) : List Rec × Int := if checkR (raiseR s.2 r) = 0 then (s.1 ++ [nextR s.1 (raiseR s.2 r)], (raiseR s.2 r).time) else s
def madeK (l : List Rec) (k : Nat) : List Rec × Int := (l.take k).foldl madeS ([], 0)
def madeR (l : List Rec) : List Rec := (madeK l l.length).1
theorem madeK_succ {l : List Rec} {k : Nat} (h : k < l.length) : madeK l (k + 1) = madeS (madeK l k) (recAt l k) := by
  rw [madeK, take_one (recAt_some h), List.foldl_append]; rfl
theorem madeS_yes {s : List Rec × Int} {r : Rec} (h : checkR (raiseR s.2 r) = 0) : madeS s r = (s.1 ++ [nextR s.1 (raiseR s.2 r)], (raiseR s.2 r).time) := by rw [madeS, if_pos h]
theorem madeS_no {s : List Rec × Int} {r : Rec} (h : ¬ checkR (raiseR s.2 r) = 0) : madeS s r = s := by rw [madeS, if_neg h]
theorem raised_yes {last : Int} {r : Rec} (h : r.time < last) : raiseR last r = { r with time := last } := by rw [raiseR, if_pos h]
theorem raised_no {last : Int} {r : Rec} (h : ¬ r.time < last) : raiseR last r = r := by rw [raiseR, if_neg h]
theorem raised_ge (last : Int) (r : Rec) : last ≤ (raiseR last r).time := by
  unfold raiseR
  split
  · exact Int.le_refl _
  · omega
theorem raised_size (last : Int) (r : Rec) : (raiseR last r).actor = r.actor ∧ (raiseR last r).reason = r.reason := by
  unfold raiseR
  split <;> exact ⟨rfl, rfl⟩
/-- What holds of a chain on the way. -/
def ChainOk (s : List Rec × Int) : Prop := (∀ j, j < s.1.length → okR s.1 j = true) ∧ (∀ j, j < s.1.length → (recAt s.1 j).time ≤ s.2)
theorem chain_nil : ChainOk ([], 0) := ⟨fun j h => absurd h (by simp), fun j h => absurd h (by simp)⟩
theorem chain_step {s : List Rec × Int} {r : Rec} (h : ChainOk s) : ChainOk (madeS s r) := by
  by_cases hc : checkR (raiseR s.2 r) = 0
  · rw [madeS_yes hc]
    have hg := raised_ge s.2 r
    refine ⟨fun j hj => ?_, fun j hj => ?_⟩
    · simp only [List.length_append, List.length_cons, List.length_nil] at hj
      by_cases h1 : j < s.1.length
      · rw [okR_append h1]; exact h.1 j h1
      · obtain rfl : j = s.1.length := by omega
        refine okR_iff.2 ?_
        rw [recAt_last]
        refine ⟨hc, ?_, rfl, fun h0 => ?_⟩
        · rw [List.take_left' rfl]; rfl
        · rw [recAt_append (by omega)]
          have := h.2 (s.1.length - 1) (by omega)
          show _ ≤ (raiseR s.2 r).time
          omega
    · simp only [List.length_append, List.length_cons, List.length_nil] at hj
      by_cases h1 : j < s.1.length
      · rw [recAt_append h1]; have := h.2 j h1; show _ ≤ (raiseR s.2 r).time; omega
      · obtain rfl : j = s.1.length := by omega
        rw [recAt_last]; exact Int.le_refl _
  · rw [madeS_no hc]; exact h
theorem chain_all (l : List Rec) : ∀ k, ChainOk (madeK l k)
  | 0 => chain_nil
  | k + 1 => by
    by_cases h : k < l.length
    · rw [madeK_succ h]; exact chain_step (chain_all l k)
    · have : madeK l (k + 1) = madeK l k := by rw [madeK, madeK, List.take_of_length_le (by omega), List.take_of_length_le (by omega)]
      rw [this]; exact chain_all l k
theorem made_ok (l : List Rec) : ∀ j, j < (madeR l).length → okR (madeR l) j = true := (chain_all l _).1
theorem madeK_length (l : List Rec) : ∀ k, (madeK l k).1.length ≤ k
  | 0 => Nat.le_refl _
  | k + 1 => by
    have ih := madeK_length l k
    by_cases h : k < l.length
    · rw [madeK_succ h]
      unfold madeS
      split
      · simp only [List.length_append, List.length_cons, List.length_nil]; omega
      · omega
    · have : madeK l (k + 1) = madeK l k := by rw [madeK, madeK, List.take_of_length_le (by omega), List.take_of_length_le (by omega)]
      rw [this]; omega
theorem madeS_small {s : List Rec × Int} {r : Rec} {B : Nat} (hs : ∀ x ∈ s.1, x.actor.size ≤ B ∧ x.reason.size ≤ B) (hr : r.actor.size ≤ B ∧ r.reason.size ≤ B) : ∀ x ∈ (madeS s r).1, x.actor.size ≤ B ∧ x.reason.size ≤ B := by
  unfold madeS
  split
  · intro x hx
    rcases List.mem_append.1 hx with hx | hx
    · exact hs x hx
    · simp only [List.mem_singleton] at hx
      subst hx
      have := raised_size s.2 r
      show (raiseR s.2 r).actor.size ≤ B ∧ (raiseR s.2 r).reason.size ≤ B
      rw [this.1, this.2]; exact hr
  · exact hs
theorem madeK_small {l : List Rec} {B : Nat} (h : ∀ x ∈ l, x.actor.size ≤ B ∧ x.reason.size ≤ B) : ∀ k, ∀ x ∈ (madeK l k).1, x.actor.size ≤ B ∧ x.reason.size ≤ B
  | 0 => by simp [madeK]
  | k + 1 => by
    by_cases hk : k < l.length
    · rw [madeK_succ hk]; exact madeS_small (madeK_small h k) (h _ (recAt_mem hk))
    · have : madeK l (k + 1) = madeK l k := by rw [madeK, madeK, List.take_of_length_le (by omega), List.take_of_length_le (by omega)]
      rw [this]; exact madeK_small h k
theorem ver_take {l : List Rec} (h : ∀ j, j < l.length → okR l j = true) (i : Nat) : verR (l.take i) = -1 := verR_all fun j hj => by
  rw [List.length_take] at hj
  rw [okR_take (by omega)]
  exact h j (by omega)
/-! ### Whatever is changed is told -/
def clashB (a b : Rec) : Bool := decide ((sumR a).1 = (sumR b).1) && decide (¬ saidR a = saidR b)
def unlikeB (l : List Rec) : Bool := (List.range l.length).any fun i => (List.range i).any fun k => clashB (recAt l i) (recAt l k)
theorem clash_yes {a b : Rec} (h : (sumR a).1 = (sumR b).1) (h2 : ¬ saidR a = saidR b) : clashB a b = true := by rw [clashB, decide_eq_true h, decide_eq_true h2]; rfl
theorem clash_no1 {a b : Rec} (h : ¬ (sumR a).1 = (sumR b).1) : clashB a b = false := by rw [clashB, decide_eq_false h]; rfl
theorem clash_no2 {a b : Rec} (h : saidR a = saidR b) : clashB a b = false := by rw [clashB, decide_eq_false (show ¬ ¬ saidR a = saidR b from fun q => q h), Bool.and_false]
theorem unlike_yes {l : List Rec} {i k : Nat} (hi : i < l.length) (hk : k < i) (h : clashB (recAt l i) (recAt l k) = true) : unlikeB l = true :=
  List.any_eq_true.2 ⟨i, List.mem_range.2 hi, List.any_eq_true.2 ⟨k, List.mem_range.2 hk, h⟩⟩
theorem unlike_no {l : List Rec} (h : ∀ i, i < l.length → ∀ k, k < i → clashB (recAt l i) (recAt l k) = false) : unlikeB l = false := by
  rw [unlikeB, List.any_eq_false]
  intro i hi
  rw [Bool.not_eq_true, List.any_eq_false]
  intro k hk
  rw [h i (List.mem_range.1 hi) k (List.mem_range.1 hk)]; decide
theorem unlike_of {l : List Rec} (h : unlikeB l = false) {i k : Nat} (hi : i < l.length) (hk : k < i) : clashB (recAt l i) (recAt l k) = false := by
  cases e : clashB (recAt l i) (recAt l k)
  · rfl
  · rw [unlike_yes hi hk e] at h; cases h
theorem said_of {x m : List Rec} (h : unlikeB (x ++ m) = false) {i j : Nat} (hi : i < x.length) (hj : j < m.length) (hs : sumR (recAt x i) = sumR (recAt m j)) : saidR (recAt m j) = saidR (recAt x i) := by
  have := unlike_of h (i := x.length + j) (k := i) (by rw [List.length_append]; omega) (by omega)
  have e1 : recAt (x ++ m) (x.length + j) = recAt m j := by
    rw [recAt, List.getD_eq_getElem?_getD, List.getElem?_append_right (by omega), show x.length + j - x.length = j by omega, recAt, List.getD_eq_getElem?_getD]
  rw [e1, recAt_append hi, clashB, decide_eq_true (congrArg Subtype.val hs.symm), Bool.true_and, decide_eq_false_iff_not, Classical.not_not] at this
  exact this
theorem drop_one {l : List Rec} {i : Nat} (h : i < l.length) : l.drop i = recAt l i :: l.drop (i + 1) := by
  rw [List.drop_eq_getElem_cons h]
  congr 1
  have := recAt_some h
  rw [List.getElem?_eq_getElem h] at this
  exact Option.some.inj this
theorem same_tail {x m : List Rec} (hx : ∀ j, j < x.length → okR x j = true) (hm : ∀ j, j < m.length → okR m j = true) (hh : headR m = headR x) (hu : unlikeB (x ++ m) = false) :
    ∀ n, n ≤ x.length → n ≤ m.length → m.drop (m.length - n) = x.drop (x.length - n) ∧ headR (m.take (m.length - n)) = headR (x.take (x.length - n))
  | 0, _, _ => by
    rw [Nat.sub_zero, Nat.sub_zero, List.drop_of_length_le (Nat.le_refl _), List.drop_of_length_le (Nat.le_refl _), List.take_of_length_le (Nat.le_refl _), List.take_of_length_le (Nat.le_refl _)]
    exact ⟨rfl, hh⟩
  | n + 1, h1, h2 => by
    obtain ⟨ih1, ih2⟩ := same_tail hx hm hh hu n (by omega) (by omega)
    have hi : x.length - (n + 1) < x.length := by omega
    have hj : m.length - (n + 1) < m.length := by omega
    rw [headR_take (by omega) (by omega), headR_take (by omega) (by omega), show m.length - n - 1 = m.length - (n + 1) by omega, show x.length - n - 1 = x.length - (n + 1) by omega] at ih2
    have ox := okR_iff.1 (hx _ hi)
    have om := okR_iff.1 (hm _ hj)
    have hs : sumR (recAt x (x.length - (n + 1))) = sumR (recAt m (m.length - (n + 1))) := by rw [← ox.2.2.1, ← om.2.2.1, ih2]
    have hsd := said_of hu hi hj hs
    obtain ⟨e1, e2, e3, e4, e5, e6⟩ := said_inj om.1 ox.1 hsd
    have er : recAt m (m.length - (n + 1)) = recAt x (x.length - (n + 1)) := by
      cases ha : recAt m (m.length - (n + 1))
      cases hb : recAt x (x.length - (n + 1))
      rw [ha, hb] at e1 e2 e3 e4 e5 e6 ih2
      simp only at e1 e2 e3 e4 e5 e6 ih2
      rw [e1, e2, e3, e4, e5, e6, ih2]
    refine ⟨?_, ?_⟩
    · rw [drop_one hj, drop_one hi, er, show m.length - (n + 1) + 1 = m.length - n by omega, show x.length - (n + 1) + 1 = x.length - n by omega, ih1]
    · rw [← om.2.1, ← ox.2.1, e6]
theorem told {x m : List Rec} (hx : ∀ j, j < x.length → okR x j = true) (hm : ∀ j, j < m.length → okR m j = true) (hh : headR m = headR x) (hu : unlikeB (x ++ m) = false) {n : Nat} (hn : n = min x.length m.length) :
    m.drop (m.length - n) = x.drop (x.length - n) ∧ (n < m.length → (recAt m (m.length - n - 1)).sum = a32Z) ∧ (n < x.length → (recAt x (x.length - n - 1)).sum = a32Z) := by
  obtain ⟨h1, h2⟩ := same_tail hx hm hh hu n (by omega) (by omega)
  refine ⟨h1, fun h => ?_, fun h => ?_⟩
  · rw [headR_take (by omega) (by omega), headR_nil (l := x.take (x.length - n)) (by rw [List.length_take]; omega)] at h2
    exact h2
  · rw [headR_take (l := x) (by omega) (by omega), headR_nil (l := m.take (m.length - n)) (by rw [List.length_take]; omega)] at h2
    exact h2.symm
theorem same_cells {l m : List Rec} (h : l = m) : decide (l = m) = true := decide_eq_true h
theorem made_go {l xs : List Rec} {i : Nat} {last : Int} (hi : i < l.length) (hx : xs = (madeK l i).1) (hl : last = (madeK l i).2) (hc : checkR (raiseR last (recAt l i)) = 0) : xs ++ [nextR xs (raiseR last (recAt l i))] = (madeK l (i + 1)).1 ∧ (raiseR last (recAt l i)).time = (madeK l (i + 1)).2 := by
  subst hx hl
  rw [madeK_succ hi, madeS_yes hc]
  exact ⟨rfl, rfl⟩
theorem made_stay {l xs : List Rec} {i : Nat} {last : Int} (hi : i < l.length) (hx : xs = (madeK l i).1) (hl : last = (madeK l i).2) (hc : ¬ checkR (raiseR last (recAt l i)) = 0) : xs = (madeK l (i + 1)).1 ∧ last = (madeK l (i + 1)).2 := by
  subst hx hl
  rw [madeK_succ hi, madeS_no hc]
  exact ⟨rfl, rfl⟩
theorem rec_ext {l m : List Rec} (hl : l.length = m.length) (h : ∀ j, j < l.length → recAt l j = recAt m j) : l = m := by
  apply List.ext_getElem?
  intro j
  by_cases hj : j < l.length
  · rw [recAt_some hj, recAt_some (by omega), h j hj]
  · rw [List.getElem?_eq_none (by omega), List.getElem?_eq_none (by omega)]
theorem filt_at {l : List Rec} {p : Rec → Bool} {i : Nat} (hi : i < l.length) (hp : p (recAt l i) = true) : ((l.take i).filter p).length < (l.filter p).length ∧ recAt (l.filter p) ((l.take i).filter p).length = recAt l i := by
  have e : l.filter p = (l.take i).filter p ++ (recAt l i :: (l.drop (i + 1)).filter p) := by
    have h := List.take_append_drop i l
    rw [drop_one hi] at h
    rw [← List.filter_cons_of_pos hp, ← List.filter_append, h]
  rw [e]
  refine ⟨by simp, ?_⟩
  rw [recAt, List.getD_eq_getElem?_getD, List.getElem?_append_right (Nat.le_refl _), Nat.sub_self]; rfl
theorem filt_go {l : List Rec} {p : Rec → Bool} {i : Nat} (hi : i < l.length) (hp : p (recAt l i) = true) : ((l.take i).filter p).length + 1 = ((l.take (i + 1)).filter p).length := by rw [filter_snoc hi, hp]; simp
theorem filt_stay {l : List Rec} {p : Rec → Bool} {i : Nat} (hi : i < l.length) (hp : p (recAt l i) = false) : ((l.take i).filter p).length = ((l.take (i + 1)).filter p).length := by rw [filter_snoc hi, hp]; simp
theorem litB_no {r : Rec} (h : 100 < r.actor.size ∨ 100 < r.reason.size) : litB r = false := decide_eq_false (by omega)
theorem litB_yes {r : Rec} (h : r.actor.size ≤ 100) (h2 : r.reason.size ≤ 100) : litB r = true := decide_eq_true ⟨h, h2⟩
theorem rd_minN {P : Program} {n : Nat} {f : Fm} {w : World} {o : Oper} {x y : Operand} {ts : Array TypeId} {k : IntKind} {p q : Nat} (ho : o.op = .call { callee := .builtin .min, args := #[x, y], argTypes := ts }) (hx : ev n f x = .int k (p : Int)) (hy : ev n f y = .int k (q : Int)) : Rd P n f o w (.int k ((min p q : Nat) : Int)) := by
  have h := rd_min (P := P) (w := w) ho hx hy
  rwa [show (min (p : Int) (q : Int)) = ((min p q : Nat) : Int) by omega] at h
theorem tail_same {x q : List Rec} {n : Nat} (h : q.drop (q.length - n) = x.drop (x.length - n)) : decide ((q.drop (q.length - n)).take (q.length - (q.length - n)) = (x.drop (x.length - n)).take (x.length - (x.length - n))) = true := by
  rw [List.take_of_length_le (by rw [List.length_drop]; omega), List.take_of_length_le (by rw [List.length_drop]; omega)]
  exact decide_eq_true h
theorem gr_small (l : List UInt8) : (gr l).actor.size ≤ 4294967296 ∧ (gr l).reason.size ≤ 4294967296 := by
  have h1 := unpadL_le (b := grA l)
  have h2 : (grA l).length ≤ 16 := List.length_take_le _ _
  have h3 := unpadL_le (b := grQ l)
  have h4 : (grQ l).length ≤ 32 := List.length_take_le _ _
  exact ⟨by show (unpadL (grA l)).length ≤ _; omega, by show (unpadL (grQ l)).length ≤ _; omega⟩
theorem ofR_small (x : List UInt8) : (ofR x).actor.size ≤ 4294967296 ∧ (ofR x).reason.size ≤ 4294967296 := by
  unfold ofR
  split
  · exact gr_small _
  · exact ⟨by decide, by decide⟩
theorem imp_small (b : List UInt8) : ∀ x ∈ impL b, x.actor.size ≤ 4294967296 ∧ x.reason.size ≤ 4294967296 := by
  intro x hx
  unfold impL at hx
  split at hx
  · obtain ⟨j, _, rfl⟩ := List.mem_map.1 hx
    exact gr_small _
  · simp at hx
theorem imp_len (b : List UInt8) : (impL b).length ≤ b.length := by
  unfold impL
  split
  · rw [impK_length]; omega
  · simp
theorem exp_len {l : List Rec} (h : expE l = 0) : (expB l).length = 155 * l.length := by rw [expB, if_pos h, flat_bytes (exp_zero h)]
theorem exp_imp {l : List Rec} (h : expE l = 0) : impE (expB l) = 0 ∧ impL (expB l) = l := by rw [expB, if_pos h]; exact imp_exp (exp_zero h)
theorem of_five {x : List UInt8} (h : ¬ ofE x = 0) : ofE x = 5 ∧ ofB' x = false := by
  by_cases hq : x = List.replicate 256 0 ∨ ofB' x = true
  · exact absurd (by rw [ofE, if_pos hq]) h
  · exact ⟨by rw [ofE, if_neg hq], by cases e : ofB' x; rfl; exact absurd (.inr e) hq⟩
theorem of_none {x : List UInt8} (h : ofE x = 0) (hb : ofB' x = false) : x = List.replicate 256 0 := by
  by_cases hq : x = List.replicate 256 0 ∨ ofB' x = true
  · rcases hq with hq | hq
    · exact hq
    · rw [hb] at hq; cases hq
  · rw [ofE, if_neg hq] at h; cases h
theorem of_some {x : List UInt8} (hx : x.length = 256) (h : ofB' x = true) : checkR (ofR x) = 0 ∧ secRec (ofR x) = x := by
  rw [(of_yes h).1]; exact of_forth hx h
theorem of_rec {r : Rec} (h : checkR r = 0) : ofR (secRec r) = r ∧ ofB' (secRec r) = true ∧ ofE (secRec r) = 0 := by
  have hb := of_back h
  exact ⟨by rw [(of_yes hb.1).1, hb.2], hb.1, (of_yes hb.1).2⟩
theorem rd_notT {P : Program} {n : Nat} {f : Fm} {w : World} {o : Oper} {x : Operand} {T : TypeId} {b : Bool} (hb : b = false) (ho : o.op = .unOp .not T x) (hx : ev n f x = .bool b) : Rd P n f o w (.bool true) := by
  subst hb; exact rd_not ho hx
end Go.Mo
