/- Records of what was done: what the laws and their examples come to. -/
import Derived.Test.YtpagpmioopaciaaGreatPAudS
set_option linter.unusedVariables false
set_option linter.unusedSimpArgs false
namespace Go.Mo
open Go.RowKit Go.Lib
theorem one_flat (r : Rec) : recC r = [r].flatMap recC := by simp
theorem one_sl {w : World} {v : Value} {r : Rec} (h : Sl w v 100 1 (recC r)) : Sl w v 100 1 ([r].flatMap recC) := by rwa [one_flat] at h
def wA : Rec := ⟨3, 3, ⟨#[97, 110, 110]⟩, a32Z, ⟨#[108, 97, 119]⟩, a32Z, a32Z⟩
def ad1 : A32 := ⟨1 :: List.replicate 31 0, rfl⟩
def wB : Rec := ⟨1, 5, ⟨#[98, 111, 98]⟩, ad1, ⟨#[]⟩, a32Z, a32Z⟩
def rA : Rec := nextV [] wA
def rB : Rec := nextV [rA] wB
abbrev L2 : List Rec := [rA, rB]
abbrev C2 : List Rec := [rB, rA]
theorem wA_ok : checkR wA = 0 := by decide +kernel
theorem wB_ok : checkR wB = 0 := by decide +kernel
theorem nextR_sum (l : List Rec) (r : Rec) : (nextR l r).sum = sumR (nextR l r) := rfl
theorem nextR_prev (l : List Rec) (r : Rec) : (nextR l r).prev = headR l := rfl
theorem rA_eq : rA = nextR [] wA := by unfold rA; exact nextV_yes wA_ok
theorem rB_eq : rB = nextR [rA] wB := by unfold rB; exact nextV_yes wB_ok
theorem nextR_check (l : List Rec) (r : Rec) : checkR (nextR l r) = checkR r := rfl
theorem rA_ok : checkR rA = 0 := by rw [rA_eq]; exact (nextR_check _ _).trans wA_ok
theorem rB_ok : checkR rB = 0 := by rw [rB_eq]; exact (nextR_check _ _).trans wB_ok
set_option maxRecDepth 100000 in
theorem rA_sum : rA.sum.1 = [13, 134, 221, 1, 28, 40, 27, 176, 61, 167, 58, 10, 30, 108, 247, 199, 31, 82, 188, 77, 64, 224, 233, 33, 168, 119, 69, 171, 101, 22, 198, 166] := by decide +kernel
set_option maxRecDepth 100000 in
theorem rB_sum : rB.sum.1 = [202, 199, 227, 59, 119, 73, 199, 167, 168, 77, 79, 51, 244, 68, 171, 179, 190, 232, 253, 168, 133, 223, 38, 70, 198, 125, 166, 12, 197, 239, 69, 106] := by decide +kernel
theorem rA_prev : rA.prev = a32Z := by rw [rA_eq]; exact nextR_prev _ _
theorem rB_prev : rB.prev = rA.sum := by rw [rB_eq]; exact nextR_prev _ _
theorem rA_said : rA.sum = sumR rA := by rw [rA_eq]; exact nextR_sum _ _
theorem rB_said : rB.sum = sumR rB := by rw [rB_eq]; exact nextR_sum _ _
theorem sum_ne : ¬ rB.sum = rA.sum := fun e => by have := congrArg Subtype.val e; rw [rA_sum, rB_sum] at this; revert this; decide
theorem sum_nz : ¬ rA.sum = a32Z := fun e => by have := congrArg Subtype.val e; rw [rA_sum] at this; revert this; decide
theorem small2 : ∀ x ∈ L2, x.actor.size ≤ 4294967296 ∧ x.reason.size ≤ 4294967296 := by
  intro x hx
  simp only [List.mem_cons, List.not_mem_nil, or_false] at hx
  rcases hx with rfl | rfl
  · rw [rA_eq]; exact ⟨by decide, by decide⟩
  · rw [rB_eq]; exact ⟨by decide, by decide⟩
theorem smallC : ∀ x ∈ C2, x.actor.size ≤ 4294967296 ∧ x.reason.size ≤ 4294967296 := fun x hx => small2 x (by simp only [List.mem_cons, List.not_mem_nil, or_false] at hx ⊢; exact hx.symm)
theorem okA : okR L2 0 = true := okR_iff.2 ⟨rA_ok, rA_prev, rA_said, fun h => absurd h (by decide)⟩
theorem okB : okR L2 1 = true := okR_iff.2 ⟨rB_ok, rB_prev, rB_said, fun _ => by
  show rA.time ≤ rB.time
  rw [rA_eq, rB_eq]; decide⟩
theorem ver2 : verR L2 = -1 := verR_all fun j hj => by
  have : j = 0 ∨ j = 1 := by have h : j < 2 := hj; omega
  rcases this with rfl | rfl
  · exact okA
  · exact okB
theorem verC : verR C2 = 0 := verR_at (i := 0) (by decide) (fun j hj => absurd hj (by omega)) (okR_no fun q => sum_nz (by
  have : rB.prev = a32Z := q.2.1
  rw [← rB_prev]; exact this))
theorem acc_yes : decide (verR L2 < 0 ∧ headR L2 = rB.sum) = true := decide_eq_true ⟨by rw [ver2]; decide, rfl⟩
theorem acc_no : decide (verR L2 < 0 ∧ headR L2 = rA.sum) = false := decide_eq_false fun q => sum_ne q.2
theorem all2 : ∀ r ∈ L2, checkR r = 0 := by
  intro x hx
  simp only [List.mem_cons, List.not_mem_nil, or_false] at hx
  rcases hx with rfl | rfl
  · exact rA_ok
  · exact rB_ok
theorem exp2 : expE L2 = 0 := exp_all fun j hj => all2 _ (recAt_mem hj)
theorem expB2 : expB L2 = L2.flatMap bytesR := by rw [expB, if_pos exp2]
theorem expL2 : (expB L2).length = 310 := by rw [expB2, flat_bytes all2]; rfl
theorem imp2 : impE (expB L2) = 0 ∧ impL (expB L2) = L2 := by rw [expB2]; exact imp_exp all2
theorem imp3 : impE ((expB L2).take 154) = 3 := by
  have hl : ((expB L2).take 154).length = 154 := by rw [List.length_take, expL2]; rfl
  exact imp_odd (impG_all (k := 0) (by omega) (fun j hj => absurd hj (by omega))) (by omega)
theorem ofB2 : ofR (secRec rB) = rB ∧ ofB' (secRec rB) = true ∧ ofE (secRec rB) = 0 := by
  have h := of_back rB_ok
  exact ⟨by rw [(of_yes h.1).1, h.2], h.1, (of_yes h.1).2⟩
theorem getA : getR (putB rA) = rA ∧ getE (putB rA) = 0 := by
  have h := gr_back rA_ok []
  rw [List.append_nil] at h
  rw [putB_yes rA_ok, (get_yes h.1).1, (get_yes h.1).2]
  exact ⟨h.2, rfl⟩
theorem putA : (putB rA).length = 155 := by rw [putB_yes rA_ok, bytesR_length rA_ok]
theorem clipA : rA.clip = a32Z := by rw [rA_eq]; rfl
theorem clipB : rB.clip = ad1 := by rw [rB_eq]; rfl
theorem clip2 : (L2.filter fun r => decide (r.clip = ad1)).length = 1 := by
  have h1 : decide (rA.clip = ad1) = false := decide_eq_false (by rw [clipA]; decide)
  have h2 : decide (rB.clip = ad1) = true := decide_eq_true clipB
  simp [L2, h1, h2]
abbrev bsBob : ByteArray := ⟨#[98, 111, 98]⟩
theorem bob2 : (L2.filter fun r => decide (r.actor = bsBob)).length = 1 := by
  have h1 : decide (rA.actor = bsBob) = false := by rw [rA_eq]; decide
  have h2 : decide (rB.actor = bsBob) = true := by rw [rB_eq]; decide
  simp [L2, h1, h2]
/-- What the examples are told of. -/
structure WF (a b : Rec) : Prop where
  hA : nextV [] wA = a
  hB : nextV [a] wB = b
  okA : checkR a = 0
  okB : checkR b = 0
  small2 : ∀ x ∈ [a, b], x.actor.size ≤ 4294967296 ∧ x.reason.size ≤ 4294967296
  smallC : ∀ x ∈ [b, a], x.actor.size ≤ 4294967296 ∧ x.reason.size ≤ 4294967296
  exp2 : expE [a, b] = 0
  expL2 : (expB [a, b]).length = 310
  imp2 : impE (expB [a, b]) = 0 ∧ impL (expB [a, b]) = [a, b]
  imp3 : impE ((expB [a, b]).take 154) = 3
  ofB2 : ofR (secRec b) = b ∧ ofB' (secRec b) = true ∧ ofE (secRec b) = 0
  getA : getR (putB a) = a ∧ getE (putB a) = 0
  putA : (putB a).length = 155
  ver2 : verR [a, b] = -1
  verC : verR [b, a] = 0
  acc_yes : decide (verR [a, b] < 0 ∧ headR [a, b] = b.sum) = true
  acc_no : decide (verR [a, b] < 0 ∧ headR [a, b] = a.sum) = false
  clip2 : ([a, b].filter fun r => decide (r.clip = ad1)).length = 1
  bob2 : ([a, b].filter fun r => decide (r.actor = bsBob)).length = 1
  prev : b.prev = a.sum
  said : b.sum = sumR b
theorem wf : WF rA rB := ⟨rfl, rfl, rA_ok, rB_ok, small2, smallC, exp2, expL2, imp2, imp3, ofB2, getA, putA, ver2, verC, acc_yes, acc_no, clip2, bob2, rB_prev, rB_said⟩
def litB (r : Rec) : Bool := decide (r.actor.size ≤ 100 ∧ r.reason.size ≤ 100)
def lightI (l : List Rec) : Int := if l.length ≤ 20 ∧ l.all litB = true then 0 else 1
theorem light_long {l : List Rec} (h : 20 < l.length) : lightI l = 1 := by rw [lightI, if_neg (by omega)]
theorem light_bad {l : List Rec} {i : Nat} (hi : i < l.length) (h : litB (recAt l i) = false) : lightI l = 1 := by
  rw [lightI, if_neg (fun q => by have := List.all_eq_true.1 q.2 _ (recAt_mem hi); rw [h] at this; cases this)]
theorem light_ok {l : List Rec} (h : l.length ≤ 20) (ha : ∀ j, j < l.length → litB (recAt l j) = true) : lightI l = 0 := by
  have hall : l.all litB = true := by
    rw [List.all_eq_true]
    intro r hr
    obtain ⟨j, hj⟩ := List.getElem?_of_mem hr
    have hjl := (List.getElem?_eq_some_iff.1 hj).1
    rw [recAt_some hjl] at hj
    rw [← Option.some.inj hj]; exact ha j hjl
  rw [lightI, if_pos ⟨h, hall⟩]
theorem light_of {l : List Rec} (h : lightI l ≤ 0) : l.length ≤ 20 ∧ ∀ r ∈ l, r.actor.size ≤ 100 ∧ r.reason.size ≤ 100 := by
  unfold lightI at h
  split at h
  · rename_i q
    refine ⟨q.1, fun r hr => ?_⟩
    have := List.all_eq_true.1 q.2 r hr
    simpa [litB] using this
  · omega
theorem light_small {l : List Rec} (h : lightI l ≤ 0) : ∀ r ∈ l, r.actor.size ≤ 4294967296 ∧ r.reason.size ≤ 4294967296 := fun r hr => by have := (light_of h).2 r hr; omega
def clashB (a b : Rec) : Bool := decide ((sumR a).1 = (sumR b).1) && decide (¬ saidR a = saidR b)
def unlikeB (l : List Rec) : Bool := (List.range l.length).any fun i => (List.range i).any fun k => clashB (recAt l i) (recAt l k)
theorem unlike_yes {l : List Rec} {i k : Nat} (hi : i < l.length) (hk : k < i) (h : clashB (recAt l i) (recAt l k) = true) : unlikeB l = true :=
  List.any_eq_true.2 ⟨i, List.mem_range.2 hi, List.any_eq_true.2 ⟨k, List.mem_range.2 hk, h⟩⟩
theorem unlike_of {l : List Rec} (h : unlikeB l = false) {i k : Nat} (hi : i < l.length) (hk : k < i) : clashB (recAt l i) (recAt l k) = false := by
  cases e : clashB (recAt l i) (recAt l k)
  · rfl
  · rw [unlike_yes hi hk e] at h; cases h
theorem said_of {x m : List Rec} (h : unlikeB (x ++ m) = false) {i j : Nat} (hi : i < x.length) (hj : j < m.length) (hs : sumR (recAt x i) = sumR (recAt m j)) : saidR (recAt m j) = saidR (recAt x i) := by
  have := unlike_of h (i := x.length + j) (k := i) (by rw [List.length_append]; omega) (by omega)
  have e1 : recAt (x ++ m) (x.length + j) = recAt m j := by
    rw [recAt, List.getD_eq_getElem?_getD, List.getElem?_append_right (by omega), show x.length + j - x.length = j by omega, recAt, List.getD_eq_getElem?_getD]
  rw [e1, recAt_append hi, clashB, decide_eq_true (congrArg Subtype.val hs.symm), Bool.true_and, decide_eq_false_iff_not, Classical.not_not] at this
  exact this
theorem drop_one {l : List Rec} {i : Nat} (h : i < l.length) : l.drop i = recAt l i :: l.drop (i + 1) := by
  rw [List.drop_eq_getElem_cons h]
  congr 1
  have := recAt_some h
  rw [List.getElem?_eq_getElem h] at this
  exact Option.some.inj this
theorem same_tail {x m : List Rec} (hx : ∀ j, j < x.length → okR x j = true) (hm : ∀ j, j < m.length → okR m j = true) (hh : headR m = headR x) (hu : unlikeB (x ++ m) = false) :
    ∀ n, n ≤ x.length → n ≤ m.length → m.drop (m.length - n) = x.drop (x.length - n) ∧ headR (m.take (m.length - n)) = headR (x.take (x.length - n))
  | 0, _, _ => by
    rw [Nat.sub_zero, Nat.sub_zero, List.drop_of_length_le (Nat.le_refl _), List.drop_of_length_le (Nat.le_refl _), List.take_of_length_le (Nat.le_refl _), List.take_of_length_le (Nat.le_refl _)]
    exact ⟨rfl, hh⟩
  | n + 1, h1, h2 => by
    obtain ⟨ih1, ih2⟩ := same_tail hx hm hh hu n (by omega) (by omega)
    have hi : x.length - (n + 1) < x.length := by omega
    have hj : m.length - (n + 1) < m.length := by omega
    rw [headR_take (by omega) (by omega), headR_take (by omega) (by omega), show m.length - n - 1 = m.length - (n + 1) by omega, show x.length - n - 1 = x.length - (n + 1) by omega] at ih2
    have ox := okR_iff.1 (hx _ hi)
    have om := okR_iff.1 (hm _ hj)
    have hs : sumR (recAt x (x.length - (n + 1))) = sumR (recAt m (m.length - (n + 1))) := by rw [← ox.2.2.1, ← om.2.2.1, ih2]
    have hsd := said_of hu hi hj hs
    obtain ⟨e1, e2, e3, e4, e5, e6⟩ := said_inj om.1 ox.1 hsd
    have er : recAt m (m.length - (n + 1)) = recAt x (x.length - (n + 1)) := by
      cases ha : recAt m (m.length - (n + 1))
      cases hb : recAt x (x.length - (n + 1))
      rw [ha, hb] at e1 e2 e3 e4 e5 e6 ih2
      simp only at e1 e2 e3 e4 e5 e6 ih2
      rw [e1, e2, e3, e4, e5, e6, ih2]
    refine ⟨?_, ?_⟩
    · rw [drop_one hj, drop_one hi, er, show m.length - (n + 1) + 1 = m.length - n by omega, show x.length - (n + 1) + 1 = x.length - n by omega, ih1]
    · rw [← om.2.1, ← ox.2.1, e6]
theorem told {x m : List Rec} (hx : ∀ j, j < x.length → okR x j = true) (hm : ∀ j, j < m.length → okR m j = true) (hh : headR m = headR x) (hu : unlikeB (x ++ m) = false) {n : Nat} (hn : n = min x.length m.length) :
    m.drop (m.length - n) = x.drop (x.length - n) ∧ (n < m.length → (recAt m (m.length - n - 1)).sum = a32Z) ∧ (n < x.length → (recAt x (x.length - n - 1)).sum = a32Z) := by
  obtain ⟨h1, h2⟩ := same_tail hx hm hh hu n (by omega) (by omega)
  refine ⟨h1, fun h => ?_, fun h => ?_⟩
  · rw [headR_take (by omega) (by omega), headR_nil (l := x.take (x.length - n)) (by rw [List.length_take]; omega)] at h2
    exact h2
  · rw [headR_take (l := x) (by omega) (by omega), headR_nil (l := m.take (m.length - n)) (by rw [List.length_take]; omega)] at h2
    exact h2.symm
theorem litB_no {r : Rec} (h : 100 < r.actor.size ∨ 100 < r.reason.size) : litB r = false := decide_eq_false (by omega)
theorem litB_yes {r : Rec} (h : r.actor.size ≤ 100) (h2 : r.reason.size ≤ 100) : litB r = true := decide_eq_true ⟨h, h2⟩
end Go.Mo
