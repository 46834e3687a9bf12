/- The words of memory: what blocks and rows a call owns in a world, what it reads of others, and the operations that load, store, make and grow them. Nothing of the program stands here. -/
import Derived.Test.YtpagpmioopaciaaGreatPBase
import Derived.Laws.CopyOwn
import Derived.Lib.AppendStr
import Derived.Laws.MakeOwn
set_option linter.unusedVariables false
set_option linter.unusedSimpArgs false
namespace Go.Mo
open Go.RowKit
/-- All blocks of w but those of S are in w' as they were. -/
structure Mod (S : List Nat) (w w' : World) : Prop where
  os : w'.os = w.os
  tape : w'.tape = w.tape
  output : w'.output = w.output
  size : w.heap.size ≤ w'.heap.size
  block : ∀ k, k < w.heap.size → k ∉ S → w'.heap[k]? = w.heap[k]?
theorem Mod.refl (S : List Nat) (w : World) : Mod S w w := ⟨rfl, rfl, rfl, Nat.le_refl _, fun _ _ _ => rfl⟩
theorem Mod.trans {S S' : List Nat} {a b c : World} (h : Mod S a b) (k : Mod S' b c) (hs : ∀ x ∈ S', x ∈ S ∨ a.heap.size ≤ x) : Mod S a c :=
  ⟨k.os.trans h.os, k.tape.trans h.tape, k.output.trans h.output, Nat.le_trans h.size k.size, fun i hi hn =>
    (k.block i (Nat.lt_of_lt_of_le hi h.size) fun hm => by rcases hs i hm with h1 | h1; exact hn h1; omega).trans (h.block i hi hn)⟩
theorem Mod.weaken {S S' : List Nat} {a b : World} (h : Mod S a b) (hs : ∀ x ∈ S, x ∈ S') : Mod S' a b :=
  ⟨h.os, h.tape, h.output, h.size, fun i hi hn => h.block i hi fun hm => hn (hs i hm)⟩
theorem Mod.alloc (w : World) (o : Obj) : Mod [] w (w.alloc o) := ⟨rfl, rfl, rfl, by simp, fun k hk _ => Below.heap_alloc w o k hk⟩
theorem Mod.drew (w : World) : Mod [] w w.drew := ⟨rfl, rfl, rfl, Nat.le_refl _, fun _ _ _ => rfl⟩
theorem Mod.grown {w w' : World} {v : Value} (h : w.grownBy w' v.ownBlock) : Mod v.ownBlock.toList w w' :=
  ⟨h.os, h.tape, h.output, h.size, fun k hk hn => h.block k hk fun e => hn (by rw [← e]; simp)⟩
theorem Mod.below {w w' : World} (h : Below w.heap.size w w') : Mod [] w w' := ⟨h.os, h.tape, h.output, h.size, fun k hk _ => h.block k hk⟩
theorem Mod.toBelow {w w' : World} (h : Mod [] w w') : Below w.heap.size w w' := ⟨h.os, h.tape, h.output, h.size, fun k hk => h.block k hk (by simp)⟩
theorem Mod.cell {S : List Nat} {w w' : World} (h : Mod S w w') {a : Addr} {v : Value} (hc : w.cell? a = some v) (hn : a.block ∉ S) : w'.cell? a = some v :=
  (World.cell?_of_block (h.block a.block (World.block_lt_of_cell? w a hc) hn)).trans hc
/-- What is owned: a block, known whole; a row of a slice, whose spare places are not known; or whatever lives in some blocks alone. -/
inductive Res where
  | blk (g : Nat) (o : Obj)
  | row (T sz : Nat) (v : Value) (n : Nat) (xs : List Value)
  | pack (f : List Nat) (p : World → Prop) (hk : ∀ w w' : World, (∀ g ∈ f, w'.heap[g]? = w.heap[g]?) → p w → p w') (hl : ∀ w, p w → ∀ g ∈ f, g < w.heap.size)
def Res.foot : Res → List Nat
  | .blk g _ => [g]
  | .row _ _ v _ _ => v.ownBlock.toList
  | .pack f _ _ _ => f
def Res.at_ (w : World) : Res → Prop
  | .blk g o => w.heap[g]? = some o
  | .row T sz v n xs => w.ownsRow 0 T sz v n xs
  | .pack _ p _ _ => p w
theorem Res.lt {w : World} {r : Res} (h : r.at_ w) : ∀ g, g ∈ r.foot → g < w.heap.size := by
  intro g hg
  cases r with
  | blk g' o =>
    simp only [Res.foot, List.mem_singleton] at hg
    subst hg
    exact (Array.getElem?_eq_some_iff.1 h).1
  | row T sz v n xs => exact (World.ownsRow.lt h g (by simpa [Res.foot] using hg)).2
  | pack f p hk hl => exact hl w h g hg
theorem Res.kept {w w' : World} {S : List Nat} {r : Res} (h : r.at_ w) (hm : Mod S w w') (hn : ∀ g, g ∈ r.foot → g ∉ S) : r.at_ w' := by
  cases r with
  | blk g o => exact (hm.block g (Res.lt (r := .blk g o) h g (by simp [Res.foot])) (hn g (by simp [Res.foot]))).trans h
  | row T sz v n xs =>
    obtain ⟨h1, h2⟩ := h
    refine ⟨h1, ?_⟩
    rcases h2 with h2 | ⟨g, cap, cur, rfl, hb, hh, r⟩
    · exact .inl h2
    · exact .inr ⟨g, cap, cur, rfl, hb, (hm.block g (Array.getElem?_eq_some_iff.1 hh).1 (hn g (by simp [Res.foot, Value.ownBlock]))).trans hh, r⟩
  | pack f p hk hl => exact hk w w' (fun g hg => hm.block g (hl w h g hg) (hn g hg)) h
def apartR (a b : Res) : Prop := ∀ g, g ∈ a.foot → ¬ g ∈ b.foot
/-- The world w, seen from w0: but for the blocks of S all of w0 is as it was; the things of H are owned, each apart from the others. -/
structure Hp (w0 : World) (S : List Nat) (w : World) (H : List Res) : Prop where
  mod : Mod S w0 w
  own : ∀ r ∈ H, r.at_ w
  new : ∀ r ∈ H, ∀ g, g ∈ r.foot → w0.heap.size ≤ g ∨ g ∈ S
  nd : H.Pairwise apartR
theorem Hp.refl (w : World) (S : List Nat) : Hp w S w [] := ⟨Mod.refl S w, by simp, by simp, .nil⟩
theorem Hp.one {w : World} {g : Nat} {o : Obj} (h : w.heap[g]? = some o) : Hp w [g] w [.blk g o] :=
  ⟨Mod.refl _ w, by simpa [Res.at_] using h, by simp [Res.foot], by simp⟩
theorem Hp.get {w0 w : World} {S : List Nat} {H : List Res} (h : Hp w0 S w H) (i : Nat) {r : Res} (hi : H[i]? = some r) : r.at_ w := h.own r (List.mem_of_getElem? hi)
theorem Hp.drop {w0 w : World} {S : List Nat} {H : List Res} (k : Nat) (h : Hp w0 S w H) : Hp w0 S w (H.drop k) :=
  ⟨h.mod, fun r hr => h.own r (List.mem_of_mem_drop hr), fun r hr => h.new r (List.mem_of_mem_drop hr), h.nd.sublist (List.drop_sublist k H)⟩
theorem Hp.sub {w0 w : World} {S : List Nat} {H H' : List Res} (h : Hp w0 S w H) (hs : H'.Sublist H) : Hp w0 S w H' :=
  ⟨h.mod, fun r hr => h.own r (hs.subset hr), fun r hr => h.new r (hs.subset hr), h.nd.sublist hs⟩
theorem apartR_symm {a b : Res} (h : apartR a b) : apartR b a := fun g hg he => h g he hg
theorem Hp.perm {w0 w : World} {S : List Nat} {H H' : List Res} (h : Hp w0 S w H) (hp : H'.Perm H) : Hp w0 S w H' :=
  ⟨h.mod, fun r hr => h.own r (hp.mem_iff.1 hr), fun r hr => h.new r (hp.mem_iff.1 hr), (hp.pairwise_iff apartR_symm).2 h.nd⟩
theorem Hp.foot_lt {w0 w : World} {S : List Nat} {H : List Res} (h : Hp w0 S w H) {r : Res} (hr : r ∈ H) {g : Nat} (hg : g ∈ r.foot) : g < w.heap.size := Res.lt (h.own r hr) g hg
/-- A step of the world that leaves all that there is, and makes new things. -/
theorem Hp.comp {w0 w w' : World} {S : List Nat} {H H' : List Res} (h : Hp w0 S w H) (k : Hp w [] w' H') : Hp w0 S w' (H' ++ H) := by
  have hnew : ∀ r ∈ H', ∀ g, g ∈ r.foot → w.heap.size ≤ g := fun r hr g hg => by
    rcases k.new r hr g hg with h1 | h1
    · exact h1
    · cases h1
  refine ⟨h.mod.trans k.mod (by simp), fun r hr => ?_, fun r hr g hg => ?_, List.pairwise_append.2 ⟨k.nd, h.nd, fun a ha b hb g hg hg' => ?_⟩⟩
  · rcases List.mem_append.1 hr with hr | hr
    · exact k.own r hr
    · exact Res.kept (h.own r hr) k.mod (by simp)
  · rcases List.mem_append.1 hr with hr | hr
    · have h1 := hnew r hr g hg
      have h2 := h.mod.size
      exact .inl (by omega)
    · exact h.new r hr g hg
  · have h1 := hnew a ha g hg
    have h2 := h.foot_lt hb hg'
    omega
/-- A step that may turn one owned thing, the first. -/
theorem Hp.turn {w0 w w' : World} {S : List Nat} {r : Res} {H H' : List Res} (h : Hp w0 S w (r :: H)) (k : Hp w r.foot w' H') : Hp w0 S w' (H' ++ H) := by
  have hnew : ∀ x ∈ H', ∀ g, g ∈ x.foot → w.heap.size ≤ g ∨ g ∈ r.foot := fun x hx g hg => by
    rcases k.new x hx g hg with h1 | h1
    · exact .inl h1
    · exact .inr h1
  have hnd := List.pairwise_cons.1 h.nd
  refine ⟨h.mod.trans k.mod ?_, fun x hx => ?_, fun x hx g hg => ?_, List.pairwise_append.2 ⟨k.nd, hnd.2, fun a ha b hb g hg hg' => ?_⟩⟩
  · intro x hx
    have hx' : x ∈ r.foot := hx
    exact (h.new r (by simp) x hx').symm
  · rcases List.mem_append.1 hx with hx | hx
    · exact k.own x hx
    · refine Res.kept (h.own x (by simp [hx])) k.mod fun g hg hm => ?_
      have hm' : g ∈ r.foot := hm
      exact hnd.1 x hx g hm' hg
  · rcases List.mem_append.1 hx with hx | hx
    · rcases hnew x hx g hg with h1 | h1
      · have h2 := h.mod.size
        exact .inl (by omega)
      · exact h.new r (by simp) g h1
    · exact h.new x (by simp [hx]) g hg
  · rcases hnew a ha g hg with h1 | h1
    · have h2 := h.foot_lt (r := b) (by simp [hb]) hg'
      omega
    · exact hnd.1 b hb g h1 hg'
/-- The blocks of several owned things. -/
def feet (R : List Res) : List Nat := R.flatMap Res.foot
theorem Hp.owns {w0 w : World} {S : List Nat} {R H : List Res} (h : Hp w0 S w (R ++ H)) : Hp w (feet R) w R :=
  ⟨Mod.refl _ w, fun r hr => h.own r (List.mem_append_left _ hr), fun r hr g hg => .inr (List.mem_flatMap.2 ⟨r, hr, hg⟩), (List.pairwise_append.1 h.nd).1⟩
theorem Hp.ownsT {w0 w : World} {S : List Nat} {H : List Res} (n : Nat) (h : Hp w0 S w H) : Hp w (feet (H.take n)) w (H.take n) := Hp.owns (S := S) (w0 := w0) (H := H.drop n) (by rw [List.take_append_drop]; exact h)
/-- A step that may turn several owned things, the first. -/
theorem Hp.turns {w0 w w' : World} {S : List Nat} {R H H' : List Res} (h : Hp w0 S w (R ++ H)) (k : Hp w (feet R) w' H') : Hp w0 S w' (H' ++ H) := by
  have hf : ∀ g, g ∈ feet R → ∃ r ∈ R, g ∈ r.foot := fun g hg => by simpa [feet] using hg
  have hnd := List.pairwise_append.1 h.nd
  refine ⟨h.mod.trans k.mod ?_, fun x hx => ?_, fun x hx g hg => ?_, List.pairwise_append.2 ⟨k.nd, hnd.2.1, fun a ha b hb g hg hg' => ?_⟩⟩
  · intro x hx
    obtain ⟨r, hr, hx'⟩ := hf x hx
    exact (h.new r (List.mem_append_left _ hr) x hx').symm
  · rcases List.mem_append.1 hx with hx | hx
    · exact k.own x hx
    · refine Res.kept (h.own x (List.mem_append_right _ hx)) k.mod fun g hg hm => ?_
      obtain ⟨r, hr, hm'⟩ := hf g hm
      exact hnd.2.2 r hr x hx g hm' hg
  · rcases List.mem_append.1 hx with hx | hx
    · rcases k.new x hx g hg with h1 | h1
      · have h2 := h.mod.size
        exact .inl (by omega)
      · obtain ⟨r, hr, hm'⟩ := hf g h1
        exact h.new r (List.mem_append_left _ hr) g hm'
    · exact h.new x (List.mem_append_right _ hx) g hg
  · rcases k.new a ha g hg with h1 | h1
    · have h2 := h.foot_lt (r := b) (List.mem_append_right _ hb) hg'
      omega
    · obtain ⟨r, hr, hm'⟩ := hf g h1
      exact hnd.2.2 r hr b hb g hm' hg'
theorem Hp.turnsT {w0 w w' : World} {S : List Nat} {H H' : List Res} (n : Nat) (h : Hp w0 S w H) (k : Hp w (feet (H.take n)) w' H') : Hp w0 S w' (H' ++ H.drop n) := Hp.turns (R := H.take n) (by rw [List.take_append_drop]; exact h) k
/-- The i-th of a list brought to its head. -/
theorem perm_front {α : Type} (H : List α) (i : Nat) (r : α) (hi : H[i]? = some r) : (r :: H.eraseIdx i).Perm H := by
  induction H generalizing i with
  | nil => simp at hi
  | cons a H ih =>
    cases i with
    | zero => simp at hi; subst hi; simp
    | succ i =>
      simp only [List.getElem?_cons_succ] at hi
      exact (List.Perm.swap a r _).trans (List.Perm.cons a (ih i hi))
theorem Hp.front {w0 w : World} {S : List Nat} {H : List Res} (i : Nat) {r : Res} (h : Hp w0 S w H) (hi : H[i]? = some r) : Hp w0 S w (r :: H.eraseIdx i) := h.perm (perm_front H i r hi)
theorem perm_set {α : Type} (H : List α) (i : Nat) (r r' : α) (hi : H[i]? = some r) : (H.set i r').Perm (r' :: H.eraseIdx i) := by
  induction H generalizing i with
  | nil => simp at hi
  | cons a H ih =>
    cases i with
    | zero => simp
    | succ i =>
      simp only [List.getElem?_cons_succ] at hi
      exact (List.Perm.cons a (ih i hi)).trans (List.Perm.swap r' a _)
/-- A step that may turn the i-th owned thing, and leaves one in its place. -/
theorem Hp.turnAt {w0 w w' : World} {S : List Nat} {H : List Res} (i : Nat) {r r' : Res} (h : Hp w0 S w H) (hi : H[i]? = some r) (k : Hp w r.foot w' [r']) : Hp w0 S w' (H.set i r') :=
  ((h.front i hi).turn k).perm (perm_set H i r r' hi)
theorem Hp.turnAtMore {w0 w w' : World} {S : List Nat} {H H' : List Res} (i : Nat) {r : Res} (h : Hp w0 S w H) (hi : H[i]? = some r) (k : Hp w r.foot w' H') : Hp w0 S w' (H' ++ H.eraseIdx i) :=
  (h.front i hi).turn k
/-- What stands behind a step that may turn the i-th owned thing. -/
theorem Hp.modAt {w0 w w' : World} {S : List Nat} {H : List Res} (i : Nat) {r : Res} (h : Hp w0 S w H) (hi : H[i]? = some r) (k : Mod r.foot w w') : Mod S w0 w' :=
  h.mod.trans k fun x hx => (h.new r (List.mem_of_getElem? hi) x hx).symm
theorem Hp.stayAt {w0 w w' : World} {S : List Nat} {H : List Res} (i j : Nat) {r q : Res} (h : Hp w0 S w H) (hi : H[i]? = some r) (hj : H[j]? = some q) (hne : i ≠ j) (k : Mod r.foot w w') : q.at_ w' := by
  refine Res.kept (h.get j hj) k fun g hg hm => ?_
  have hm' : g ∈ r.foot := hm
  obtain ⟨hi1, hi2⟩ := List.getElem?_eq_some_iff.1 hi
  obtain ⟨hj1, hj2⟩ := List.getElem?_eq_some_iff.1 hj
  have hp := List.pairwise_iff_getElem.1 h.nd
  rcases Nat.lt_or_gt_of_ne hne with hlt | hlt
  · have := hp i j hi1 hj1 hlt
    rw [hi2, hj2] at this
    exact this g hm' hg
  · have := hp j i hj1 hi1 hlt
    rw [hi2, hj2] at this
    exact this g hg hm'
theorem Hp.drew {w0 w : World} {S : List Nat} {H : List Res} (h : Hp w0 S w H) : Hp w0 S w.drew H := h.comp (H' := []) ⟨Mod.drew w, by simp, by simp, .nil⟩
theorem Hp.newBlk (w : World) (o : Obj) : Hp w [] (w.alloc o) [.blk w.heap.size o] :=
  ⟨Mod.alloc w o, by simpa [Res.at_] using heap_alloc_new w o, by simp [Res.foot], by simp⟩
/-- What the call has done with the whole: for its caller. -/
theorem Hp.mods {w0 w : World} {S : List Nat} {H : List Res} (h : Hp w0 S w H) : Hp w0 S w [] := h.sub (List.nil_sublist H)
/-- A block of plain cells. -/
abbrev cells (g T : Nat) (L : List Value) : Res := .blk g (.cells ⟨L⟩ T (0, 0))
theorem cell_of_cells {w : World} {g T : Nat} {L : List Value} (h : (cells g T L).at_ w) (j : Nat) : w.cell? ⟨g, j, none⟩ = L[j]? := by
  rw [cell_of_row w g j ⟨L⟩ T (0, 0) h]; simp
/-- A slice whose elements read so; its length n, its elements' size sz. -/
def Sl (w : World) (v : Value) (sz n : Nat) (L : List Value) : Prop :=
  ∃ A c, v = .slice A n c ∧ n ≤ c ∧ c ≤ maxLen ∧ L.length = n * sz ∧ (L = [] ∨ ∃ g b, A = some ⟨g, b, none⟩ ∧ ∀ j u, L[j]? = some u → w.cell? ⟨g, b + j, none⟩ = some u)
theorem Sl.mod {S : List Nat} {w w' : World} {v : Value} {sz n : Nat} {L : List Value} (h : Sl w v sz n L) (hm : Mod S w w') (hn : ∀ g, v.ownBlock = some g → g ∉ S) : Sl w' v sz n L := by
  obtain ⟨A, c, rfl, h1, h2, h3, h4⟩ := h
  refine ⟨A, c, rfl, h1, h2, h3, ?_⟩
  rcases h4 with h4 | ⟨g, b, rfl, h4⟩
  · exact .inl h4
  · exact .inr ⟨g, b, rfl, fun j u hj => hm.cell (h4 j u hj) (hn g rfl)⟩
theorem Sl.keep {w w' : World} {v : Value} {sz n : Nat} {L : List Value} (h : Sl w v sz n L) (hm : Mod [] w w') : Sl w' v sz n L := h.mod hm (by simp)
theorem Sl.row {w : World} {T sz n : Nat} {v : Value} {xs : List Value} (h : (Res.row T sz v n xs).at_ w) : Sl w v sz n xs := by
  have h0 := h.1
  rcases h.2 with ⟨rfl, rfl⟩ | ⟨g, cap, cur, rfl, _, hg, hn, hc, hs, ht⟩
  · refine ⟨none, 0, rfl, Nat.le_refl _, by simp [maxLen], h0, .inl ?_⟩
    exact List.eq_nil_of_length_eq_zero (by rw [h0]; omega)
  · refine ⟨_, cap, rfl, hn, hc, h0, .inr ⟨g, 0, rfl, fun j u hj => ?_⟩⟩
    have := World.ownsRow.cells h (g := g) rfl j u hj
    rwa [add_plain' g j] at this
where add_plain' (g j : Nat) : (⟨g, 0, none⟩ : Addr).add j = ⟨g, 0 + j, none⟩ := by unfold Addr.add; split <;> simp_all
theorem Sl.nil (w : World) (sz : Nat) : Sl w (.slice none 0 0) sz 0 [] := ⟨none, 0, rfl, Nat.le_refl _, by simp [maxLen], by simp, .inl rfl⟩
theorem Sl.cells {w : World} {g T : Nat} {L : List Value} (h : (cells g T L).at_ w) (sz n c off : Nat) (L' : List Value) (hL : L' = (L.drop off).take (n * sz)) (hl : off + n * sz ≤ L.length) (hc : n ≤ c) (hm : c ≤ maxLen) :
    Sl w (.slice (some ⟨g, off, none⟩) n c) sz n L' := by
  subst hL
  refine ⟨_, c, rfl, hc, hm, by simp; omega, .inr ⟨g, off, rfl, fun j u hj => ?_⟩⟩
  rw [cell_of_cells h]
  rw [List.getElem?_take] at hj
  split at hj
  · rwa [List.getElem?_drop] at hj
  · cases hj
theorem Sl.len {w : World} {v : Value} {sz n : Nat} {L : List Value} (h : Sl w v sz n L) : L.length = n * sz := by obtain ⟨_, _, _, _, _, h3, _⟩ := h; exact h3
theorem Sl.le {w : World} {v : Value} {sz n : Nat} {L : List Value} (h : Sl w v sz n L) : n ≤ 9223372036854775807 := by
  obtain ⟨_, c, _, h1, h2, _⟩ := h
  simp only [maxLen] at h2
  omega
/-- Some of a slice's elements. -/
theorem Sl.cut {w : World} {A : Option Addr} {n c sz : Nat} {L : List Value} (h : Sl w (.slice A n c) sz n L) (lo hi : Nat) (h1 : lo ≤ hi) (h2 : hi ≤ n) :
    Sl w (.slice (if c = lo then A else A.map (·.add (lo * sz))) (hi - lo) (c - lo)) sz (hi - lo) ((L.drop (lo * sz)).take ((hi - lo) * sz)) := by
  obtain ⟨A', c', he, hc, hm, hl, h4⟩ := h
  injection he with e1 e2 e3
  subst e1 e3
  have hmul : hi * sz ≤ n * sz := Nat.mul_le_mul_right _ h2
  have hsub : (hi - lo) * sz = hi * sz - lo * sz := Nat.sub_mul _ _ _
  have hlo : lo * sz ≤ hi * sz := Nat.mul_le_mul_right _ h1
  refine ⟨_, _, rfl, by omega, by omega, ?_, ?_⟩
  · simp only [List.length_take, List.length_drop]; omega
  · by_cases hz : (hi - lo) * sz = 0
    · left; rw [hz]; simp
    · rcases h4 with h4 | ⟨g, b, rfl, h4⟩
      · left; rw [h4]; simp
      · right
        have hlt : lo < hi := by
          rcases Nat.lt_or_ge lo hi with h | h
          · exact h
          · exact absurd (by rw [show hi - lo = 0 by omega]; simp) hz
        refine ⟨g, b + lo * sz, ?_, fun j u hj => ?_⟩
        · rw [if_neg (by omega)]
          simp only [Option.map_some, Addr.add]
          split
          · rename_i h0; simp [h0]
          · rfl
        · rw [List.getElem?_take] at hj
          split at hj
          · rw [List.getElem?_drop] at hj
            have := h4 _ _ hj
            rwa [← Nat.add_assoc] at this
          · cases hj
/-- The same; of what is owned only a part need stay. -/
theorem GW_drawnK {P : Program} {n : Nat} {f : Fm} {w w0 : World} {S0 : List Nat} {H L : List Res} {id : Nat} {l : List Oper} {Q : Post} (m : Nat) (order : OT) (hm : P.follows .mixedOrders = true) (hok : okAll l.toArray m order = true) (hp : Hp w0 S0 w H)
    (hk : ∀ w1, Hp w0 S0 w1 H → Hp w0 S0 w1 L) (h : ∀ w1, Hp w0 S0 w1 H → GO P n l.toArray (fun w' => Hp w0 S0 w' L) m (KQ Q) order f w1) : GW P n (.region id l.toArray true) f w Q :=
  GW_drawn m order (fun w' => Hp w0 S0 w' L) hm hok fun w1 e => by subst e; exact h _ hp.drew
theorem GO_grow {P : Program} {n : Nat} {f : Fm} {w w0 : World} {S0 : List Nat} {H L L0 : List Res} {ops : Array Oper} {m : Nat} {K : KP} {order : OT} (hp : Hp w0 S0 w H) (h1 : ∀ w', Hp w0 S0 w' H → Hp w0 S0 w' L) (h2 : ∀ w', Hp w0 S0 w' L → Hp w0 S0 w' L0)
    (g : Hp w0 S0 w L → GO P n ops (fun w' => Hp w0 S0 w' L) m K order f w) : GO P n ops (fun w' => Hp w0 S0 w' L0) m K order f w := GO_strong h2 (g (h1 _ hp))
theorem Hp.take {w0 w : World} {S : List Nat} {H : List Res} (n : Nat) (h : Hp w0 S w H) : Hp w0 S w (H.take n) := h.sub (List.take_sublist n H)
theorem flat_length {α β : Type} {e : α → List β} {sz : Nat} (he : ∀ x, (e x).length = sz) : ∀ xs : List α, (xs.flatMap e).length = xs.length * sz
  | [] => by simp
  | x :: xs => by rw [List.flatMap_cons, List.length_append, he, flat_length he xs, List.length_cons, Nat.succ_mul, Nat.add_comm]
theorem flat_get {α β : Type} {e : α → List β} {sz : Nat} (he : ∀ x, (e x).length = sz) : ∀ (xs : List α) (i j : Nat) (x : α), j < sz → xs[i]? = some x → (xs.flatMap e)[i * sz + j]? = (e x)[j]?
  | [], i, j, x, _, hx => by simp at hx
  | y :: ys, 0, j, x, hj, hx => by
    simp only [List.getElem?_cons_zero, Option.some.injEq] at hx
    subst hx
    rw [Nat.zero_mul, Nat.zero_add, List.flatMap_cons, List.getElem?_append_left (by rw [he]; exact hj)]
  | y :: ys, i + 1, j, x, hj, hx => by
    rw [List.getElem?_cons_succ] at hx
    rw [List.flatMap_cons, List.getElem?_append_right (by rw [he, Nat.succ_mul]; omega), he, Nat.succ_mul, show i * sz + sz + j - sz = i * sz + j by omega]
    exact flat_get he ys i j x hj hx
theorem Sl.elem {α : Type} {e : α → List Value} {w : World} {g b m m' c sz : Nat} {xs : List α} (h : Sl w (.slice (some ⟨g, b, none⟩) m c) sz m' (xs.flatMap e)) (he : ∀ x, (e x).length = sz) (i j : Nat) {x : α} {u : Value} (hj : j < sz) (hx : xs[i]? = some x) (hu : (e x)[j]? = some u) :
    w.cell? ⟨g, b + i * sz + j, none⟩ = some u := by
  obtain ⟨A', c', hA, _, _, _, h4⟩ := h
  injection hA with e1 e2 e3
  subst e1
  have hq : (xs.flatMap e)[i * sz + j]? = some u := (flat_get he xs i j x hj hx).trans hu
  rcases h4 with h4 | ⟨g', b', hb, h4⟩
  · rw [h4] at hq; simp at hq
  · injection hb with hb
    injection hb with hb1 hb2
    subst hb1 hb2
    rw [Nat.add_assoc]
    exact h4 _ _ hq
end Go.Mo
