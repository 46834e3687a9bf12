/- The text that the most clips have: plain laws. -/
import Derived.Test.YtpagpmioopaciaaQBinM
import Derived.Test.YtpagpmioopaciaaQBinK
import Derived.Test.YtpagpmioopaciaaQRng
set_option linter.unusedVariables false
set_option linter.unusedSimpArgs false
namespace Go.Mo
open Go.RowKit Go.Lib
def bestOk (vis : Int → Int → Prop) (b m : Int) : Prop := (∀ t k, vis t k → k < m ∨ (k = m ∧ b ≤ t)) ∧ (vis b m ∨ (b = -1 ∧ m = 0 ∧ ∀ t k, ¬ vis t k))
theorem bestOk.first {vis : Int → Int → Prop} (h : ∀ t k, ¬ vis t k) : bestOk vis (-1) 0 := ⟨fun t k hv => absurd hv (h t k), .inr ⟨rfl, rfl, h⟩⟩
theorem bestOk.congr {vis vis' : Int → Int → Prop} {b m : Int} (h : bestOk vis b m) (e : ∀ t k, vis' t k ↔ vis t k) : bestOk vis' b m :=
  ⟨fun t k hv => h.1 t k ((e t k).1 hv), h.2.imp (fun q => (e _ _).2 q) (fun q => ⟨q.1, q.2.1, fun t k hv => q.2.2 t k ((e t k).1 hv)⟩)⟩
theorem bestOk.no {vis vis' : Int → Int → Prop} {b m t k : Int} (h : bestOk vis b m) (e : ∀ u j, vis' u j ↔ vis u j ∨ (u = t ∧ j = k)) (hk : 1 ≤ k) (hc : ¬ (k > m ∨ (k = m ∧ t < b))) : bestOk vis' b m := by
  refine ⟨fun u j hv => ?_, ?_⟩
  · rcases (e u j).1 hv with hv | ⟨rfl, rfl⟩
    · exact h.1 u j hv
    · omega
  · rcases h.2 with q | ⟨rfl, rfl, _⟩
    · exact .inl ((e _ _).2 (.inl q))
    · omega
theorem bestOk.same {vis : Int → Int → Prop} {b m b' m' : Int} (h : bestOk vis b m) (h' : bestOk vis b' m') : b = b' := by
  rcases h.2 with q | ⟨q1, q2, q3⟩
  · rcases h'.2 with r | ⟨_, _, r⟩
    · have := h.1 _ _ r
      have := h'.1 _ _ q
      omega
    · exact absurd q (r _ _)
  · rcases h'.2 with r | ⟨r1, _, _⟩
    · exact absurd r (q3 _ _)
    · omega
/-- The text that the most have: by all pairs of the tally. -/
def mostB (l : List CV) (b : Int) : Prop := ∃ m, bestOk (fun t k => (t, k) ∈ useM l) b m
theorem mostB.same {l : List CV} {b b' : Int} (h : mostB l b) (h' : mostB l b') : b = b' := by
  obtain ⟨m, h⟩ := h
  obtain ⟨m', h'⟩ := h'
  exact h.same h'
end Go.Mo
