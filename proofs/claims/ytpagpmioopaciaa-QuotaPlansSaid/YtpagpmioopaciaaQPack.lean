/- Things that live in several blocks, as one: a list of owned things. -/
import Derived.Test.YtpagpmioopaciaaQActs
set_option linter.unusedVariables false
set_option linter.unusedSimpArgs false
namespace Go.Mo
theorem feet_mem {l : List Res} {g : Nat} : g ∈ feet l ↔ ∃ r ∈ l, g ∈ r.foot := by simp [feet]
theorem res_same {w w' : World} {r : Res} (h : r.at_ w) (hs : ∀ g ∈ r.foot, w'.heap[g]? = w.heap[g]?) : r.at_ w' := by
  cases r with
  | blk g o => exact (hs g (by simp [Res.foot])).trans h
  | row T sz v n xs =>
    obtain ⟨h1, h2⟩ := h
    refine ⟨h1, ?_⟩
    rcases h2 with h2 | ⟨g, cap, cur, rfl, hb, hh, r⟩
    · exact .inl h2
    · exact .inr ⟨g, cap, cur, rfl, hb, (hs g (by simp [Res.foot, Value.ownBlock])).trans hh, r⟩
  | pack f p hk hl => exact hk w w' hs h
/-- A list of owned things as one of them. -/
def packL (l : List Res) : Res := .pack (feet l) (fun w => (∀ r ∈ l, r.at_ w) ∧ l.Pairwise apartR)
  (fun w w' hs h => ⟨fun r hr => res_same (h.1 r hr) fun g hg => hs g (feet_mem.2 ⟨r, hr, hg⟩), h.2⟩)
  (fun w h g hg => by obtain ⟨r, hr, hf⟩ := feet_mem.1 hg; exact Res.lt (h.1 r hr) g hf)
theorem packL_at {l : List Res} {w : World} (h : (packL l).at_ w) {r : Res} (hr : r ∈ l) : r.at_ w := h.1 r hr
variable {w0 w : World} {S : List Nat} {H l l' : List Res} {r : Res}
theorem Hp.pack (h : Hp w0 S w (l ++ H)) : Hp w0 S w (packL l :: H) := by
  have hnd := List.pairwise_append.1 h.nd
  refine ⟨h.mod, fun r hr => ?_, fun r hr g hg => ?_, List.pairwise_cons.2 ⟨fun b hb g hg hg' => ?_, hnd.2.1⟩⟩
  · rcases List.mem_cons.1 hr with rfl | hr
    · exact ⟨fun r hr => h.own r (List.mem_append_left _ hr), hnd.1⟩
    · exact h.own r (List.mem_append_right _ hr)
  · rcases List.mem_cons.1 hr with rfl | hr
    · obtain ⟨q, hq, hf⟩ := feet_mem.1 hg
      exact h.new q (List.mem_append_left _ hq) g hf
    · exact h.new r (List.mem_append_right _ hr) g hg
  · obtain ⟨q, hq, hf⟩ := feet_mem.1 hg
    exact hnd.2.2 q hq b hb g hf hg'
theorem Hp.unpack (h : Hp w0 S w (packL l :: H)) : Hp w0 S w (l ++ H) := by
  have hnd := List.pairwise_cons.1 h.nd
  have h0 : (packL l).at_ w := h.own _ (by simp)
  refine ⟨h.mod, fun r hr => ?_, fun r hr g hg => ?_, List.pairwise_append.2 ⟨h0.2, hnd.2, fun a ha b hb g hg hg' => ?_⟩⟩
  · rcases List.mem_append.1 hr with hr | hr
    · exact h0.1 r hr
    · exact h.own r (List.mem_cons_of_mem _ hr)
  · rcases List.mem_append.1 hr with hr | hr
    · exact h.new (packL l) (by simp) g (feet_mem.2 ⟨r, hr, hg⟩)
    · exact h.new r (List.mem_cons_of_mem _ hr) g hg
  · exact hnd.1 b hb g (feet_mem.2 ⟨a, ha, hg⟩) hg'
theorem Hp.packNil (h : Hp w0 S w H) : Hp w0 S w (packL [] :: H) := Hp.pack (l := []) h
theorem Hp.packIn (h : Hp w0 S w (r :: packL l :: H)) : Hp w0 S w (packL (r :: l) :: H) := by
  have h1 : Hp w0 S w (packL l :: r :: H) := h.perm (List.Perm.swap r (packL l) H)
  have h2 : Hp w0 S w (l ++ r :: H) := h1.unpack
  exact Hp.pack (l := r :: l) (h2.perm (List.perm_middle.symm))
theorem Hp.packPerm (h : Hp w0 S w (packL l :: H)) (e : l'.Perm l) : Hp w0 S w (packL l' :: H) := Hp.pack (h.unpack.perm (e.append_right H))
end Go.Mo
