/- Records of what was done: their bytes, their sums, chains of them: plain laws. -/
import Derived.Test.YtpagpmioopaciaaQLeafS
import Derived.Test.YtpagpmioopaciaaQDigS
import Derived.Test.YtpagpmioopaciaaQStr
set_option linter.unusedVariables false
set_option linter.unusedSimpArgs false
namespace Go.Mo
open Go.RowKit Go.Lib
abbrev A32 := { x : List UInt8 // x.length = 32 }
def a32Z : A32 := ⟨List.replicate 32 0, List.length_replicate⟩
theorem a32_len (x : A32) : x.1.length = 32 := x.2
theorem a32_ext {a b : A32} (h : a.1 = b.1) : a = b := Subtype.ext h
structure Rec where
  kind : Int
  time : Int
  actor : ByteArray
  clip : A32
  reason : ByteArray
  prev : A32
  sum : A32
def recF (r : Rec) : List FV := [.i .i64 r.kind, .i .i64 r.time, .s r.actor, .a r.clip.1, .s r.reason, .a r.prev.1, .a r.sum.1]
def recC (r : Rec) : List Value := fvC (recF r)
def recZ : Rec := ⟨0, 0, ⟨#[]⟩, a32Z, ⟨#[]⟩, a32Z, a32Z⟩
instance : Inhabited Rec := ⟨recZ⟩
def recEq (a b : Rec) : Bool := fvsEq (recF a) (recF b)
theorem recEq_iff {a b : Rec} : recEq a b = true ↔ a = b := by
  constructor
  · intro h
    simp only [recEq, recF, fvsEq, fvEq, Bool.and_eq_true, decide_eq_true_eq] at h
    obtain ⟨h1, h2, h3, h4, h5, h6, h7, _⟩ := h
    cases a; cases b
    simp only at h1 h2 h3 h4 h5 h6 h7
    rw [h1, h2, h3, a32_ext h4, h5, a32_ext h6, a32_ext h7]
  · rintro rfl
    simp [recEq, recF, fvsEq, fvEq]
instance : DecidableEq Rec := fun a b => if h : recEq a b = true then isTrue (recEq_iff.1 h) else isFalse fun e => h (recEq_iff.2 e)
end Go.Mo
