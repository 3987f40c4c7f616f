/- lex.text, slices.Sort, slices.Compact: all that is laid by hand. -/
import Derived.Test.YtkajfanpdabjcaaBlw
import Derived.Test.YtkajfanpdabjcaaBtx
import Derived.Test.YtkajfanpdabjcaaBss
namespace Go.Proofs.Ytkajfanpdabjcaa.K
open Go.RowKit Go.Lib
set_option linter.unusedVariables false
set_option linter.unusedSimpArgs false
def textS (l : List UInt8) : List UInt8 := 39 :: (l.flatMap B.escC ++ [39])
theorem call_text (l : List UInt8) (hl : l.length ≤ 1000000000) : GCall Try.prog 59 [.s l] [] (.s (textS l)) [] := by
  intro m S w vs hH hR
  simp only [Reps, Rep] at hR
  obtain ⟨v, r, rfl, h0, rfl⟩ := hR
  unfold RepD at h0
  obtain ⟨rfl, _⟩ := h0
  refine (B.lex_text (toS l) w (show l.toArray.size ≤ 1000000000 by simpa using hl)).mono ?_
  rintro e w' ⟨rfl, hb⟩
  exact ⟨_, m, S, rfl, Hold.below hH hb, by simp only [Rep]; unfold RepD; exact ⟨rfl, rfl⟩⟩
end Go.Proofs.Ytkajfanpdabjcaa.K
