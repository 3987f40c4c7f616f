/- lex.text, laid by hand. -/
import Derived.Test.YtdpmojhejidhiaaBlw
import Derived.Test.YtdpmojhejidhiaaBtx
namespace Go.Proofs.Ytdpmojhejidhiaa.K
open Go.RowKit Go.Lib
set_option linter.unusedVariables false
set_option linter.unusedSimpArgs false
def textS (l : List UInt8) : List UInt8 := 39 :: (l.flatMap B.escC ++ [39])
theorem call_text (l : List UInt8) (hl : l.length ≤ 1000000000) : GCall Try.prog 64 [.s l] [] (.s (textS l)) [] := by
  intro m S w vs hH hR
  simp only [Reps, Rep] at hR
  obtain ⟨v, r, rfl, h0, rfl⟩ := hR
  unfold RepD at h0
  obtain ⟨rfl, _⟩ := h0
  refine (B.lex_text (toS l) w (show l.toArray.size ≤ 1000000000 by simpa using hl)).mono ?_
  rintro e w' ⟨rfl, hb⟩
  exact ⟨_, m, S, rfl, Hold.below hH hb, by simp only [Rep]; unfold RepD; exact ⟨rfl, rfl⟩⟩
theorem setAt_same : ∀ (H : List Blk) (id : Nat) {xs : List A}, H.getD id .unborn = .box xs → setAt H id (.box xs) = H
  | [], id, xs, h => by simp at h
  | x :: l, 0, xs, h => by
    have h : x = .box xs := h
    rw [h]; rfl
  | x :: l, id + 1, xs, h => by
    show x :: setAt l id _ = _
    rw [setAt_same l id (by simpa using h)]
/-- What an operation leaves as it was, it need not be said to write. -/
theorem Osm {P : Program} {o : Oper} {st : St} {R : List Loc} {val : A} {id : Nat} {xs : List A} {bl : List (Nat × Blk)} (h : OpRun P o st R val ((id, .box xs) :: bl)) (hb : st.H.getD id .unborn = .box xs) (hR : Loc.blk id ∈ R) : OpRun P o st R val bl := by
  intro st' hl he cx m S a w hs
  have e := hl _ hR
  have e' : st'.H.getD id .unborn = .box xs := by
    have : Ct.b (st'.H.getD id .unborn) = Ct.b (st.H.getD id .unborn) := e
    rw [Ct.b.inj this, hb]
  have e2 : putB st'.H ((id, .box xs) :: bl) = putB st'.H bl := by
    show putB (setAt st'.H id (.box xs)) bl = _
    rw [setAt_same _ _ e']
  have := h st' hl he cx m S a w hs
  rw [e2] at this
  exact this
end Go.Proofs.Ytdpmojhejidhiaa.K
