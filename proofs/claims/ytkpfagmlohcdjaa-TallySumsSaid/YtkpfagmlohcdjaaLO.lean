/- openers -/
import Derived.Test.YtkpfagmlohcdjaaLd
import Derived.Test.YtkpfagmlohcdjaaLM
namespace Go.Proofs.Ytkpfagmlohcdjaa.K
open Go.RowKit Go.Lib
set_option linter.unusedVariables false
set_option linter.unusedSimpArgs false

structure wf_GChange (x : GChange) : Prop where
  Loc : (inK .i64) x.Loc
  Time : (inK .i64) x.Time
  N : (inK .i64) x.N
theorem td_24 {ds : List D} (h : TD Try.prog 24 ds) : ∃ x : GChange, ds = enc_GChange x ∧ wf_GChange x := by
  have h0 := TD.of_struct Try.underlying24 h
  obtain ⟨p0, q0, e0, t0, h1⟩ := h0
  obtain ⟨x0, f0, w0⟩ := td_int Try.underlying3 t0
  obtain ⟨p1, q1, e1, t1, h2⟩ := h1
  obtain ⟨x1, f1, w1⟩ := td_int Try.underlying3 t1
  obtain ⟨p2, q2, e2, t2, h3⟩ := h2
  obtain ⟨x2, f2, w2⟩ := td_int Try.underlying3 t2
  have h3 : q2 = [] := h3
  refine ⟨⟨x0, x1, x2⟩, ?_, ⟨w0, w1, w2⟩⟩
  rw [e0, f0, e1, f1, e2, f2, h3]; rfl
end Go.Proofs.Ytkpfagmlohcdjaa.K
