/- openers -/
import Derived.Test.YtgocnknbiipcfaaLd
import Derived.Test.YtgocnknbiipcfaaRM
namespace Go.Proofs.Ytgocnknbiipcfaa.K
open Go.RowKit Go.Lib
set_option linter.unusedVariables false
set_option linter.unusedSimpArgs false

structure wf_GValue (x : GValue) : Prop where
  Kind : wfT x.Kind
  N : (inK .i64) x.N
  Bits : (inK .u64) x.Bits
  Text : wfS x.Text
theorem td_24 {ds : List D} (h : TD Try.prog 24 ds) : ∃ x : GValue, ds = enc_GValue x ∧ wf_GValue x := by
  have h0 := TD.of_struct Try.underlying24 h
  obtain ⟨p0, q0, e0, t0, h1⟩ := h0
  obtain ⟨x0, f0, w0⟩ := td_u8 Try.underlying5 t0
  obtain ⟨p1, q1, e1, t1, h2⟩ := h1
  obtain ⟨x1, f1, w1⟩ := td_int Try.underlying3 t1
  obtain ⟨p2, q2, e2, t2, h3⟩ := h2
  obtain ⟨x2, f2, w2⟩ := td_int Try.underlying22 t2
  obtain ⟨p3, q3, e3, t3, h4⟩ := h3
  obtain ⟨x3, f3, w3⟩ := td_str Try.underlying9 t3
  have h4 : q3 = [] := h4
  refine ⟨⟨x0, x1, x2, x3⟩, ?_, ⟨w0, w1, w2, w3⟩⟩
  rw [e0, f0, e1, f1, e2, f2, e3, f3, h4]; rfl
structure wf_GArr3_GValue (x : GArr3_GValue) : Prop where
  a0 : wf_GValue x.a0
  a1 : wf_GValue x.a1
  a2 : wf_GValue x.a2
theorem td_54 {ds : List D} (h : TD Try.prog 54 ds) : ∃ x : GArr3_GValue, ds = enc_GArr3_GValue x ∧ wf_GArr3_GValue x := by
  obtain ⟨l, e, hl, hq⟩ := TD.of_array (enc := enc_GValue) (Q := wf_GValue) Try.underlying54 (fun {r} h => td_24 h) h
  match l, hl with
  | [a0, a1, a2], _ => exact ⟨⟨a0, a1, a2⟩, e, ⟨hq a0 (by simp), hq a1 (by simp), hq a2 (by simp)⟩⟩
end Go.Proofs.Ytgocnknbiipcfaa.K
