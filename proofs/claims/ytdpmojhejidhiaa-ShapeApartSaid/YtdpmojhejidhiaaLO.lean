/- openers -/
import Derived.Test.YtdpmojhejidhiaaLd
import Derived.Test.YtdpmojhejidhiaaLM
namespace Go.Proofs.Ytdpmojhejidhiaa.K
open Go.RowKit Go.Lib
set_option linter.unusedVariables false
set_option linter.unusedSimpArgs false

structure wf_GValue (x : GValue) : Prop where
  Kind : wfT x.Kind
  N : (inK .i64) x.N
  Bits : (inK .u64) x.Bits
  Text : wfS x.Text
theorem td_69 {ds : List D} (h : TD Try.prog 69 ds) : ∃ x : GValue, ds = enc_GValue x ∧ wf_GValue x := by
  have h0 := TD.of_struct Try.underlying69 h
  obtain ⟨p0, q0, e0, t0, h1⟩ := h0
  obtain ⟨x0, f0, w0⟩ := td_u8 Try.underlying5 t0
  obtain ⟨p1, q1, e1, t1, h2⟩ := h1
  obtain ⟨x1, f1, w1⟩ := td_int Try.underlying3 t1
  obtain ⟨p2, q2, e2, t2, h3⟩ := h2
  obtain ⟨x2, f2, w2⟩ := td_int Try.underlying67 t2
  obtain ⟨p3, q3, e3, t3, h4⟩ := h3
  obtain ⟨x3, f3, w3⟩ := td_str Try.underlying9 t3
  have h4 : q3 = [] := h4
  refine ⟨⟨x0, x1, x2, x3⟩, ?_, ⟨w0, w1, w2, w3⟩⟩
  rw [e0, f0, e1, f1, e2, f2, e3, f3, h4]; rfl
structure wf_GNode_ (x : GNode_) : Prop where
  Kind : wfT x.Kind
  Op : wfT x.Op
  Var : wfS x.Var
  Name : wfS x.Name
  Val : wf_GValue x.Val
theorem td_71 {ds : List D} (h : TD Try.prog 71 ds) : ∃ x : GNode_, ds = enc_GNode_ x ∧ wf_GNode_ x := by
  have h0 := TD.of_struct Try.underlying71 h
  obtain ⟨p0, q0, e0, t0, h1⟩ := h0
  obtain ⟨x0, f0, w0⟩ := td_u8 Try.underlying5 t0
  obtain ⟨p1, q1, e1, t1, h2⟩ := h1
  obtain ⟨x1, f1, w1⟩ := td_u8 Try.underlying5 t1
  obtain ⟨p2, q2, e2, t2, h3⟩ := h2
  obtain ⟨x2, f2, w2⟩ := td_str Try.underlying9 t2
  obtain ⟨p3, q3, e3, t3, h4⟩ := h3
  obtain ⟨x3, f3, w3⟩ := td_str Try.underlying9 t3
  obtain ⟨p4, q4, e4, t4, h5⟩ := h4
  obtain ⟨x4, f4, w4⟩ := td_69 t4
  have h5 : q4 = [] := h5
  refine ⟨⟨x0, x1, x2, x3, x4⟩, ?_, ⟨w0, w1, w2, w3, w4⟩⟩
  rw [e0, f0, e1, f1, e2, f2, e3, f3, e4, f4, h5]; rfl
structure wf_GNode (x : GNode) : Prop where
  Kind : wfT x.Kind
  Kids : (inK .i64) x.Kids
  Lo : (inK .i64) x.Lo
  Hi : (inK .i64) x.Hi
  Var : wfS x.Var
  Type_ : wfS x.Type_
  Test : (wfL wf_GNode_) x.Test
theorem td_49 {ds : List D} (h : TD Try.prog 49 ds) : ∃ x : GNode, ds = enc_GNode x ∧ wf_GNode x := by
  have h0 := TD.of_struct Try.underlying49 h
  obtain ⟨p0, q0, e0, t0, h1⟩ := h0
  obtain ⟨x0, f0, w0⟩ := td_u8 Try.underlying5 t0
  obtain ⟨p1, q1, e1, t1, h2⟩ := h1
  obtain ⟨x1, f1, w1⟩ := td_int Try.underlying3 t1
  obtain ⟨p2, q2, e2, t2, h3⟩ := h2
  obtain ⟨x2, f2, w2⟩ := td_int Try.underlying3 t2
  obtain ⟨p3, q3, e3, t3, h4⟩ := h3
  obtain ⟨x3, f3, w3⟩ := td_int Try.underlying3 t3
  obtain ⟨p4, q4, e4, t4, h5⟩ := h4
  obtain ⟨x4, f4, w4⟩ := td_str Try.underlying9 t4
  obtain ⟨p5, q5, e5, t5, h6⟩ := h5
  obtain ⟨x5, f5, w5⟩ := td_str Try.underlying9 t5
  obtain ⟨p6, q6, e6, t6, h7⟩ := h6
  obtain ⟨x6, f6, w6⟩ := td_slice (enc := enc_GNode_) (q := wf_GNode_) Try.underlying47 (fun {r} h => td_71 h) t6
  have h7 : q6 = [] := h7
  refine ⟨⟨x0, x1, x2, x3, x4, x5, x6⟩, ?_, ⟨w0, w1, w2, w3, w4, w5, w6⟩⟩
  rw [e0, f0, e1, f1, e2, f2, e3, f3, e4, f4, e5, f5, e6, f6, h7]; rfl
structure wf_GPattern (x : GPattern) : Prop where
  Body : (wfL wf_GNode) x.Body
  Within : (inK .i64) x.Within
  By : wfS x.By
  Mode : wfT x.Mode
theorem td_24 {ds : List D} (h : TD Try.prog 24 ds) : ∃ x : GPattern, ds = enc_GPattern x ∧ wf_GPattern x := by
  have h0 := TD.of_struct Try.underlying24 h
  obtain ⟨p0, q0, e0, t0, h1⟩ := h0
  obtain ⟨x0, f0, w0⟩ := td_slice (enc := enc_GNode) (q := wf_GNode) Try.underlying22 (fun {r} h => td_49 h) t0
  obtain ⟨p1, q1, e1, t1, h2⟩ := h1
  obtain ⟨x1, f1, w1⟩ := td_int Try.underlying3 t1
  obtain ⟨p2, q2, e2, t2, h3⟩ := h2
  obtain ⟨x2, f2, w2⟩ := td_str Try.underlying9 t2
  obtain ⟨p3, q3, e3, t3, h4⟩ := h3
  obtain ⟨x3, f3, w3⟩ := td_u8 Try.underlying5 t3
  have h4 : q3 = [] := h4
  refine ⟨⟨x0, x1, x2, x3⟩, ?_, ⟨w0, w1, w2, w3⟩⟩
  rw [e0, f0, e1, f1, e2, f2, e3, f3, h4]; rfl
structure wf_GArr2_GPattern (x : GArr2_GPattern) : Prop where
  a0 : wf_GPattern x.a0
  a1 : wf_GPattern x.a1
theorem td_25 {ds : List D} (h : TD Try.prog 25 ds) : ∃ x : GArr2_GPattern, ds = enc_GArr2_GPattern x ∧ wf_GArr2_GPattern x := by
  obtain ⟨l, e, hl, hq⟩ := TD.of_array (enc := enc_GPattern) (Q := wf_GPattern) Try.underlying25 (fun {r} h => td_24 h) h
  match l, hl with
  | [a0, a1], _ => exact ⟨⟨a0, a1⟩, e, ⟨hq a0 (by simp), hq a1 (by simp)⟩⟩
end Go.Proofs.Ytdpmojhejidhiaa.K
