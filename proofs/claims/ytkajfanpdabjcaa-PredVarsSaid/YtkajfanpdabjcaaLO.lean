/- openers -/
import Derived.Test.YtkajfanpdabjcaaLd
import Derived.Test.YtkajfanpdabjcaaLM
namespace Go.Proofs.Ytkajfanpdabjcaa.K
open Go.RowKit Go.Lib
set_option linter.unusedVariables false
set_option linter.unusedSimpArgs false

structure wf_GValue (x : GValue) : Prop where
  Kind : wfT x.Kind
  N : (inK .i64) x.N
  Bits : (inK .u64) x.Bits
  Text : wfS x.Text
theorem td_49 {ds : List D} (h : TD Try.prog 49 ds) : ∃ x : GValue, ds = enc_GValue x ∧ wf_GValue x := by
  have h0 := TD.of_struct Try.underlying49 h
  obtain ⟨p0, q0, e0, t0, h1⟩ := h0
  obtain ⟨x0, f0, w0⟩ := td_u8 Try.underlying5 t0
  obtain ⟨p1, q1, e1, t1, h2⟩ := h1
  obtain ⟨x1, f1, w1⟩ := td_int Try.underlying3 t1
  obtain ⟨p2, q2, e2, t2, h3⟩ := h2
  obtain ⟨x2, f2, w2⟩ := td_int Try.underlying29 t2
  obtain ⟨p3, q3, e3, t3, h4⟩ := h3
  obtain ⟨x3, f3, w3⟩ := td_str Try.underlying9 t3
  have h4 : q3 = [] := h4
  refine ⟨⟨x0, x1, x2, x3⟩, ?_, ⟨w0, w1, w2, w3⟩⟩
  rw [e0, f0, e1, f1, e2, f2, e3, f3, h4]; rfl
structure wf_GNode_ (x : GNode_) : Prop where
  Kind : wfT x.Kind
  Op : wfT x.Op
  Var : wfS x.Var
  Name : wfS x.Name
  Val : wf_GValue x.Val
theorem td_51 {ds : List D} (h : TD Try.prog 51 ds) : ∃ x : GNode_, ds = enc_GNode_ x ∧ wf_GNode_ x := by
  have h0 := TD.of_struct Try.underlying51 h
  obtain ⟨p0, q0, e0, t0, h1⟩ := h0
  obtain ⟨x0, f0, w0⟩ := td_u8 Try.underlying5 t0
  obtain ⟨p1, q1, e1, t1, h2⟩ := h1
  obtain ⟨x1, f1, w1⟩ := td_u8 Try.underlying5 t1
  obtain ⟨p2, q2, e2, t2, h3⟩ := h2
  obtain ⟨x2, f2, w2⟩ := td_str Try.underlying9 t2
  obtain ⟨p3, q3, e3, t3, h4⟩ := h3
  obtain ⟨x3, f3, w3⟩ := td_str Try.underlying9 t3
  obtain ⟨p4, q4, e4, t4, h5⟩ := h4
  obtain ⟨x4, f4, w4⟩ := td_49 t4
  have h5 : q4 = [] := h5
  refine ⟨⟨x0, x1, x2, x3, x4⟩, ?_, ⟨w0, w1, w2, w3, w4⟩⟩
  rw [e0, f0, e1, f1, e2, f2, e3, f3, e4, f4, h5]; rfl
structure wf_GArr2_List_GNode (x : GArr2_List_GNode) : Prop where
  a0 : (wfL wf_GNode_) x.a0
  a1 : (wfL wf_GNode_) x.a1
theorem td_23 {ds : List D} (h : TD Try.prog 23 ds) : ∃ x : GArr2_List_GNode, ds = enc_GArr2_List_GNode x ∧ wf_GArr2_List_GNode x := by
  obtain ⟨l, e, hl, hq⟩ := TD.of_array (enc := (encL enc_GNode_)) (Q := (wfL wf_GNode_)) Try.underlying23 (fun {r} h => td_slice (enc := enc_GNode_) (q := wf_GNode_) Try.underlying22 (fun {r} h => td_51 h) h) h
  match l, hl with
  | [a0, a1], _ => exact ⟨⟨a0, a1⟩, e, ⟨hq a0 (by simp), hq a1 (by simp)⟩⟩
end Go.Proofs.Ytkajfanpdabjcaa.K
