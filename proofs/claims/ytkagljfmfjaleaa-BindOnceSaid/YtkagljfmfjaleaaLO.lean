/- openers -/
import Derived.Test.YtkagljfmfjaleaaLd
import Derived.Test.YtkagljfmfjaleaaLM
namespace Go.Proofs.Ytkagljfmfjaleaa.K
open Go.RowKit Go.Lib
set_option linter.unusedVariables false
set_option linter.unusedSimpArgs false

structure wf_GValue (x : GValue) : Prop where
  Kind : wfT x.Kind
  N : (inK .i64) x.N
  Bits : (inK .u64) x.Bits
  Text : wfS x.Text
theorem td_88 {ds : List D} (h : TD Try.prog 88 ds) : ∃ x : GValue, ds = enc_GValue x ∧ wf_GValue x := by
  have h0 := TD.of_struct Try.underlying88 h
  obtain ⟨p0, q0, e0, t0, h1⟩ := h0
  obtain ⟨x0, f0, w0⟩ := td_u8 Try.underlying5 t0
  obtain ⟨p1, q1, e1, t1, h2⟩ := h1
  obtain ⟨x1, f1, w1⟩ := td_int Try.underlying3 t1
  obtain ⟨p2, q2, e2, t2, h3⟩ := h2
  obtain ⟨x2, f2, w2⟩ := td_int Try.underlying86 t2
  obtain ⟨p3, q3, e3, t3, h4⟩ := h3
  obtain ⟨x3, f3, w3⟩ := td_str Try.underlying9 t3
  have h4 : q3 = [] := h4
  refine ⟨⟨x0, x1, x2, x3⟩, ?_, ⟨w0, w1, w2, w3⟩⟩
  rw [e0, f0, e1, f1, e2, f2, e3, f3, h4]; rfl
structure wf_GEvent (x : GEvent) : Prop where
  Time : (inK .i64) x.Time
  Source : (inK .i64) x.Source
  Seq : (inK .i64) x.Seq
  Type_ : wfS x.Type_
  Vals : (wfL wf_GValue) x.Vals
theorem td_26 {ds : List D} (h : TD Try.prog 26 ds) : ∃ x : GEvent, ds = enc_GEvent x ∧ wf_GEvent x := by
  have h0 := TD.of_struct Try.underlying26 h
  obtain ⟨p0, q0, e0, t0, h1⟩ := h0
  obtain ⟨x0, f0, w0⟩ := td_int Try.underlying3 t0
  obtain ⟨p1, q1, e1, t1, h2⟩ := h1
  obtain ⟨x1, f1, w1⟩ := td_int Try.underlying3 t1
  obtain ⟨p2, q2, e2, t2, h3⟩ := h2
  obtain ⟨x2, f2, w2⟩ := td_int Try.underlying3 t2
  obtain ⟨p3, q3, e3, t3, h4⟩ := h3
  obtain ⟨x3, f3, w3⟩ := td_str Try.underlying9 t3
  obtain ⟨p4, q4, e4, t4, h5⟩ := h4
  obtain ⟨x4, f4, w4⟩ := td_slice (enc := enc_GValue) (q := wf_GValue) Try.underlying24 (fun {r} h => td_88 h) t4
  have h5 : q4 = [] := h5
  refine ⟨⟨x0, x1, x2, x3, x4⟩, ?_, ⟨w0, w1, w2, w3, w4⟩⟩
  rw [e0, f0, e1, f1, e2, f2, e3, f3, e4, f4, h5]; rfl
structure wf_GPair (x : GPair) : Prop where
  Var : wfS x.Var
  E : wf_GEvent x.E
theorem td_28 {ds : List D} (h : TD Try.prog 28 ds) : ∃ x : GPair, ds = enc_GPair x ∧ wf_GPair x := by
  have h0 := TD.of_struct Try.underlying28 h
  obtain ⟨p0, q0, e0, t0, h1⟩ := h0
  obtain ⟨x0, f0, w0⟩ := td_str Try.underlying9 t0
  obtain ⟨p1, q1, e1, t1, h2⟩ := h1
  obtain ⟨x1, f1, w1⟩ := td_26 t1
  have h2 : q1 = [] := h2
  refine ⟨⟨x0, x1⟩, ?_, ⟨w0, w1⟩⟩
  rw [e0, f0, e1, f1, h2]; rfl
structure wf_GArr2_List_GPair (x : GArr2_List_GPair) : Prop where
  a0 : (wfL wf_GPair) x.a0
  a1 : (wfL wf_GPair) x.a1
theorem td_23 {ds : List D} (h : TD Try.prog 23 ds) : ∃ x : GArr2_List_GPair, ds = enc_GArr2_List_GPair x ∧ wf_GArr2_List_GPair x := by
  obtain ⟨l, e, hl, hq⟩ := TD.of_array (enc := (encL enc_GPair)) (Q := (wfL wf_GPair)) Try.underlying23 (fun {r} h => td_slice (enc := enc_GPair) (q := wf_GPair) Try.underlying22 (fun {r} h => td_28 h) h) h
  match l, hl with
  | [a0, a1], _ => exact ⟨⟨a0, a1⟩, e, ⟨hq a0 (by simp), hq a1 (by simp)⟩⟩
structure wf_GMatch (x : GMatch) : Prop where
  Pattern : (inK .i64) x.Pattern
  Key : wfS x.Key
  Bound : (wfL wf_GPair) x.Bound
theorem td_48 {ds : List D} (h : TD Try.prog 48 ds) : ∃ x : GMatch, ds = enc_GMatch x ∧ wf_GMatch x := by
  have h0 := TD.of_struct Try.underlying48 h
  obtain ⟨p0, q0, e0, t0, h1⟩ := h0
  obtain ⟨x0, f0, w0⟩ := td_int Try.underlying3 t0
  obtain ⟨p1, q1, e1, t1, h2⟩ := h1
  obtain ⟨x1, f1, w1⟩ := td_str Try.underlying9 t1
  obtain ⟨p2, q2, e2, t2, h3⟩ := h2
  obtain ⟨x2, f2, w2⟩ := td_slice (enc := enc_GPair) (q := wf_GPair) Try.underlying22 (fun {r} h => td_28 h) t2
  have h3 : q2 = [] := h3
  refine ⟨⟨x0, x1, x2⟩, ?_, ⟨w0, w1, w2⟩⟩
  rw [e0, f0, e1, f1, e2, f2, h3]; rfl
structure wf_GArr3_GMatch (x : GArr3_GMatch) : Prop where
  a0 : wf_GMatch x.a0
  a1 : wf_GMatch x.a1
  a2 : wf_GMatch x.a2
theorem td_77 {ds : List D} (h : TD Try.prog 77 ds) : ∃ x : GArr3_GMatch, ds = enc_GArr3_GMatch x ∧ wf_GArr3_GMatch x := by
  obtain ⟨l, e, hl, hq⟩ := TD.of_array (enc := enc_GMatch) (Q := wf_GMatch) Try.underlying77 (fun {r} h => td_48 h) h
  match l, hl with
  | [a0, a1, a2], _ => exact ⟨⟨a0, a1, a2⟩, e, ⟨hq a0 (by simp), hq a1 (by simp), hq a2 (by simp)⟩⟩
end Go.Proofs.Ytkagljfmfjaleaa.K
