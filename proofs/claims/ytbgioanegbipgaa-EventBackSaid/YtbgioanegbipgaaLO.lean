/- openers -/
import Derived.Test.YtbgioanegbipgaaLd
import Derived.Test.YtbgioanegbipgaaLM
namespace Go.Proofs.Ytbgioanegbipgaa.K
open Go.RowKit Go.Lib
set_option linter.unusedVariables false
set_option linter.unusedSimpArgs false

structure wf_GField (x : GField) : Prop where
  Name : wfS x.Name
  Kind : wfT x.Kind
theorem td_79 {ds : List D} (h : TD Try.prog 79 ds) : ∃ x : GField, ds = enc_GField x ∧ wf_GField x := by
  have h0 := TD.of_struct Try.underlying79 h
  obtain ⟨p0, q0, e0, t0, h1⟩ := h0
  obtain ⟨x0, f0, w0⟩ := td_str Try.underlying9 t0
  obtain ⟨p1, q1, e1, t1, h2⟩ := h1
  obtain ⟨x1, f1, w1⟩ := td_u8 Try.underlying5 t1
  have h2 : q1 = [] := h2
  refine ⟨⟨x0, x1⟩, ?_, ⟨w0, w1⟩⟩
  rw [e0, f0, e1, f1, h2]; rfl
structure wf_GType (x : GType) : Prop where
  Name : wfS x.Name
  Fields : (wfL wf_GField) x.Fields
theorem td_77 {ds : List D} (h : TD Try.prog 77 ds) : ∃ x : GType, ds = enc_GType x ∧ wf_GType x := by
  have h0 := TD.of_struct Try.underlying77 h
  obtain ⟨p0, q0, e0, t0, h1⟩ := h0
  obtain ⟨x0, f0, w0⟩ := td_str Try.underlying9 t0
  obtain ⟨p1, q1, e1, t1, h2⟩ := h1
  obtain ⟨x1, f1, w1⟩ := td_slice (enc := enc_GField) (q := wf_GField) Try.underlying75 (fun {r} h => td_79 h) t1
  have h2 : q1 = [] := h2
  refine ⟨⟨x0, x1⟩, ?_, ⟨w0, w1⟩⟩
  rw [e0, f0, e1, f1, h2]; rfl
structure wf_GValue (x : GValue) : Prop where
  Kind : wfT x.Kind
  N : (inK .i64) x.N
  Bits : (inK .u64) x.Bits
  Text : wfS x.Text
theorem td_47 {ds : List D} (h : TD Try.prog 47 ds) : ∃ x : GValue, ds = enc_GValue x ∧ wf_GValue x := by
  have h0 := TD.of_struct Try.underlying47 h
  obtain ⟨p0, q0, e0, t0, h1⟩ := h0
  obtain ⟨x0, f0, w0⟩ := td_u8 Try.underlying5 t0
  obtain ⟨p1, q1, e1, t1, h2⟩ := h1
  obtain ⟨x1, f1, w1⟩ := td_int Try.underlying3 t1
  obtain ⟨p2, q2, e2, t2, h3⟩ := h2
  obtain ⟨x2, f2, w2⟩ := td_int Try.underlying42 t2
  obtain ⟨p3, q3, e3, t3, h4⟩ := h3
  obtain ⟨x3, f3, w3⟩ := td_str Try.underlying9 t3
  have h4 : q3 = [] := h4
  refine ⟨⟨x0, x1, x2, x3⟩, ?_, ⟨w0, w1, w2, w3⟩⟩
  rw [e0, f0, e1, f1, e2, f2, e3, f3, h4]; rfl
structure wf_GEvent (x : GEvent) : Prop where
  Time : (inK .i64) x.Time
  Source : (inK .i64) x.Source
  Seq : (inK .i64) x.Seq
  Type_ : wfS x.Type_
  Vals : (wfL wf_GValue) x.Vals
theorem td_25 {ds : List D} (h : TD Try.prog 25 ds) : ∃ x : GEvent, ds = enc_GEvent x ∧ wf_GEvent x := by
  have h0 := TD.of_struct Try.underlying25 h
  obtain ⟨p0, q0, e0, t0, h1⟩ := h0
  obtain ⟨x0, f0, w0⟩ := td_int Try.underlying3 t0
  obtain ⟨p1, q1, e1, t1, h2⟩ := h1
  obtain ⟨x1, f1, w1⟩ := td_int Try.underlying3 t1
  obtain ⟨p2, q2, e2, t2, h3⟩ := h2
  obtain ⟨x2, f2, w2⟩ := td_int Try.underlying3 t2
  obtain ⟨p3, q3, e3, t3, h4⟩ := h3
  obtain ⟨x3, f3, w3⟩ := td_str Try.underlying9 t3
  obtain ⟨p4, q4, e4, t4, h5⟩ := h4
  obtain ⟨x4, f4, w4⟩ := td_slice (enc := enc_GValue) (q := wf_GValue) Try.underlying23 (fun {r} h => td_47 h) t4
  have h5 : q4 = [] := h5
  refine ⟨⟨x0, x1, x2, x3, x4⟩, ?_, ⟨w0, w1, w2, w3, w4⟩⟩
  rw [e0, f0, e1, f1, e2, f2, e3, f3, e4, f4, h5]; rfl
structure wf_GArr2_GEvent (x : GArr2_GEvent) : Prop where
  a0 : wf_GEvent x.a0
  a1 : wf_GEvent x.a1
theorem td_73 {ds : List D} (h : TD Try.prog 73 ds) : ∃ x : GArr2_GEvent, ds = enc_GArr2_GEvent x ∧ wf_GArr2_GEvent x := by
  obtain ⟨l, e, hl, hq⟩ := TD.of_array (enc := enc_GEvent) (Q := wf_GEvent) Try.underlying73 (fun {r} h => td_25 h) h
  match l, hl with
  | [a0, a1], _ => exact ⟨⟨a0, a1⟩, e, ⟨hq a0 (by simp), hq a1 (by simp)⟩⟩
end Go.Proofs.Ytbgioanegbipgaa.K
