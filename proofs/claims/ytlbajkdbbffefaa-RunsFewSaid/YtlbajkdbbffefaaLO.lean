/- openers -/
import Derived.Test.YtlbajkdbbffefaaLd
import Derived.Test.YtlbajkdbbffefaaLM
namespace Go.Proofs.Ytlbajkdbbffefaa.K
open Go.RowKit Go.Lib
set_option linter.unusedVariables false
set_option linter.unusedSimpArgs false

structure wf_GValue (x : GValue) : Prop where
  Kind : wfT x.Kind
  N : (inK .i64) x.N
  Bits : (inK .u64) x.Bits
  Text : wfS x.Text
theorem td_113 {ds : List D} (h : TD Try.prog 113 ds) : ∃ x : GValue, ds = enc_GValue x ∧ wf_GValue x := by
  have h0 := TD.of_struct Try.underlying113 h
  obtain ⟨p0, q0, e0, t0, h1⟩ := h0
  obtain ⟨x0, f0, w0⟩ := td_u8 Try.underlying5 t0
  obtain ⟨p1, q1, e1, t1, h2⟩ := h1
  obtain ⟨x1, f1, w1⟩ := td_int Try.underlying3 t1
  obtain ⟨p2, q2, e2, t2, h3⟩ := h2
  obtain ⟨x2, f2, w2⟩ := td_int Try.underlying111 t2
  obtain ⟨p3, q3, e3, t3, h4⟩ := h3
  obtain ⟨x3, f3, w3⟩ := td_str Try.underlying9 t3
  have h4 : q3 = [] := h4
  refine ⟨⟨x0, x1, x2, x3⟩, ?_, ⟨w0, w1, w2, w3⟩⟩
  rw [e0, f0, e1, f1, e2, f2, e3, f3, h4]; rfl
structure wf_GEvent (x : GEvent) : Prop where
  Time : (inK .i64) x.Time
  Source : (inK .i64) x.Source
  Seq : (inK .i64) x.Seq
  Type_ : wfS x.Type_
  Vals : (wfL wf_GValue) x.Vals
theorem td_81 {ds : List D} (h : TD Try.prog 81 ds) : ∃ x : GEvent, ds = enc_GEvent x ∧ wf_GEvent x := by
  have h0 := TD.of_struct Try.underlying81 h
  obtain ⟨p0, q0, e0, t0, h1⟩ := h0
  obtain ⟨x0, f0, w0⟩ := td_int Try.underlying3 t0
  obtain ⟨p1, q1, e1, t1, h2⟩ := h1
  obtain ⟨x1, f1, w1⟩ := td_int Try.underlying3 t1
  obtain ⟨p2, q2, e2, t2, h3⟩ := h2
  obtain ⟨x2, f2, w2⟩ := td_int Try.underlying3 t2
  obtain ⟨p3, q3, e3, t3, h4⟩ := h3
  obtain ⟨x3, f3, w3⟩ := td_str Try.underlying9 t3
  obtain ⟨p4, q4, e4, t4, h5⟩ := h4
  obtain ⟨x4, f4, w4⟩ := td_slice (enc := enc_GValue) (q := wf_GValue) Try.underlying79 (fun {r} h => td_113 h) t4
  have h5 : q4 = [] := h5
  refine ⟨⟨x0, x1, x2, x3, x4⟩, ?_, ⟨w0, w1, w2, w3, w4⟩⟩
  rw [e0, f0, e1, f1, e2, f2, e3, f3, e4, f4, h5]; rfl
structure wf_GPair (x : GPair) : Prop where
  Var : wfS x.Var
  E : wf_GEvent x.E
theorem td_83 {ds : List D} (h : TD Try.prog 83 ds) : ∃ x : GPair, ds = enc_GPair x ∧ wf_GPair x := by
  have h0 := TD.of_struct Try.underlying83 h
  obtain ⟨p0, q0, e0, t0, h1⟩ := h0
  obtain ⟨x0, f0, w0⟩ := td_str Try.underlying9 t0
  obtain ⟨p1, q1, e1, t1, h2⟩ := h1
  obtain ⟨x1, f1, w1⟩ := td_81 t1
  have h2 : q1 = [] := h2
  refine ⟨⟨x0, x1⟩, ?_, ⟨w0, w1⟩⟩
  rw [e0, f0, e1, f1, h2]; rfl
structure wf_GRun (x : GRun) : Prop where
  Place : (inK .i64) x.Place
  Bound : (wfL wf_GPair) x.Bound
  Broken : (inK .u32) x.Broken
theorem td_29 {ds : List D} (h : TD Try.prog 29 ds) : ∃ x : GRun, ds = enc_GRun x ∧ wf_GRun x := by
  have h0 := TD.of_struct Try.underlying29 h
  obtain ⟨p0, q0, e0, t0, h1⟩ := h0
  obtain ⟨x0, f0, w0⟩ := td_int Try.underlying3 t0
  obtain ⟨p1, q1, e1, t1, h2⟩ := h1
  obtain ⟨x1, f1, w1⟩ := td_slice (enc := enc_GPair) (q := wf_GPair) Try.underlying26 (fun {r} h => td_83 h) t1
  obtain ⟨p2, q2, e2, t2, h3⟩ := h2
  obtain ⟨x2, f2, w2⟩ := td_int Try.underlying27 t2
  have h3 : q2 = [] := h3
  refine ⟨⟨x0, x1, x2⟩, ?_, ⟨w0, w1, w2⟩⟩
  rw [e0, f0, e1, f1, e2, f2, h3]; rfl
structure wf_GRuns (x : GRuns) : Prop where
  Cap : (inK .i64) x.Cap
  L : (wfL wf_GRun) x.L
theorem td_24 {ds : List D} (h : TD Try.prog 24 ds) : ∃ x : GRuns, ds = enc_GRuns x ∧ wf_GRuns x := by
  have h0 := TD.of_struct Try.underlying24 h
  obtain ⟨p0, q0, e0, t0, h1⟩ := h0
  obtain ⟨x0, f0, w0⟩ := td_int Try.underlying3 t0
  obtain ⟨p1, q1, e1, t1, h2⟩ := h1
  obtain ⟨x1, f1, w1⟩ := td_slice (enc := enc_GRun) (q := wf_GRun) Try.underlying22 (fun {r} h => td_29 h) t1
  have h2 : q1 = [] := h2
  refine ⟨⟨x0, x1⟩, ?_, ⟨w0, w1⟩⟩
  rw [e0, f0, e1, f1, h2]; rfl
structure wf_GArr2_GRuns (x : GArr2_GRuns) : Prop where
  a0 : wf_GRuns x.a0
  a1 : wf_GRuns x.a1
theorem td_25 {ds : List D} (h : TD Try.prog 25 ds) : ∃ x : GArr2_GRuns, ds = enc_GArr2_GRuns x ∧ wf_GArr2_GRuns x := by
  obtain ⟨l, e, hl, hq⟩ := TD.of_array (enc := enc_GRuns) (Q := wf_GRuns) Try.underlying25 (fun {r} h => td_24 h) h
  match l, hl with
  | [a0, a1], _ => exact ⟨⟨a0, a1⟩, e, ⟨hq a0 (by simp), hq a1 (by simp)⟩⟩
structure wf_GArr3_Int (x : GArr3_Int) : Prop where
  a0 : (inK .i64) x.a0
  a1 : (inK .i64) x.a1
  a2 : (inK .i64) x.a2
theorem td_62 {ds : List D} (h : TD Try.prog 62 ds) : ∃ x : GArr3_Int, ds = enc_GArr3_Int x ∧ wf_GArr3_Int x := by
  obtain ⟨l, e, hl, hq⟩ := TD.of_array (enc := (encI .i64)) (Q := (inK .i64)) Try.underlying62 (fun {r} h => td_int Try.underlying3 h) h
  match l, hl with
  | [a0, a1, a2], _ => exact ⟨⟨a0, a1, a2⟩, e, ⟨hq a0 (by simp), hq a1 (by simp), hq a2 (by simp)⟩⟩
end Go.Proofs.Ytlbajkdbbffefaa.K
