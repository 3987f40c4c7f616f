/- openers -/
import Derived.Test.YtkamekhkkkeedaaLd
import Derived.Test.YtkamekhkkkeedaaLM
namespace Go.Proofs.Ytkamekhkkkeedaa.K
open Go.RowKit Go.Lib
set_option linter.unusedVariables false
set_option linter.unusedSimpArgs false

structure wf_GLeave (x : GLeave) : Prop where
  Loc : (inK .i64) x.Loc
  Time : (inK .i64) x.Time
  Held : wfT x.Held
theorem td_68 {ds : List D} (h : TD Try.prog 68 ds) : ∃ x : GLeave, ds = enc_GLeave x ∧ wf_GLeave x := by
  have h0 := TD.of_struct Try.underlying68 h
  obtain ⟨p0, q0, e0, t0, h1⟩ := h0
  obtain ⟨x0, f0, w0⟩ := td_int Try.underlying3 t0
  obtain ⟨p1, q1, e1, t1, h2⟩ := h1
  obtain ⟨x1, f1, w1⟩ := td_int Try.underlying3 t1
  obtain ⟨p2, q2, e2, t2, h3⟩ := h2
  obtain ⟨x2, f2, w2⟩ := td_bool Try.underlying4 t2
  have h3 : q2 = [] := h3
  refine ⟨⟨x0, x1, x2⟩, ?_, ⟨w0, w1, w2⟩⟩
  rw [e0, f0, e1, f1, e2, f2, h3]; rfl
structure wf_GArr2_List_GLeave (x : GArr2_List_GLeave) : Prop where
  a0 : (wfL wf_GLeave) x.a0
  a1 : (wfL wf_GLeave) x.a1
theorem td_23 {ds : List D} (h : TD Try.prog 23 ds) : ∃ x : GArr2_List_GLeave, ds = enc_GArr2_List_GLeave x ∧ wf_GArr2_List_GLeave x := by
  obtain ⟨l, e, hl, hq⟩ := TD.of_array (enc := (encL enc_GLeave)) (Q := (wfL wf_GLeave)) Try.underlying23 (fun {r} h => td_slice (enc := enc_GLeave) (q := wf_GLeave) Try.underlying22 (fun {r} h => td_68 h) h) h
  match l, hl with
  | [a0, a1], _ => exact ⟨⟨a0, a1⟩, e, ⟨hq a0 (by simp), hq a1 (by simp)⟩⟩
structure wf_GTurn (x : GTurn) : Prop where
  Kind : wfT x.Kind
  A : (inK .i64) x.A
  B : (inK .i64) x.B
theorem td_25 {ds : List D} (h : TD Try.prog 25 ds) : ∃ x : GTurn, ds = enc_GTurn x ∧ wf_GTurn x := by
  have h0 := TD.of_struct Try.underlying25 h
  obtain ⟨p0, q0, e0, t0, h1⟩ := h0
  obtain ⟨x0, f0, w0⟩ := td_u8 Try.underlying5 t0
  obtain ⟨p1, q1, e1, t1, h2⟩ := h1
  obtain ⟨x1, f1, w1⟩ := td_int Try.underlying3 t1
  obtain ⟨p2, q2, e2, t2, h3⟩ := h2
  obtain ⟨x2, f2, w2⟩ := td_int Try.underlying3 t2
  have h3 : q2 = [] := h3
  refine ⟨⟨x0, x1, x2⟩, ?_, ⟨w0, w1, w2⟩⟩
  rw [e0, f0, e1, f1, e2, f2, h3]; rfl
end Go.Proofs.Ytkamekhkkkeedaa.K
