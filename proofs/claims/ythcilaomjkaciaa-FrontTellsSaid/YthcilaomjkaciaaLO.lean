/- openers -/
import Derived.Test.YthcilaomjkaciaaLd
import Derived.Test.YthcilaomjkaciaaLM
namespace Go.Proofs.Ythcilaomjkaciaa.K
open Go.RowKit Go.Lib
set_option linter.unusedVariables false
set_option linter.unusedSimpArgs false

structure wf_GChange (x : GChange) : Prop where
  Loc : (inK .i64) x.Loc
  Time : (inK .i64) x.Time
  N : (inK .i64) x.N
theorem td_40 {ds : List D} (h : TD Try.prog 40 ds) : ∃ x : GChange, ds = enc_GChange x ∧ wf_GChange x := by
  have h0 := TD.of_struct Try.underlying40 h
  obtain ⟨p0, q0, e0, t0, h1⟩ := h0
  obtain ⟨x0, f0, w0⟩ := td_int Try.underlying3 t0
  obtain ⟨p1, q1, e1, t1, h2⟩ := h1
  obtain ⟨x1, f1, w1⟩ := td_int Try.underlying3 t1
  obtain ⟨p2, q2, e2, t2, h3⟩ := h2
  obtain ⟨x2, f2, w2⟩ := td_int Try.underlying3 t2
  have h3 : q2 = [] := h3
  refine ⟨⟨x0, x1, x2⟩, ?_, ⟨w0, w1, w2⟩⟩
  rw [e0, f0, e1, f1, e2, f2, h3]; rfl
structure wf_GArr2_List_GChange (x : GArr2_List_GChange) : Prop where
  a0 : (wfL wf_GChange) x.a0
  a1 : (wfL wf_GChange) x.a1
theorem td_23 {ds : List D} (h : TD Try.prog 23 ds) : ∃ x : GArr2_List_GChange, ds = enc_GArr2_List_GChange x ∧ wf_GArr2_List_GChange x := by
  obtain ⟨l, e, hl, hq⟩ := TD.of_array (enc := (encL enc_GChange)) (Q := (wfL wf_GChange)) Try.underlying23 (fun {r} h => td_slice (enc := enc_GChange) (q := wf_GChange) Try.underlying22 (fun {r} h => td_40 h) h) h
  match l, hl with
  | [a0, a1], _ => exact ⟨⟨a0, a1⟩, e, ⟨hq a0 (by simp), hq a1 (by simp)⟩⟩
structure wf_GArr2_Int (x : GArr2_Int) : Prop where
  a0 : (inK .i64) x.a0
  a1 : (inK .i64) x.a1
theorem td_24 {ds : List D} (h : TD Try.prog 24 ds) : ∃ x : GArr2_Int, ds = enc_GArr2_Int x ∧ wf_GArr2_Int x := by
  obtain ⟨l, e, hl, hq⟩ := TD.of_array (enc := (encI .i64)) (Q := (inK .i64)) Try.underlying24 (fun {r} h => td_int Try.underlying3 h) h
  match l, hl with
  | [a0, a1], _ => exact ⟨⟨a0, a1⟩, e, ⟨hq a0 (by simp), hq a1 (by simp)⟩⟩
end Go.Proofs.Ythcilaomjkaciaa.K
