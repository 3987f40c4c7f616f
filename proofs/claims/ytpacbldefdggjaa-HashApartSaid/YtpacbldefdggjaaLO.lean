/- openers -/
import Derived.Test.YtpacbldefdggjaaLd
import Derived.Test.YtpacbldefdggjaaLM
namespace Go.Proofs.Ytpacbldefdggjaa.K
open Go.RowKit Go.Lib
set_option linter.unusedVariables false
set_option linter.unusedSimpArgs false

structure wf_GArr2_Int (x : GArr2_Int) : Prop where
  a0 : (inK .i64) x.a0
  a1 : (inK .i64) x.a1
theorem td_28 {ds : List D} (h : TD Try.prog 28 ds) : ∃ x : GArr2_Int, ds = enc_GArr2_Int x ∧ wf_GArr2_Int x := by
  obtain ⟨l, e, hl, hq⟩ := TD.of_array (enc := (encI .i64)) (Q := (inK .i64)) Try.underlying28 (fun {r} h => td_int Try.underlying3 h) h
  match l, hl with
  | [a0, a1], _ => exact ⟨⟨a0, a1⟩, e, ⟨hq a0 (by simp), hq a1 (by simp)⟩⟩
structure wf_GValue (x : GValue) : Prop where
  Kind : wfT x.Kind
  N : (inK .i64) x.N
  Bits : (inK .u64) x.Bits
  Text : wfS x.Text
theorem td_30 {ds : List D} (h : TD Try.prog 30 ds) : ∃ x : GValue, ds = enc_GValue x ∧ wf_GValue x := by
  have h0 := TD.of_struct Try.underlying30 h
  obtain ⟨p0, q0, e0, t0, h1⟩ := h0
  obtain ⟨x0, f0, w0⟩ := td_u8 Try.underlying5 t0
  obtain ⟨p1, q1, e1, t1, h2⟩ := h1
  obtain ⟨x1, f1, w1⟩ := td_int Try.underlying3 t1
  obtain ⟨p2, q2, e2, t2, h3⟩ := h2
  obtain ⟨x2, f2, w2⟩ := td_int Try.underlying22 t2
  obtain ⟨p3, q3, e3, t3, h4⟩ := h3
  obtain ⟨x3, f3, w3⟩ := td_str Try.underlying9 t3
  have h4 : q3 = [] := h4
  refine ⟨⟨x0, x1, x2, x3⟩, ?_, ⟨w0, w1, w2, w3⟩⟩
  rw [e0, f0, e1, f1, e2, f2, e3, f3, h4]; rfl
structure wf_GArr2_UInt8 (x : GArr2_UInt8) : Prop where
  a0 : wfT x.a0
  a1 : wfT x.a1
theorem td_42 {ds : List D} (h : TD Try.prog 42 ds) : ∃ x : GArr2_UInt8, ds = enc_GArr2_UInt8 x ∧ wf_GArr2_UInt8 x := by
  obtain ⟨l, e, hl, hq⟩ := TD.of_array (enc := encU8) (Q := wfT) Try.underlying42 (fun {r} h => td_u8 Try.underlying5 h) h
  match l, hl with
  | [a0, a1], _ => exact ⟨⟨a0, a1⟩, e, ⟨hq a0 (by simp), hq a1 (by simp)⟩⟩
end Go.Proofs.Ytpacbldefdggjaa.K
