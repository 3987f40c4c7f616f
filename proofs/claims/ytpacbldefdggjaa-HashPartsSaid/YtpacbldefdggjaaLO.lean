/- openers -/
import Derived.Test.YtpacbldefdggjaaLd
import Derived.Test.YtpacbldefdggjaaLM
namespace Go.Proofs.Ytpacbldefdggjaa.K
open Go.RowKit Go.Lib
set_option linter.unusedVariables false
set_option linter.unusedSimpArgs false

structure wf_GArr2_Int (x : GArr2_Int) : Prop where
  a0 : (inK .i64) x.a0
  a1 : (inK .i64) x.a1
theorem td_28 {ds : List D} (h : TD Try.prog 28 ds) : ∃ x : GArr2_Int, ds = enc_GArr2_Int x ∧ wf_GArr2_Int x := by
  obtain ⟨l, e, hl, hq⟩ := TD.of_array (enc := (encI .i64)) (Q := (inK .i64)) Try.underlying28 (fun {r} h => td_int Try.underlying3 h) h
  match l, hl with
  | [a0, a1], _ => exact ⟨⟨a0, a1⟩, e, ⟨hq a0 (by simp), hq a1 (by simp)⟩⟩
end Go.Proofs.Ytpacbldefdggjaa.K
