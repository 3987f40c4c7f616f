/- OctetOne: for every input the law returns true. No condition. -/
import Derived.Test.YtfklpnaklhcobaaOL
import Derived.Test.YtfklpnaklhcobaaFrame
import Derived.Test.YtfklpnaklhcobaaRows
namespace Go.Proofs.Ytfklpnaklhcobaa
open Go.ChangeShapes Go.WideShapes Go.ChangeAt Go.RowKit
open Go.ChangeMaps (open_string shut_string)
set_option linter.unusedVariables false

theorem law_OctetOne (W : World) (q : List Int) (hq : q.length = 2) (hw : ∀ n ∈ q, (Lit.int .u64 n).wf = true) : Calls Try.prog 6 #[.agg (q.map (.int .u64)).toArray] W fun e W' => ∃ v, e = .returned v ∧ Ext W W' ∧ v = .bool true := by
  match q, hq with
  | [a, b], _ =>
    have ha := bounds_u64 (hw a (by simp))
    have hb := bounds_u64 (hw b (by simp))
    obtain ⟨a, rfl⟩ := Int.eq_ofNat_of_zero_le ha.1
    obtain ⟨b, rfl⟩ := Int.eq_ofNat_of_zero_le hb.1
    refine K.law_join (K.one_w a b (by omega) (by omega)) ?_
    exact K.reps_cons (K.rep_agg (K.reps_cons (K.rep_lit rfl) (K.reps_cons (K.rep_lit rfl) K.reps_nil))) K.reps_nil
theorem own_OctetOne : ownKnob Try.prog.godebug = none := by kernel_rfl
theorem laidOut_OctetOne : laidOutB Try.prog = true := by kernel_rfl
set_option maxRecDepth 100000 in
theorem lifted_OctetOne (os : Os) (started : os.Started) (H : Type) (enc : TypeId × Value → H) :
    ReturnsInHanded {} Try.checked os 6 .any (Rows.octetOneSpec.pre6 enc Try.prog Try.f6 Rows.octetOneRow.domain false) (Rows.octetOneSpec.post enc Try.prog Try.f6 false true false false) := by
  refine returnsInHanded_of_change (C := Try.checked) own_OctetOne started (by kernel_rfl) Try.func6
    (ChangeSpec.witness6 (enc := enc) (C := Try.checked) false ⟨#[], #[.agg #[.int .u64 0, .int .u64 0]], []⟩ 8 (by kernel_rfl) (by kernel_rfl) (by kernel_rfl) (by kernel_rfl)) ?_
  intro W base args ds gs before hval0 hW hcnd _
  have hval : ∀ (j : Nat) t v, Try.f6.params[j]? = some t → args[j]? = some v → Value.okWide Try.prog W .any base t v := hval0
  have hW' := hW
  obtain ⟨p, q, hA0, hV, rfl, hfz, hnd⟩ := hW
  have hA : DataW.TrodAll enc Try.prog W 0 (fun _ => true) true Try.f6.params.toList args.toList ds p := hA0
  rw [Try.params6] at hA hval
  have hAll := hA
  obtain ⟨v0, vs0, d0, ds0, p0, q0, hargs, rfl, rfl, h0, r0⟩ := trodAll_cons hA
  obtain ⟨rfl, rfl, rfl⟩ := trodAll_nil r0
  obtain rfl : args = #[v0] := by cases args; simp_all
  obtain ⟨rfl, rfl⟩ := trodVars_none hV
  obtain ⟨l0, rfl, w0, x0⟩ := op_array_ints Try.underlying62 Try.underlying25 (by kernel_rfl) (by kernel_rfl) (hval 0 62 v0 rfl rfl) h0
  clear hA0 hval0
  refine Calls.mono (law_OctetOne W l0 w0 x0) fun e W' ⟨v, he, bel, hv⟩ => ?_
  subst he
  subst hv
  exact ⟨_, rfl, _, _, _, [], _, [], hW', trodAll_mk1 (shut_bool Try.underlying4 _), trodAll_below laidOut_OctetOne bel (by kernel_rfl) hAll, rfl, bel.frame _, fun h => by cases h⟩
/-- The statement. -/
theorem holds_OctetOne : Rows.OctetOneSaid :=
  OpenClaim.holds_of_wide 6 Try.f6 rfl rfl rfl rfl rfl rfl rfl ⟨rfl, rfl, rfl, rfl, rfl⟩ rfl rfl rfl rfl rfl (by kernel_rfl) Try.func6 (by kernel_rfl)
    (of_decide_eq_true (by kernel_rfl)) (by unfold Func.isWrapper; first | (rw [if_pos (by decide +kernel)]; kernel_rfl) | (rw [if_neg (by decide +kernel)]; exact ⟨rfl, rfl⟩))
    (fun os started H enc _ => lifted_OctetOne os started H enc)
end Go.Proofs.Ytfklpnaklhcobaa
