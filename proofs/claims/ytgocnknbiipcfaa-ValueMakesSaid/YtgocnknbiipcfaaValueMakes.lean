/- ValueMakes: for every input the law returns true. No condition. -/
import Derived.Test.YtgocnknbiipcfaaL10
import Derived.Test.YtgocnknbiipcfaaPVMakes
import Derived.Test.YtgocnknbiipcfaaLO
import Derived.Test.YtgocnknbiipcfaaFrame
import Derived.Test.YtgocnknbiipcfaaRows
namespace Go.Proofs.Ytgocnknbiipcfaa
open Go.ChangeShapes Go.WideShapes Go.ChangeAt Go.RowKit
open Go.ChangeMaps (open_string shut_string)
set_option linter.unusedVariables false

open K in
theorem law_ValueMakes (W : World) (a0 : Int) (h0 : -9223372036854775808 ≤ a0 ∧ a0 ≤ 9223372036854775807) (a1 : Int) (h1 : 0 ≤ a1 ∧ a1 ≤ 18446744073709551615) (s2 : ByteArray) (h2 : s2.size ≤ maxLen) : Calls Try.prog 5 #[.int .i64 a0, .int .u64 a1, .string s2] W fun e W' => ∃ v, e = .returned v ∧ Ext W W' ∧ v = .bool true := by

  refine K.law_join (K.ok_telltalelaw04_ValueMakes a0 a1 s2.data.toList true (K.main_ValueMakes a0 a1 s2.data.toList h0 h1 h2)) ?_
  exact K.reps_cons (K.rep_lit rfl) (K.reps_cons (K.rep_lit rfl) (K.reps_cons (K.rep_str) (K.reps_nil)))
theorem own_ValueMakes : ownKnob Try.prog.godebug = none := by kernel_rfl
theorem laidOut_ValueMakes : laidOutB Try.prog = true := by kernel_rfl
set_option maxRecDepth 100000 in
theorem lifted_ValueMakes (os : Os) (started : os.Started) (H : Type) (enc : TypeId × Value → H) :
    ReturnsInHanded {} Try.checked os 5 .any (Rows.valueMakesSpec.pre6 enc Try.prog Try.f5 Rows.valueMakesRow.domain false) (Rows.valueMakesSpec.post enc Try.prog Try.f5 false true false false) := by
  refine returnsInHanded_of_change (C := Try.checked) own_ValueMakes started (by kernel_rfl) Try.func5
    (ChangeSpec.witness6 (enc := enc) (C := Try.checked) false ⟨#[], #[.int .i64 0, .int .u64 0, .string ⟨#[]⟩], []⟩ 8 (by kernel_rfl) (by kernel_rfl) (by kernel_rfl) (by kernel_rfl)) ?_
  intro W base args ds gs before hval0 hW hcnd _
  have hval : ∀ (j : Nat) t v, Try.f5.params[j]? = some t → args[j]? = some v → Value.okWide Try.prog W .any base t v := hval0
  have hW' := hW
  obtain ⟨p, q, hA0, hV, rfl, hfz, hnd⟩ := hW
  have hA : DataW.TrodAll enc Try.prog W 0 (fun _ => true) true Try.f5.params.toList args.toList ds p := hA0
  rw [Try.params5] at hA hval
  have hAll := hA
  obtain ⟨v0, vs0, d0, ds0, p0, q0, hargs, rfl, rfl, h0, r0⟩ := trodAll_cons hA
  obtain ⟨v1, vs1, d1, ds1, p1, q1, rfl, rfl, rfl, h1, r1⟩ := trodAll_cons r0
  obtain ⟨v2, vs2, d2, ds2, p2, q2, rfl, rfl, rfl, h2, r2⟩ := trodAll_cons r1
  obtain ⟨rfl, rfl, rfl⟩ := trodAll_nil r2
  obtain rfl : args = #[v0, v1, v2] := by cases args; simp_all
  obtain ⟨rfl, rfl⟩ := trodVars_none hV
  obtain ⟨a0, rfl, rfl, rfl, w0⟩ := open_int Try.underlying3 (hval 0 3 v0 rfl rfl) h0
  obtain ⟨a1, rfl, rfl, rfl, w1⟩ := open_int Try.underlying22 (hval 1 22 v1 rfl rfl) h1
  obtain ⟨s2, rfl, rfl, rfl, w2⟩ := open_string Try.underlying9 (hval 2 9 v2 rfl rfl) h2
  clear hA0 hval0
  refine Calls.mono (law_ValueMakes W a0 (bounds_i64 w0) a1 (bounds_u64 w1) s2 w2) fun e W' ⟨v, he, bel, hv⟩ => ?_
  subst he
  subst hv
  exact ⟨_, rfl, _, _, _, [], _, [], hW', trodAll_mk1 (shut_bool Try.underlying4 _), trodAll_below laidOut_ValueMakes bel (by kernel_rfl) hAll, rfl, bel.frame _, fun h => by cases h⟩
/-- The statement. -/
theorem holds_ValueMakes : Rows.ValueMakesSaid :=
  OpenClaim.holds_of_wide 5 Try.f5 rfl rfl rfl rfl rfl rfl rfl ⟨rfl, rfl, rfl, rfl, rfl⟩ rfl rfl rfl rfl rfl (by kernel_rfl) Try.func5 (by kernel_rfl)
    (of_decide_eq_true (by kernel_rfl)) (by unfold Func.isWrapper; first | (rw [if_pos (by decide +kernel)]; kernel_rfl) | (rw [if_neg (by decide +kernel)]; exact ⟨rfl, rfl⟩))
    (fun os started H enc _ => lifted_ValueMakes os started H enc)
end Go.Proofs.Ytgocnknbiipcfaa
