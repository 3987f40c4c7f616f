/- EventTakes: for every input the law returns true. No condition. -/
import Derived.Test.YtbgioanegbipgaaB2
import Derived.Test.YtbgioanegbipgaaPEventTakes
import Derived.Test.YtbgioanegbipgaaLO
import Derived.Test.YtbgioanegbipgaaFrame
import Derived.Test.YtbgioanegbipgaaRows
namespace Go.Proofs.Ytbgioanegbipgaa
open Go.ChangeShapes Go.WideShapes Go.ChangeAt Go.RowKit
open Go.ChangeMaps (open_string shut_string)
set_option linter.unusedVariables false

open K in
theorem law_EventTakes (W : World) {v0 : Value} (x0 : K.D) (td0 : K.TD Try.prog 22 [x0]) (rp0 : K.RepD (fun b => b < W.heap.size) W x0 v0) (s1 : ByteArray) (h1 : s1.size ≤ maxLen) (a2 : Int) (h2 : -9223372036854775808 ≤ a2 ∧ a2 ≤ 9223372036854775807) : Calls Try.prog 4 #[v0, .string s1, .int .i64 a2] W fun e W' => ∃ v, e = .returned v ∧ Ext W W' ∧ v = .bool true := by
  obtain ⟨y0, e0, w0⟩ := K.td_slice (enc := K.enc_GType) (q := K.wf_GType) Try.underlying22 (fun {r} h => K.td_77 h) td0
  refine K.law_join (K.ok_telltalelaw07_EventTakes y0 s1.data.toList a2 true (K.main_EventTakes y0 s1.data.toList a2 w0 h1 h2)) ?_
  exact K.reps_cons (K.rep_1 rp0 e0 rfl) (K.reps_cons (K.rep_str) (K.reps_cons (K.rep_lit rfl) (K.reps_nil)))
theorem own_EventTakes : ownKnob Try.prog.godebug = none := by kernel_rfl
theorem laidOut_EventTakes : laidOutB Try.prog = true := by kernel_rfl
set_option maxRecDepth 100000 in
theorem lifted_EventTakes (os : Os) (started : os.Started) (H : Type) (enc : TypeId × Value → H) :
    ReturnsInHanded {} Try.checked os 4 .any (Rows.eventTakesSpec.pre6 enc Try.prog Try.f4 Rows.eventTakesRow.domain false) (Rows.eventTakesSpec.post enc Try.prog Try.f4 false true false false) := by
  refine returnsInHanded_of_change (C := Try.checked) own_EventTakes started (by kernel_rfl) Try.func4
    (ChangeSpec.witness6 (enc := enc) (C := Try.checked) false ⟨#[], #[.slice none 0 0, .string ⟨#[]⟩, .int .i64 0], []⟩ 8 (by kernel_rfl) (by kernel_rfl) (by kernel_rfl) (by kernel_rfl)) ?_
  intro W base args ds gs before hval0 hW hcnd _
  have hval : ∀ (j : Nat) t v, Try.f4.params[j]? = some t → args[j]? = some v → Value.okWide Try.prog W .any base t v := hval0
  have hW' := hW
  obtain ⟨p, q, hA0, hV, rfl, hfz, hnd⟩ := hW
  have hA : DataW.TrodAll enc Try.prog W 0 (fun _ => true) true Try.f4.params.toList args.toList ds p := hA0
  rw [Try.params4] at hA hval
  have hAll := hA
  obtain ⟨v0, vs0, d0, ds0, p0, q0, hargs, rfl, rfl, h0, r0⟩ := trodAll_cons hA
  obtain ⟨v1, vs1, d1, ds1, p1, q1, rfl, rfl, rfl, h1, r1⟩ := trodAll_cons r0
  obtain ⟨v2, vs2, d2, ds2, p2, q2, rfl, rfl, rfl, h2, r2⟩ := trodAll_cons r1
  obtain ⟨rfl, rfl, rfl⟩ := trodAll_nil r2
  obtain rfl : args = #[v0, v1, v2] := by cases args; simp_all
  obtain ⟨rfl, rfl⟩ := trodVars_none hV
  obtain ⟨x0, td0, rp0⟩ := K.open_one 12 (by kernel_rfl) (by kernel_rfl) (hval 0 22 v0 rfl rfl) h0
  obtain ⟨s1, rfl, rfl, rfl, w1⟩ := open_string Try.underlying9 (hval 1 9 v1 rfl rfl) h1
  obtain ⟨a2, rfl, rfl, rfl, w2⟩ := open_int Try.underlying3 (hval 2 3 v2 rfl rfl) h2
  clear hA0 hval0
  refine Calls.mono (law_EventTakes W x0 td0 rp0 s1 w1 a2 (bounds_i64 w2)) fun e W' ⟨v, he, bel, hv⟩ => ?_
  subst he
  subst hv
  exact ⟨_, rfl, _, _, _, [], _, [], hW', trodAll_mk1 (shut_bool Try.underlying4 _), trodAll_below laidOut_EventTakes bel (by kernel_rfl) hAll, rfl, bel.frame _, fun h => by cases h⟩
/-- The statement. -/
theorem holds_EventTakes : Rows.EventTakesSaid :=
  OpenClaim.holds_of_wide 4 Try.f4 rfl rfl rfl rfl rfl rfl rfl ⟨rfl, rfl, rfl, rfl, rfl⟩ rfl rfl rfl rfl rfl (by kernel_rfl) Try.func4 (by kernel_rfl)
    (of_decide_eq_true (by kernel_rfl)) (by unfold Func.isWrapper; first | (rw [if_pos (by decide +kernel)]; kernel_rfl) | (rw [if_neg (by decide +kernel)]; exact ⟨rfl, rfl⟩))
    (fun os started H enc _ => lifted_EventTakes os started H enc)
end Go.Proofs.Ytbgioanegbipgaa
