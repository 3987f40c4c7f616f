/- BindApart: for every input the law returns true. No condition. -/
import Derived.Test.YtkagljfmfjaleaaB0
import Derived.Test.YtkagljfmfjaleaaPBindApart
import Derived.Test.YtkagljfmfjaleaaLO
import Derived.Test.YtkagljfmfjaleaaFrame
import Derived.Test.YtkagljfmfjaleaaRows
namespace Go.Proofs.Ytkagljfmfjaleaa
open Go.ChangeShapes Go.WideShapes Go.ChangeAt Go.RowKit
open Go.ChangeMaps (open_string shut_string)
set_option linter.unusedVariables false

open K in
theorem law_BindApart (W : World) (ds0 : List K.D) (cs0 : Array Value) (td0 : K.TD Try.prog 77 ds0) (rp0 : K.RepsD (fun b => b < W.heap.size) W ds0 cs0.toList) : Calls Try.prog 5 #[.agg cs0] W fun e W' => ∃ v, e = .returned v ∧ Ext W W' ∧ v = .bool true := by
  obtain ⟨y0, e0, w0⟩ := K.td_77 td0
  subst e0
  refine K.law_join (K.ok_telltalelaw19_BindApart y0 true (K.main_BindApart y0 w0)) ?_
  exact K.reps_cons (K.rep_ag rp0) (K.reps_nil)
theorem own_BindApart : ownKnob Try.prog.godebug = none := by kernel_rfl
theorem laidOut_BindApart : laidOutB Try.prog = true := by kernel_rfl
set_option maxRecDepth 100000 in
theorem lifted_BindApart (os : Os) (started : os.Started) (H : Type) (enc : TypeId × Value → H) :
    ReturnsInHanded {} Try.checked os 5 .any (Rows.bindApartSpec.pre6 enc Try.prog Try.f5 Rows.bindApartRow.domain false) (Rows.bindApartSpec.post enc Try.prog Try.f5 false true false false) := by
  refine returnsInHanded_of_change (C := Try.checked) own_BindApart started (by kernel_rfl) Try.func5
    (ChangeSpec.witness6 (enc := enc) (C := Try.checked) false ⟨#[], #[.agg #[.int .i64 0, .string ⟨#[]⟩, .slice none 0 0, .int .i64 0, .string ⟨#[]⟩, .slice none 0 0, .int .i64 0, .string ⟨#[]⟩, .slice none 0 0]], []⟩ 8 (by kernel_rfl) (by kernel_rfl) (by kernel_rfl) (by kernel_rfl)) ?_
  intro W base args ds gs before hval0 hW hcnd _
  have hval : ∀ (j : Nat) t v, Try.f5.params[j]? = some t → args[j]? = some v → Value.okWide Try.prog W .any base t v := hval0
  have hW' := hW
  obtain ⟨p, q, hA0, hV, rfl, hfz, hnd⟩ := hW
  have hA : DataW.TrodAll enc Try.prog W 0 (fun _ => true) true Try.f5.params.toList args.toList ds p := hA0
  rw [Try.params5] at hA hval
  have hAll := hA
  obtain ⟨v0, vs0, d0, ds0, p0, q0, hargs, rfl, rfl, h0, r0⟩ := trodAll_cons hA
  obtain ⟨rfl, rfl, rfl⟩ := trodAll_nil r0
  obtain rfl : args = #[v0] := by cases args; simp_all
  obtain ⟨rfl, rfl⟩ := trodVars_none hV
  obtain ⟨ds0, cs0, rfl, td0, rp0⟩ := K.open_agg 12 (by kernel_rfl) (by kernel_rfl) (hval 0 77 v0 rfl rfl) h0
  clear hA0 hval0
  refine Calls.mono (law_BindApart W ds0 cs0 td0 rp0) fun e W' ⟨v, he, bel, hv⟩ => ?_
  subst he
  subst hv
  exact ⟨_, rfl, _, _, _, [], _, [], hW', trodAll_mk1 (shut_bool Try.underlying4 _), trodAll_below laidOut_BindApart bel (by kernel_rfl) hAll, rfl, bel.frame _, fun h => by cases h⟩
/-- The statement. -/
theorem holds_BindApart : Rows.BindApartSaid :=
  OpenClaim.holds_of_wide 5 Try.f5 rfl rfl rfl rfl rfl rfl rfl ⟨rfl, rfl, rfl, rfl, rfl⟩ rfl rfl rfl rfl rfl (by kernel_rfl) Try.func5 (by kernel_rfl)
    (of_decide_eq_true (by kernel_rfl)) (by unfold Func.isWrapper; first | (rw [if_pos (by decide +kernel)]; kernel_rfl) | (rw [if_neg (by decide +kernel)]; exact ⟨rfl, rfl⟩))
    (fun os started H enc _ => lifted_BindApart os started H enc)
end Go.Proofs.Ytkagljfmfjaleaa
