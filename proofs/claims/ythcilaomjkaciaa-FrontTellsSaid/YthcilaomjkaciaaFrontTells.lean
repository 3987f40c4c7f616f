/- FrontTells: for every input the law returns true. No condition. -/
import Derived.Test.YthcilaomjkaciaaL5
import Derived.Test.YthcilaomjkaciaaPFrontTells
import Derived.Test.YthcilaomjkaciaaLO
import Derived.Test.YthcilaomjkaciaaFrame
import Derived.Test.YthcilaomjkaciaaRows
namespace Go.Proofs.Ythcilaomjkaciaa
open Go.ChangeShapes Go.WideShapes Go.ChangeAt Go.RowKit
open Go.ChangeMaps (open_string shut_string)
set_option linter.unusedVariables false

open K in
theorem law_FrontTells (W : World) (ds0 : List K.D) (cs0 : Array Value) (td0 : K.TD Try.prog 23 ds0) (rp0 : K.RepsD (fun b => b < W.heap.size) W ds0 cs0.toList) (ds1 : List K.D) (cs1 : Array Value) (td1 : K.TD Try.prog 24 ds1) (rp1 : K.RepsD (fun b => b < W.heap.size) W ds1 cs1.toList) (a2 : Int) (h2 : -9223372036854775808 ≤ a2 ∧ a2 ≤ 9223372036854775807) : Calls Try.prog 3 #[.agg cs0, .agg cs1, .int .i64 a2] W fun e W' => ∃ v, e = .returned v ∧ Ext W W' ∧ v = .bool true := by
  obtain ⟨y0, e0, w0⟩ := K.td_23 td0
  subst e0
  obtain ⟨y1, e1, w1⟩ := K.td_24 td1
  subst e1
  refine K.law_join (K.ok_telltalelaw27_FrontTells y0 y1 a2 true (K.main_FrontTells y0 y1 a2 w0 w1 h2)) ?_
  exact K.reps_cons (K.rep_ag rp0) (K.reps_cons (K.rep_ag rp1) (K.reps_cons (K.rep_lit rfl) (K.reps_nil)))
theorem own_FrontTells : ownKnob Try.prog.godebug = none := by kernel_rfl
theorem laidOut_FrontTells : laidOutB Try.prog = true := by kernel_rfl
set_option maxRecDepth 100000 in
theorem lifted_FrontTells (os : Os) (started : os.Started) (H : Type) (enc : TypeId × Value → H) :
    ReturnsInHanded {} Try.checked os 3 .any (Rows.frontTellsSpec.pre6 enc Try.prog Try.f3 Rows.frontTellsRow.domain false) (Rows.frontTellsSpec.post enc Try.prog Try.f3 false true false false) := by
  refine returnsInHanded_of_change (C := Try.checked) own_FrontTells started (by kernel_rfl) Try.func3
    (ChangeSpec.witness6 (enc := enc) (C := Try.checked) false ⟨#[], #[.agg #[.slice none 0 0, .slice none 0 0], .agg #[.int .i64 0, .int .i64 0], .int .i64 0], []⟩ 8 (by kernel_rfl) (by kernel_rfl) (by kernel_rfl) (by kernel_rfl)) ?_
  intro W base args ds gs before hval0 hW hcnd _
  have hval : ∀ (j : Nat) t v, Try.f3.params[j]? = some t → args[j]? = some v → Value.okWide Try.prog W .any base t v := hval0
  have hW' := hW
  obtain ⟨p, q, hA0, hV, rfl, hfz, hnd⟩ := hW
  have hA : DataW.TrodAll enc Try.prog W 0 (fun _ => true) true Try.f3.params.toList args.toList ds p := hA0
  rw [Try.params3] at hA hval
  have hAll := hA
  obtain ⟨v0, vs0, d0, ds0, p0, q0, hargs, rfl, rfl, h0, r0⟩ := trodAll_cons hA
  obtain ⟨v1, vs1, d1, ds1, p1, q1, rfl, rfl, rfl, h1, r1⟩ := trodAll_cons r0
  obtain ⟨v2, vs2, d2, ds2, p2, q2, rfl, rfl, rfl, h2, r2⟩ := trodAll_cons r1
  obtain ⟨rfl, rfl, rfl⟩ := trodAll_nil r2
  obtain rfl : args = #[v0, v1, v2] := by cases args; simp_all
  obtain ⟨rfl, rfl⟩ := trodVars_none hV
  obtain ⟨ds0, cs0, rfl, td0, rp0⟩ := K.open_agg 12 (by kernel_rfl) (by kernel_rfl) (hval 0 23 v0 rfl rfl) h0
  obtain ⟨ds1, cs1, rfl, td1, rp1⟩ := K.open_agg 12 (by kernel_rfl) (by kernel_rfl) (hval 1 24 v1 rfl rfl) h1
  obtain ⟨a2, rfl, rfl, rfl, w2⟩ := open_int Try.underlying3 (hval 2 3 v2 rfl rfl) h2
  clear hA0 hval0
  refine Calls.mono (law_FrontTells W ds0 cs0 td0 rp0 ds1 cs1 td1 rp1 a2 (bounds_i64 w2)) fun e W' ⟨v, he, bel, hv⟩ => ?_
  subst he
  subst hv
  exact ⟨_, rfl, _, _, _, [], _, [], hW', trodAll_mk1 (shut_bool Try.underlying4 _), trodAll_below laidOut_FrontTells bel (by kernel_rfl) hAll, rfl, bel.frame _, fun h => by cases h⟩
/-- The statement. -/
theorem holds_FrontTells : Rows.FrontTellsSaid :=
  OpenClaim.holds_of_wide 3 Try.f3 rfl rfl rfl rfl rfl rfl rfl ⟨rfl, rfl, rfl, rfl, rfl⟩ rfl rfl rfl rfl rfl (by kernel_rfl) Try.func3 (by kernel_rfl)
    (of_decide_eq_true (by kernel_rfl)) (by unfold Func.isWrapper; first | (rw [if_pos (by decide +kernel)]; kernel_rfl) | (rw [if_neg (by decide +kernel)]; exact ⟨rfl, rfl⟩))
    (fun os started H enc _ => lifted_FrontTells os started H enc)
end Go.Proofs.Ythcilaomjkaciaa
