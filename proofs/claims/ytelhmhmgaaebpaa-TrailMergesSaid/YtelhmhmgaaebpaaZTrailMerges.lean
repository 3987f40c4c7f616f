/- TrailMerges: for every input the law returns true. No condition. -/
import Derived.Test.YtelhmhmgaaebpaaZA1
import Derived.Test.YtelhmhmgaaebpaaZPqb
import Derived.Test.YtelhmhmgaaebpaaRows
set_option linter.unusedVariables false
set_option linter.unusedSimpArgs false
namespace Go.Proofs.Ytelhmhmgaaebpaa
open Go.ChangeShapes Go.WideShapes Go.ChangeAt Go.RowKit
open Go.ChangeMaps (open_string shut_string)

open K in
theorem law_TrailMerges (W : World) {v0 : Value} (x0 : K.D) (td0 : K.TD Try.prog 22 [x0]) (rp0 : K.RepD (fun b => b < W.heap.size) W x0 v0) {v1 : Value} (x1 : K.D) (td1 : K.TD Try.prog 22 [x1]) (rp1 : K.RepD (fun b => b < W.heap.size) W x1 v1) : Calls Try.prog 3 #[v0, v1] W fun e W' => ∃ v, e = .returned v ∧ Ext W W' ∧ v = .bool true := by
  obtain ⟨y0, e0, w0⟩ := K.td_slice (enc := (K.encI .u32)) (q := (inK .u32)) Try.underlying22 (fun {r} h => K.td_int Try.underlying25 h) td0
  obtain ⟨y1, e1, w1⟩ := K.td_slice (enc := (K.encI .u32)) (q := (inK .u32)) Try.underlying22 (fun {r} h => K.td_int Try.underlying25 h) td1
  refine K.law_join (K.ok_w22_TrailMerges y0 y1 true (K.main_TrailMerges y0 y1 w0 w1)) ?_
  exact K.reps_cons (K.rep_1 rp0 e0 rfl) (K.reps_cons (K.rep_1 rp1 e1 rfl) (K.reps_nil))
theorem own_TrailMerges : ownKnob Try.prog.godebug = none := by kernel_rfl
theorem laidOut_TrailMerges : laidOutB Try.prog = true := by kernel_rfl
set_option maxRecDepth 100000 in
theorem lifted_TrailMerges (os : Os) (started : os.Started) (H : Type) (enc : TypeId × Value → H) :
    ReturnsInHanded {} Try.checked os 3 .any (Rows.trailMergesSpec.pre6 enc Try.prog Try.f3 Rows.trailMergesRow.domain false) (Rows.trailMergesSpec.post enc Try.prog Try.f3 false true false false) := by
  refine returnsInHanded_of_change (C := Try.checked) own_TrailMerges started (by kernel_rfl) Try.func3
    (ChangeSpec.witness6 (enc := enc) (C := Try.checked) false ⟨#[], #[.slice none 0 0, .slice none 0 0], []⟩ 8 (by kernel_rfl) (by kernel_rfl) (by kernel_rfl) (by kernel_rfl)) ?_
  intro W base args ds gs before hval0 hW hcnd _
  have hval : ∀ (j : Nat) t v, Try.f3.params[j]? = some t → args[j]? = some v → Value.okWide Try.prog W .any base t v := hval0
  have hW' := hW
  obtain ⟨p, q, hA0, hV, rfl, hfz, hnd⟩ := hW
  have hA : DataW.TrodAll enc Try.prog W 0 (fun _ => true) true Try.f3.params.toList args.toList ds p := hA0
  rw [Try.params3] at hA hval
  have hAll := hA
  obtain ⟨v0, vs0, d0, ds0, p0, q0, hargs, rfl, rfl, h0, r0⟩ := trodAll_cons hA
  obtain ⟨v1, vs1, d1, ds1, p1, q1, rfl, rfl, rfl, h1, r1⟩ := trodAll_cons r0
  obtain ⟨rfl, rfl, rfl⟩ := trodAll_nil r1
  obtain rfl : args = #[v0, v1] := by cases args; simp_all
  obtain ⟨rfl, rfl⟩ := trodVars_none hV
  obtain ⟨x0, td0, rp0⟩ := K.open_one 12 (by kernel_rfl) (by kernel_rfl) (hval 0 22 v0 rfl rfl) h0
  obtain ⟨x1, td1, rp1⟩ := K.open_one 12 (by kernel_rfl) (by kernel_rfl) (hval 1 22 v1 rfl rfl) h1
  clear hA0 hval0
  refine Calls.mono (law_TrailMerges W x0 td0 rp0 x1 td1 rp1) fun e W' ⟨v, he, bel, hv⟩ => ?_
  subst he
  subst hv
  exact ⟨_, rfl, _, _, _, [], _, [], hW', trodAll_mk1 (shut_bool Try.underlying4 _), trodAll_below laidOut_TrailMerges bel (by kernel_rfl) hAll, rfl, bel.frame _, fun h => by cases h⟩
/-- The statement. -/
theorem holds_TrailMerges : Rows.TrailMergesSaid :=
  OpenClaim.holds_of_wide 3 Try.f3 rfl rfl rfl rfl rfl rfl rfl ⟨rfl, rfl, rfl, rfl, rfl⟩ rfl rfl rfl rfl rfl (by kernel_rfl) Try.func3 (by kernel_rfl)
    (of_decide_eq_true (by kernel_rfl)) (by unfold Func.isWrapper; first | (rw [if_pos (by decide +kernel)]; kernel_rfl) | (rw [if_neg (by decide +kernel)]; exact ⟨rfl, rfl⟩))
    (fun os started H enc _ => lifted_TrailMerges os started H enc)
end Go.Proofs.Ytelhmhmgaaebpaa
