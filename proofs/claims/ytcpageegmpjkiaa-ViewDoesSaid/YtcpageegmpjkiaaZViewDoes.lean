/- ViewDoes: for every input the law returns true. No condition. -/
import Derived.Test.YtcpageegmpjkiaaZA2
import Derived.Test.YtcpageegmpjkiaaZPvr
import Derived.Test.YtcpageegmpjkiaaRows
set_option linter.unusedVariables false
set_option linter.unusedSimpArgs false
namespace Go.Proofs.Ytcpageegmpjkiaa
open Go.ChangeShapes Go.WideShapes Go.ChangeAt Go.RowKit
open Go.ChangeMaps (open_string shut_string)

open K in
theorem law_ViewDoes (W : World) (ds0 : List K.D) (cs0 : Array Value) (td0 : K.TD Try.prog 22 ds0) (rp0 : K.RepsD (fun b => b < W.heap.size) W ds0 cs0.toList) {v1 : Value} (x1 : K.D) (td1 : K.TD Try.prog 23 [x1]) (rp1 : K.RepD (fun b => b < W.heap.size) W x1 v1) {v2 : Value} (x2 : K.D) (td2 : K.TD Try.prog 24 [x2]) (rp2 : K.RepD (fun b => b < W.heap.size) W x2 v2) : Calls Try.prog 3 #[.agg cs0, v1, v2] W fun e W' => ∃ v, e = .returned v ∧ Ext W W' ∧ v = .bool true := by
  obtain ⟨y0, e0, w0⟩ := K.td_22 td0
  subst e0
  obtain ⟨y1, e1, w1⟩ := K.td_slice (enc := K.enc_GChange) (q := K.wf_GChange) Try.underlying23 (fun {r} h => K.td_83 h) td1
  obtain ⟨y2, e2, w2⟩ := K.td_slice (enc := K.enc_GOp_) (q := K.wf_GOp_) Try.underlying24 (fun {r} h => K.td_43 h) td2
  refine K.law_join (K.ok_w29_ViewDoes y0 y1 y2 true (K.main_ViewDoes y0 y1 y2 w0 w1 w2)) ?_
  exact K.reps_cons (K.rep_ag rp0) (K.reps_cons (K.rep_1 rp1 e1 rfl) (K.reps_cons (K.rep_1 rp2 e2 rfl) (K.reps_nil)))
theorem own_ViewDoes : ownKnob Try.prog.godebug = none := by kernel_rfl
theorem laidOut_ViewDoes : laidOutB Try.prog = true := by kernel_rfl
set_option maxRecDepth 100000 in
theorem lifted_ViewDoes (os : Os) (started : os.Started) (H : Type) (enc : TypeId × Value → H) :
    ReturnsInHanded {} Try.checked os 3 .any (Rows.viewDoesSpec.pre6 enc Try.prog Try.f3 Rows.viewDoesRow.domain false) (Rows.viewDoesSpec.post enc Try.prog Try.f3 false true false false) := by
  refine returnsInHanded_of_change (C := Try.checked) own_ViewDoes started (by kernel_rfl) Try.func3
    (ChangeSpec.witness6 (enc := enc) (C := Try.checked) false ⟨#[], #[.agg #[.int .i64 0, .int .i64 0], .slice none 0 0, .slice none 0 0], []⟩ 8 (by kernel_rfl) (by kernel_rfl) (by kernel_rfl) (by kernel_rfl)) ?_
  intro W base args ds gs before hval0 hW hcnd _
  have hval : ∀ (j : Nat) t v, Try.f3.params[j]? = some t → args[j]? = some v → Value.okWide Try.prog W .any base t v := hval0
  have hW' := hW
  obtain ⟨p, q, hA0, hV, rfl, hfz, hnd⟩ := hW
  have hA : DataW.TrodAll enc Try.prog W 0 (fun _ => true) true Try.f3.params.toList args.toList ds p := hA0
  rw [Try.params3] at hA hval
  have hAll := hA
  obtain ⟨v0, vs0, d0, ds0, p0, q0, hargs, rfl, rfl, h0, r0⟩ := trodAll_cons hA
  obtain ⟨v1, vs1, d1, ds1, p1, q1, rfl, rfl, rfl, h1, r1⟩ := trodAll_cons r0
  obtain ⟨v2, vs2, d2, ds2, p2, q2, rfl, rfl, rfl, h2, r2⟩ := trodAll_cons r1
  obtain ⟨rfl, rfl, rfl⟩ := trodAll_nil r2
  obtain rfl : args = #[v0, v1, v2] := by cases args; simp_all
  obtain ⟨rfl, rfl⟩ := trodVars_none hV
  obtain ⟨ds0, cs0, rfl, td0, rp0⟩ := K.open_agg 12 (by kernel_rfl) (by kernel_rfl) (hval 0 22 v0 rfl rfl) h0
  obtain ⟨x1, td1, rp1⟩ := K.open_one 12 (by kernel_rfl) (by kernel_rfl) (hval 1 23 v1 rfl rfl) h1
  obtain ⟨x2, td2, rp2⟩ := K.open_one 12 (by kernel_rfl) (by kernel_rfl) (hval 2 24 v2 rfl rfl) h2
  clear hA0 hval0
  refine Calls.mono (law_ViewDoes W ds0 cs0 td0 rp0 x1 td1 rp1 x2 td2 rp2) fun e W' ⟨v, he, bel, hv⟩ => ?_
  subst he
  subst hv
  exact ⟨_, rfl, _, _, _, [], _, [], hW', trodAll_mk1 (shut_bool Try.underlying4 _), trodAll_below laidOut_ViewDoes bel (by kernel_rfl) hAll, rfl, bel.frame _, fun h => by cases h⟩
/-- The statement. -/
theorem holds_ViewDoes : Rows.ViewDoesSaid :=
  OpenClaim.holds_of_wide 3 Try.f3 rfl rfl rfl rfl rfl rfl rfl ⟨rfl, rfl, rfl, rfl, rfl⟩ rfl rfl rfl rfl rfl (by kernel_rfl) Try.func3 (by kernel_rfl)
    (of_decide_eq_true (by kernel_rfl)) (by unfold Func.isWrapper; first | (rw [if_pos (by decide +kernel)]; kernel_rfl) | (rw [if_neg (by decide +kernel)]; exact ⟨rfl, rfl⟩))
    (fun os started H enc _ => lifted_ViewDoes os started H enc)
end Go.Proofs.Ytcpageegmpjkiaa
