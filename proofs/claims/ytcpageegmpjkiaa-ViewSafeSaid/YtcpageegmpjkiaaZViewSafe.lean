/- ViewSafe: for every input the law returns true. No condition. -/
import Derived.Test.YtcpageegmpjkiaaZC2
import Derived.Test.YtcpageegmpjkiaaZPvi
import Derived.Test.YtcpageegmpjkiaaRows
set_option linter.unusedVariables false
set_option linter.unusedSimpArgs false
namespace Go.Proofs.Ytcpageegmpjkiaa
open Go.ChangeShapes Go.WideShapes Go.ChangeAt Go.RowKit
open Go.ChangeMaps (open_string shut_string)

open K in
theorem law_ViewSafe (W : World) (ds0 : List K.D) (cs0 : Array Value) (td0 : K.TD Try.prog 22 ds0) (rp0 : K.RepsD (fun b => b < W.heap.size) W ds0 cs0.toList) {v1 : Value} (x1 : K.D) (td1 : K.TD Try.prog 64 [x1]) (rp1 : K.RepD (fun b => b < W.heap.size) W x1 v1) : Calls Try.prog 5 #[.agg cs0, v1] W fun e W' => ∃ v, e = .returned v ∧ Ext W W' ∧ v = .bool true := by
  obtain ⟨y0, e0, w0⟩ := K.td_22 td0
  subst e0
  obtain ⟨y1, e1, w1⟩ := K.td_slice (enc := K.enc_GTurn_) (q := K.wf_GTurn_) Try.underlying64 (fun {r} h => K.td_78 h) td1
  refine K.law_join (K.ok_w29_ViewSafe y0 y1 true (K.main_ViewSafe y0 y1 w0 w1)) ?_
  exact K.reps_cons (K.rep_ag rp0) (K.reps_cons (K.rep_1 rp1 e1 rfl) (K.reps_nil))
theorem own_ViewSafe : ownKnob Try.prog.godebug = none := by kernel_rfl
theorem laidOut_ViewSafe : laidOutB Try.prog = true := by kernel_rfl
set_option maxRecDepth 100000 in
theorem lifted_ViewSafe (os : Os) (started : os.Started) (H : Type) (enc : TypeId × Value → H) :
    ReturnsInHanded {} Try.checked os 5 .any (Rows.viewSafeSpec.pre6 enc Try.prog Try.f5 Rows.viewSafeRow.domain false) (Rows.viewSafeSpec.post enc Try.prog Try.f5 false true false false) := by
  refine returnsInHanded_of_change (C := Try.checked) own_ViewSafe started (by kernel_rfl) Try.func5
    (ChangeSpec.witness6 (enc := enc) (C := Try.checked) false ⟨#[], #[.agg #[.int .i64 0, .int .i64 0], .slice none 0 0], []⟩ 8 (by kernel_rfl) (by kernel_rfl) (by kernel_rfl) (by kernel_rfl)) ?_
  intro W base args ds gs before hval0 hW hcnd _
  have hval : ∀ (j : Nat) t v, Try.f5.params[j]? = some t → args[j]? = some v → Value.okWide Try.prog W .any base t v := hval0
  have hW' := hW
  obtain ⟨p, q, hA0, hV, rfl, hfz, hnd⟩ := hW
  have hA : DataW.TrodAll enc Try.prog W 0 (fun _ => true) true Try.f5.params.toList args.toList ds p := hA0
  rw [Try.params5] at hA hval
  have hAll := hA
  obtain ⟨v0, vs0, d0, ds0, p0, q0, hargs, rfl, rfl, h0, r0⟩ := trodAll_cons hA
  obtain ⟨v1, vs1, d1, ds1, p1, q1, rfl, rfl, rfl, h1, r1⟩ := trodAll_cons r0
  obtain ⟨rfl, rfl, rfl⟩ := trodAll_nil r1
  obtain rfl : args = #[v0, v1] := by cases args; simp_all
  obtain ⟨rfl, rfl⟩ := trodVars_none hV
  obtain ⟨ds0, cs0, rfl, td0, rp0⟩ := K.open_agg 12 (by kernel_rfl) (by kernel_rfl) (hval 0 22 v0 rfl rfl) h0
  obtain ⟨x1, td1, rp1⟩ := K.open_one 12 (by kernel_rfl) (by kernel_rfl) (hval 1 64 v1 rfl rfl) h1
  clear hA0 hval0
  refine Calls.mono (law_ViewSafe W ds0 cs0 td0 rp0 x1 td1 rp1) fun e W' ⟨v, he, bel, hv⟩ => ?_
  subst he
  subst hv
  exact ⟨_, rfl, _, _, _, [], _, [], hW', trodAll_mk1 (shut_bool Try.underlying4 _), trodAll_below laidOut_ViewSafe bel (by kernel_rfl) hAll, rfl, bel.frame _, fun h => by cases h⟩
/-- The statement. -/
theorem holds_ViewSafe : Rows.ViewSafeSaid :=
  OpenClaim.holds_of_wide 5 Try.f5 rfl rfl rfl rfl rfl rfl rfl ⟨rfl, rfl, rfl, rfl, rfl⟩ rfl rfl rfl rfl rfl (by kernel_rfl) Try.func5 (by kernel_rfl)
    (of_decide_eq_true (by kernel_rfl)) (by unfold Func.isWrapper; first | (rw [if_pos (by decide +kernel)]; kernel_rfl) | (rw [if_neg (by decide +kernel)]; exact ⟨rfl, rfl⟩))
    (fun os started H enc _ => lifted_ViewSafe os started H enc)
end Go.Proofs.Ytcpageegmpjkiaa
