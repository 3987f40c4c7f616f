/- TrailEnds: for every input the law returns true. No condition. -/
import Derived.Test.YtelhmhmgaaebpaaZB2
import Derived.Test.YtelhmhmgaaebpaaZPtg
import Derived.Test.YtelhmhmgaaebpaaRows
set_option linter.unusedVariables false
set_option linter.unusedSimpArgs false
namespace Go.Proofs.Ytelhmhmgaaebpaa
open Go.ChangeShapes Go.WideShapes Go.ChangeAt Go.RowKit
open Go.ChangeMaps (open_string shut_string)

open K in
theorem law_TrailEnds (W : World) {v0 : Value} (x0 : K.D) (td0 : K.TD Try.prog 27 [x0]) (rp0 : K.RepD (fun b => b < W.heap.size) W x0 v0) {v1 : Value} (x1 : K.D) (td1 : K.TD Try.prog 28 [x1]) (rp1 : K.RepD (fun b => b < W.heap.size) W x1 v1) (ds2 : List K.D) (cs2 : Array Value) (td2 : K.TD Try.prog 29 ds2) (rp2 : K.RepsD (fun b => b < W.heap.size) W ds2 cs2.toList) : Calls Try.prog 4 #[v0, v1, .agg cs2] W fun e W' => ∃ v, e = .returned v ∧ Ext W W' ∧ v = .bool true := by
  obtain ⟨y0, e0, w0⟩ := K.td_slice (enc := K.enc_GWait) (q := K.wf_GWait) Try.underlying27 (fun {r} h => K.td_46 h) td0
  obtain ⟨y1, e1, w1⟩ := K.td_slice (enc := K.enc_GArr2_Int_) (q := K.wf_GArr2_Int_) Try.underlying28 (fun {r} h => K.td_48 h) td1
  obtain ⟨y2, e2, w2⟩ := K.td_29 td2
  subst e2
  refine K.law_join (K.ok_w22_TrailEnds y0 y1 y2 true (K.main_TrailEnds y0 y1 y2 w0 w1 w2)) ?_
  exact K.reps_cons (K.rep_1 rp0 e0 rfl) (K.reps_cons (K.rep_1 rp1 e1 rfl) (K.reps_cons (K.rep_ag rp2) (K.reps_nil)))
theorem own_TrailEnds : ownKnob Try.prog.godebug = none := by kernel_rfl
theorem laidOut_TrailEnds : laidOutB Try.prog = true := by kernel_rfl
set_option maxRecDepth 100000 in
theorem lifted_TrailEnds (os : Os) (started : os.Started) (H : Type) (enc : TypeId × Value → H) :
    ReturnsInHanded {} Try.checked os 4 .any (Rows.trailEndsSpec.pre6 enc Try.prog Try.f4 Rows.trailEndsRow.domain false) (Rows.trailEndsSpec.post enc Try.prog Try.f4 false true false false) := by
  refine returnsInHanded_of_change (C := Try.checked) own_TrailEnds started (by kernel_rfl) Try.func4
    (ChangeSpec.witness6 (enc := enc) (C := Try.checked) false ⟨#[], #[.slice none 0 0, .slice none 0 0, .agg #[.int .i64 0, .int .i64 0]], []⟩ 8 (by kernel_rfl) (by kernel_rfl) (by kernel_rfl) (by kernel_rfl)) ?_
  intro W base args ds gs before hval0 hW hcnd _
  have hval : ∀ (j : Nat) t v, Try.f4.params[j]? = some t → args[j]? = some v → Value.okWide Try.prog W .any base t v := hval0
  have hW' := hW
  obtain ⟨p, q, hA0, hV, rfl, hfz, hnd⟩ := hW
  have hA : DataW.TrodAll enc Try.prog W 0 (fun _ => true) true Try.f4.params.toList args.toList ds p := hA0
  rw [Try.params4] at hA hval
  have hAll := hA
  obtain ⟨v0, vs0, d0, ds0, p0, q0, hargs, rfl, rfl, h0, r0⟩ := trodAll_cons hA
  obtain ⟨v1, vs1, d1, ds1, p1, q1, rfl, rfl, rfl, h1, r1⟩ := trodAll_cons r0
  obtain ⟨v2, vs2, d2, ds2, p2, q2, rfl, rfl, rfl, h2, r2⟩ := trodAll_cons r1
  obtain ⟨rfl, rfl, rfl⟩ := trodAll_nil r2
  obtain rfl : args = #[v0, v1, v2] := by cases args; simp_all
  obtain ⟨rfl, rfl⟩ := trodVars_none hV
  obtain ⟨x0, td0, rp0⟩ := K.open_one 12 (by kernel_rfl) (by kernel_rfl) (hval 0 27 v0 rfl rfl) h0
  obtain ⟨x1, td1, rp1⟩ := K.open_one 12 (by kernel_rfl) (by kernel_rfl) (hval 1 28 v1 rfl rfl) h1
  obtain ⟨ds2, cs2, rfl, td2, rp2⟩ := K.open_agg 12 (by kernel_rfl) (by kernel_rfl) (hval 2 29 v2 rfl rfl) h2
  clear hA0 hval0
  refine Calls.mono (law_TrailEnds W x0 td0 rp0 x1 td1 rp1 ds2 cs2 td2 rp2) fun e W' ⟨v, he, bel, hv⟩ => ?_
  subst he
  subst hv
  exact ⟨_, rfl, _, _, _, [], _, [], hW', trodAll_mk1 (shut_bool Try.underlying4 _), trodAll_below laidOut_TrailEnds bel (by kernel_rfl) hAll, rfl, bel.frame _, fun h => by cases h⟩
/-- The statement. -/
theorem holds_TrailEnds : Rows.TrailEndsSaid :=
  OpenClaim.holds_of_wide 4 Try.f4 rfl rfl rfl rfl rfl rfl rfl ⟨rfl, rfl, rfl, rfl, rfl⟩ rfl rfl rfl rfl rfl (by kernel_rfl) Try.func4 (by kernel_rfl)
    (of_decide_eq_true (by kernel_rfl)) (by unfold Func.isWrapper; first | (rw [if_pos (by decide +kernel)]; kernel_rfl) | (rw [if_neg (by decide +kernel)]; exact ⟨rfl, rfl⟩))
    (fun os started H enc _ => lifted_TrailEnds os started H enc)
end Go.Proofs.Ytelhmhmgaaebpaa
