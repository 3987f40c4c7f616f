/- OctetReads: for every input the law returns true. No condition. -/
import Derived.Test.YtfklpnaklhcobaaOK
import Derived.Test.YtfklpnaklhcobaaFrame
import Derived.Test.YtfklpnaklhcobaaRows
namespace Go.Proofs.Ytfklpnaklhcobaa
open Go.ChangeShapes Go.WideShapes Go.ChangeAt Go.RowKit
open Go.ChangeMaps (open_string shut_string)
set_option linter.unusedVariables false

theorem law_OctetReads (W : World) (ds : List K.D) (cs : Array Value) (td : K.TD Try.prog 36 ds) (rp : K.RepsD (fun b => b < W.heap.size) W ds cs.toList) (v : Value) (l : List Int) (hl : IsSl 1 (l.map (.int .i64)) v W) (hw : ∀ n ∈ l, (Lit.int .i64 n).wf = true) : Calls Try.prog 4 #[.agg cs, v] W fun e W' => ∃ v, e = .returned v ∧ Ext W W' ∧ v = .bool true := by
  obtain ⟨p0, q0, rfl, h0, p1, q1, rfl, h1, p2, q2, rfl, h2, rfl⟩ := K.TD.of_struct Try.underlying36 td
  obtain ⟨s, rfl, _⟩ := K.TD.of_str Try.underlying9 h0
  obtain ⟨a, rfl, _⟩ := K.TD.of_int Try.underlying3 h1
  obtain ⟨e, rfl, _⟩ := K.TD.of_int Try.underlying3 h2
  refine K.law_join (K.reads_w s a e l) ?_
  exact K.reps_cons (K.rep_agg (K.reps_of_repsD rp)) (K.reps_cons (K.rep_d (K.rep_ints hl (K.flat_map l))) K.reps_nil)
theorem own_OctetReads : ownKnob Try.prog.godebug = none := by kernel_rfl
theorem laidOut_OctetReads : laidOutB Try.prog = true := by kernel_rfl
set_option maxRecDepth 100000 in
theorem lifted_OctetReads (os : Os) (started : os.Started) (H : Type) (enc : TypeId × Value → H) :
    ReturnsInHanded {} Try.checked os 4 .any (Rows.octetReadsSpec.pre6 enc Try.prog Try.f4 Rows.octetReadsRow.domain false) (Rows.octetReadsSpec.post enc Try.prog Try.f4 false true false false) := by
  refine returnsInHanded_of_change (C := Try.checked) own_OctetReads started (by kernel_rfl) Try.func4
    (ChangeSpec.witness6 (enc := enc) (C := Try.checked) false ⟨#[], #[.agg #[.string ⟨#[]⟩, .int .i64 0, .int .i64 0], .slice none 0 0], []⟩ 8 (by kernel_rfl) (by kernel_rfl) (by kernel_rfl) (by kernel_rfl)) ?_
  intro W base args ds gs before hval0 hW hcnd _
  have hval : ∀ (j : Nat) t v, Try.f4.params[j]? = some t → args[j]? = some v → Value.okWide Try.prog W .any base t v := hval0
  have hW' := hW
  obtain ⟨p, q, hA0, hV, rfl, hfz, hnd⟩ := hW
  have hA : DataW.TrodAll enc Try.prog W 0 (fun _ => true) true Try.f4.params.toList args.toList ds p := hA0
  rw [Try.params4] at hA hval
  have hAll := hA
  obtain ⟨v0, vs0, d0, ds0, p0, q0, hargs, rfl, rfl, h0, r0⟩ := trodAll_cons hA
  obtain ⟨v1, vs1, d1, ds1, p1, q1, rfl, rfl, rfl, h1, r1⟩ := trodAll_cons r0
  obtain ⟨rfl, rfl, rfl⟩ := trodAll_nil r1
  obtain rfl : args = #[v0, v1] := by cases args; simp_all
  obtain ⟨rfl, rfl⟩ := trodVars_none hV
  obtain ⟨ds0, cs0, rfl, td0, rp0⟩ := K.open_agg 5 (by kernel_rfl) (by kernel_rfl) (hval 0 36 v0 rfl rfl) h0
  obtain ⟨l1, w1, x1⟩ := op_slice_ints Try.underlying37 Try.underlying3 (by kernel_rfl) (hval 1 37 v1 rfl rfl) h1
  clear hA0 hval0
  refine Calls.mono (law_OctetReads W ds0 cs0 td0 rp0 v1 l1 w1 x1) fun e W' ⟨v, he, bel, hv⟩ => ?_
  subst he
  subst hv
  exact ⟨_, rfl, _, _, _, [], _, [], hW', trodAll_mk1 (shut_bool Try.underlying4 _), trodAll_below laidOut_OctetReads bel (by kernel_rfl) hAll, rfl, bel.frame _, fun h => by cases h⟩
/-- The statement. -/
theorem holds_OctetReads : Rows.OctetReadsSaid :=
  OpenClaim.holds_of_wide 4 Try.f4 rfl rfl rfl rfl rfl rfl rfl ⟨rfl, rfl, rfl, rfl, rfl⟩ rfl rfl rfl rfl rfl (by kernel_rfl) Try.func4 (by kernel_rfl)
    (of_decide_eq_true (by kernel_rfl)) (by unfold Func.isWrapper; first | (rw [if_pos (by decide +kernel)]; kernel_rfl) | (rw [if_neg (by decide +kernel)]; exact ⟨rfl, rfl⟩))
    (fun os started H enc _ => lifted_OctetReads os started H enc)
end Go.Proofs.Ytfklpnaklhcobaa
