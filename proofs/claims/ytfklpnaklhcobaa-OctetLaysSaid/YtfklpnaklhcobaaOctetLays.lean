/- OctetLays: for every input the law returns true. No condition. -/
import Derived.Test.YtfklpnaklhcobaaOJ
import Derived.Test.YtfklpnaklhcobaaFrame
import Derived.Test.YtfklpnaklhcobaaRows
namespace Go.Proofs.Ytfklpnaklhcobaa
open Go.ChangeShapes Go.WideShapes Go.ChangeAt Go.RowKit
open Go.ChangeMaps (open_string shut_string)
set_option linter.unusedVariables false

theorem law_OctetLays (W : World) (v : Value) (l : List UInt8) (hb : IsBytes l v W) (q : List Int) (hq : q.length = 2) (hw : ∀ n ∈ q, (Lit.int .i64 n).wf = true) (s : ByteArray) (hs : s.size ≤ maxLen) : Calls Try.prog 3 #[v, .agg (q.map (.int .i64)).toArray, .string s] W fun e W' => ∃ v, e = .returned v ∧ Ext W W' ∧ v = .bool true := by
  match q, hq with
  | [a, b], _ =>
    have hb2 := bounds_i64 (hw b (by simp))
    refine K.law_join (K.lays_w l a b s hb2.1 hb2.2) ?_
    simp only [K.Reps, K.Rep]
    refine ⟨_, _, rfl, K.rep_bytes hb, _, _, rfl, ⟨_, rfl, _, _, rfl, ?_, _, _, rfl, ?_, rfl⟩, _, _, rfl, ?_, rfl⟩ <;> (unfold K.RepD; exact ⟨rfl, rfl⟩)
theorem own_OctetLays : ownKnob Try.prog.godebug = none := by kernel_rfl
theorem laidOut_OctetLays : laidOutB Try.prog = true := by kernel_rfl
set_option maxRecDepth 100000 in
theorem lifted_OctetLays (os : Os) (started : os.Started) (H : Type) (enc : TypeId × Value → H) :
    ReturnsInHanded {} Try.checked os 3 .any (Rows.octetLaysSpec.pre6 enc Try.prog Try.f3 Rows.octetLaysRow.domain false) (Rows.octetLaysSpec.post enc Try.prog Try.f3 false true false false) := by
  refine returnsInHanded_of_change (C := Try.checked) own_OctetLays started (by kernel_rfl) Try.func3
    (ChangeSpec.witness6 (enc := enc) (C := Try.checked) false ⟨#[], #[.slice none 0 0, .agg #[.int .i64 0, .int .i64 0], .string ⟨#[]⟩], []⟩ 8 (by kernel_rfl) (by kernel_rfl) (by kernel_rfl) (by kernel_rfl)) ?_
  intro W base args ds gs before hval0 hW hcnd _
  have hval : ∀ (j : Nat) t v, Try.f3.params[j]? = some t → args[j]? = some v → Value.okWide Try.prog W .any base t v := hval0
  have hW' := hW
  obtain ⟨p, q, hA0, hV, rfl, hfz, hnd⟩ := hW
  have hA : DataW.TrodAll enc Try.prog W 0 (fun _ => true) true Try.f3.params.toList args.toList ds p := hA0
  rw [Try.params3] at hA hval
  have hAll := hA
  obtain ⟨v0, vs0, d0, ds0, p0, q0, hargs, rfl, rfl, h0, r0⟩ := trodAll_cons hA
  obtain ⟨v1, vs1, d1, ds1, p1, q1, rfl, rfl, rfl, h1, r1⟩ := trodAll_cons r0
  obtain ⟨v2, vs2, d2, ds2, p2, q2, rfl, rfl, rfl, h2, r2⟩ := trodAll_cons r1
  obtain ⟨rfl, rfl, rfl⟩ := trodAll_nil r2
  obtain rfl : args = #[v0, v1, v2] := by cases args; simp_all
  obtain ⟨rfl, rfl⟩ := trodVars_none hV
  obtain ⟨l0, w0⟩ := op_bytes Try.underlying22 Try.underlying5 (by kernel_rfl) (hval 0 22 v0 rfl rfl) h0
  obtain ⟨l1, rfl, w1, x1⟩ := op_array_ints Try.underlying23 Try.underlying3 (by kernel_rfl) (by kernel_rfl) (hval 1 23 v1 rfl rfl) h1
  obtain ⟨s2, rfl, rfl, rfl, w2⟩ := open_string Try.underlying9 (hval 2 9 v2 rfl rfl) h2
  clear hA0 hval0
  refine Calls.mono (law_OctetLays W v0 l0 w0 l1 w1 x1 s2 w2) fun e W' ⟨v, he, bel, hv⟩ => ?_
  subst he
  subst hv
  exact ⟨_, rfl, _, _, _, [], _, [], hW', trodAll_mk1 (shut_bool Try.underlying4 _), trodAll_below laidOut_OctetLays bel (by kernel_rfl) hAll, rfl, bel.frame _, fun h => by cases h⟩
/-- The statement. -/
theorem holds_OctetLays : Rows.OctetLaysSaid :=
  OpenClaim.holds_of_wide 3 Try.f3 rfl rfl rfl rfl rfl rfl rfl ⟨rfl, rfl, rfl, rfl, rfl⟩ rfl rfl rfl rfl rfl (by kernel_rfl) Try.func3 (by kernel_rfl)
    (of_decide_eq_true (by kernel_rfl)) (by unfold Func.isWrapper; first | (rw [if_pos (by decide +kernel)]; kernel_rfl) | (rw [if_neg (by decide +kernel)]; exact ⟨rfl, rfl⟩))
    (fun os started H enc _ => lifted_OctetLays os started H enc)
end Go.Proofs.Ytfklpnaklhcobaa
