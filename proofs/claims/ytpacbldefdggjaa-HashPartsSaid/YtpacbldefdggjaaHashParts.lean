/- HashParts: for every input the law returns true. No condition. -/
import Derived.Test.YtpacbldefdggjaaA0
import Derived.Test.YtpacbldefdggjaaPHashParts
import Derived.Test.YtpacbldefdggjaaLO
import Derived.Test.YtpacbldefdggjaaFrame
import Derived.Test.YtpacbldefdggjaaRows
namespace Go.Proofs.Ytpacbldefdggjaa
open Go.ChangeShapes Go.WideShapes Go.ChangeAt Go.RowKit
open Go.ChangeMaps (open_string shut_string)
set_option linter.unusedVariables false

open K in
theorem law_HashParts (W : World) (s0 : ByteArray) (h0 : s0.size ≤ maxLen) (s1 : ByteArray) (h1 : s1.size ≤ maxLen) (ds2 : List K.D) (cs2 : Array Value) (td2 : K.TD Try.prog 28 ds2) (rp2 : K.RepsD (fun b => b < W.heap.size) W ds2 cs2.toList) : Calls Try.prog 5 #[.string s0, .string s1, .agg cs2] W fun e W' => ∃ v, e = .returned v ∧ Ext W W' ∧ v = .bool true := by
  obtain ⟨y2, e2, w2⟩ := K.td_28 td2
  subst e2
  refine K.law_join (K.ok_telltalelaw08_HashParts s0.data.toList s1.data.toList y2 true (K.main_HashParts s0.data.toList s1.data.toList y2 h0 h1 w2)) ?_
  exact K.reps_cons (K.rep_str) (K.reps_cons (K.rep_str) (K.reps_cons (K.rep_ag rp2) (K.reps_nil)))
theorem own_HashParts : ownKnob Try.prog.godebug = none := by kernel_rfl
theorem laidOut_HashParts : laidOutB Try.prog = true := by kernel_rfl
set_option maxRecDepth 100000 in
theorem lifted_HashParts (os : Os) (started : os.Started) (H : Type) (enc : TypeId × Value → H) :
    ReturnsInHanded {} Try.checked os 5 .any (Rows.hashPartsSpec.pre6 enc Try.prog Try.f5 Rows.hashPartsRow.domain false) (Rows.hashPartsSpec.post enc Try.prog Try.f5 false true false false) := by
  refine returnsInHanded_of_change (C := Try.checked) own_HashParts started (by kernel_rfl) Try.func5
    (ChangeSpec.witness6 (enc := enc) (C := Try.checked) false ⟨#[], #[.string ⟨#[]⟩, .string ⟨#[]⟩, .agg #[.int .i64 0, .int .i64 0]], []⟩ 8 (by kernel_rfl) (by kernel_rfl) (by kernel_rfl) (by kernel_rfl)) ?_
  intro W base args ds gs before hval0 hW hcnd _
  have hval : ∀ (j : Nat) t v, Try.f5.params[j]? = some t → args[j]? = some v → Value.okWide Try.prog W .any base t v := hval0
  have hW' := hW
  obtain ⟨p, q, hA0, hV, rfl, hfz, hnd⟩ := hW
  have hA : DataW.TrodAll enc Try.prog W 0 (fun _ => true) true Try.f5.params.toList args.toList ds p := hA0
  rw [Try.params5] at hA hval
  have hAll := hA
  obtain ⟨v0, vs0, d0, ds0, p0, q0, hargs, rfl, rfl, h0, r0⟩ := trodAll_cons hA
  obtain ⟨v1, vs1, d1, ds1, p1, q1, rfl, rfl, rfl, h1, r1⟩ := trodAll_cons r0
  obtain ⟨v2, vs2, d2, ds2, p2, q2, rfl, rfl, rfl, h2, r2⟩ := trodAll_cons r1
  obtain ⟨rfl, rfl, rfl⟩ := trodAll_nil r2
  obtain rfl : args = #[v0, v1, v2] := by cases args; simp_all
  obtain ⟨rfl, rfl⟩ := trodVars_none hV
  obtain ⟨s0, rfl, rfl, rfl, w0⟩ := open_string Try.underlying9 (hval 0 9 v0 rfl rfl) h0
  obtain ⟨s1, rfl, rfl, rfl, w1⟩ := open_string Try.underlying9 (hval 1 9 v1 rfl rfl) h1
  obtain ⟨ds2, cs2, rfl, td2, rp2⟩ := K.open_agg 12 (by kernel_rfl) (by kernel_rfl) (hval 2 28 v2 rfl rfl) h2
  clear hA0 hval0
  refine Calls.mono (law_HashParts W s0 w0 s1 w1 ds2 cs2 td2 rp2) fun e W' ⟨v, he, bel, hv⟩ => ?_
  subst he
  subst hv
  exact ⟨_, rfl, _, _, _, [], _, [], hW', trodAll_mk1 (shut_bool Try.underlying4 _), trodAll_below laidOut_HashParts bel (by kernel_rfl) hAll, rfl, bel.frame _, fun h => by cases h⟩
/-- The statement. -/
theorem holds_HashParts : Rows.HashPartsSaid :=
  OpenClaim.holds_of_wide 5 Try.f5 rfl rfl rfl rfl rfl rfl rfl ⟨rfl, rfl, rfl, rfl, rfl⟩ rfl rfl rfl rfl rfl (by kernel_rfl) Try.func5 (by kernel_rfl)
    (of_decide_eq_true (by kernel_rfl)) (by unfold Func.isWrapper; first | (rw [if_pos (by decide +kernel)]; kernel_rfl) | (rw [if_neg (by decide +kernel)]; exact ⟨rfl, rfl⟩))
    (fun os started H enc _ => lifted_HashParts os started H enc)
end Go.Proofs.Ytpacbldefdggjaa
