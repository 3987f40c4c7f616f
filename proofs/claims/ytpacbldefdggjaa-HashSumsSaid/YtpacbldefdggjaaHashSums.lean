/- HashSums: for every input the law returns true. No condition. -/
import Derived.Test.YtpacbldefdggjaaL3
import Derived.Test.YtpacbldefdggjaaPHashSums
import Derived.Test.YtpacbldefdggjaaLO
import Derived.Test.YtpacbldefdggjaaFrame
import Derived.Test.YtpacbldefdggjaaRows
namespace Go.Proofs.Ytpacbldefdggjaa
open Go.ChangeShapes Go.WideShapes Go.ChangeAt Go.RowKit
open Go.ChangeMaps (open_string shut_string)
set_option linter.unusedVariables false

open K in
theorem law_HashSums (W : World) (a0 : Int) (h0 : 0 ≤ a0 ∧ a0 ≤ 18446744073709551615) (s1 : ByteArray) (h1 : s1.size ≤ maxLen) : Calls Try.prog 3 #[.int .u64 a0, .string s1] W fun e W' => ∃ v, e = .returned v ∧ Ext W W' ∧ v = .bool true := by

  refine K.law_join (K.ok_telltalelaw08_HashSums a0 s1.data.toList true (K.main_HashSums a0 s1.data.toList h0 h1)) ?_
  exact K.reps_cons (K.rep_lit rfl) (K.reps_cons (K.rep_str) (K.reps_nil))
theorem own_HashSums : ownKnob Try.prog.godebug = none := by kernel_rfl
theorem laidOut_HashSums : laidOutB Try.prog = true := by kernel_rfl
set_option maxRecDepth 100000 in
theorem lifted_HashSums (os : Os) (started : os.Started) (H : Type) (enc : TypeId × Value → H) :
    ReturnsInHanded {} Try.checked os 3 .any (Rows.hashSumsSpec.pre6 enc Try.prog Try.f3 Rows.hashSumsRow.domain false) (Rows.hashSumsSpec.post enc Try.prog Try.f3 false true false false) := by
  refine returnsInHanded_of_change (C := Try.checked) own_HashSums started (by kernel_rfl) Try.func3
    (ChangeSpec.witness6 (enc := enc) (C := Try.checked) false ⟨#[], #[.int .u64 0, .string ⟨#[]⟩], []⟩ 8 (by kernel_rfl) (by kernel_rfl) (by kernel_rfl) (by kernel_rfl)) ?_
  intro W base args ds gs before hval0 hW hcnd _
  have hval : ∀ (j : Nat) t v, Try.f3.params[j]? = some t → args[j]? = some v → Value.okWide Try.prog W .any base t v := hval0
  have hW' := hW
  obtain ⟨p, q, hA0, hV, rfl, hfz, hnd⟩ := hW
  have hA : DataW.TrodAll enc Try.prog W 0 (fun _ => true) true Try.f3.params.toList args.toList ds p := hA0
  rw [Try.params3] at hA hval
  have hAll := hA
  obtain ⟨v0, vs0, d0, ds0, p0, q0, hargs, rfl, rfl, h0, r0⟩ := trodAll_cons hA
  obtain ⟨v1, vs1, d1, ds1, p1, q1, rfl, rfl, rfl, h1, r1⟩ := trodAll_cons r0
  obtain ⟨rfl, rfl, rfl⟩ := trodAll_nil r1
  obtain rfl : args = #[v0, v1] := by cases args; simp_all
  obtain ⟨rfl, rfl⟩ := trodVars_none hV
  obtain ⟨a0, rfl, rfl, rfl, w0⟩ := open_int Try.underlying22 (hval 0 22 v0 rfl rfl) h0
  obtain ⟨s1, rfl, rfl, rfl, w1⟩ := open_string Try.underlying9 (hval 1 9 v1 rfl rfl) h1
  clear hA0 hval0
  refine Calls.mono (law_HashSums W a0 (bounds_u64 w0) s1 w1) fun e W' ⟨v, he, bel, hv⟩ => ?_
  subst he
  subst hv
  exact ⟨_, rfl, _, _, _, [], _, [], hW', trodAll_mk1 (shut_bool Try.underlying4 _), trodAll_below laidOut_HashSums bel (by kernel_rfl) hAll, rfl, bel.frame _, fun h => by cases h⟩
/-- The statement. -/
theorem holds_HashSums : Rows.HashSumsSaid :=
  OpenClaim.holds_of_wide 3 Try.f3 rfl rfl rfl rfl rfl rfl rfl ⟨rfl, rfl, rfl, rfl, rfl⟩ rfl rfl rfl rfl rfl (by kernel_rfl) Try.func3 (by kernel_rfl)
    (of_decide_eq_true (by kernel_rfl)) (by unfold Func.isWrapper; first | (rw [if_pos (by decide +kernel)]; kernel_rfl) | (rw [if_neg (by decide +kernel)]; exact ⟨rfl, rfl⟩))
    (fun os started H enc _ => lifted_HashSums os started H enc)
end Go.Proofs.Ytpacbldefdggjaa
