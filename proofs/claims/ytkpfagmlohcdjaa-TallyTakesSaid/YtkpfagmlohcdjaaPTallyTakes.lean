/- TallyTakes: plain. -/
import Derived.Test.YtkpfagmlohcdjaaPtzb
import Derived.Test.YtkpfagmlohcdjaaPtlo
import Derived.Test.YtkpfagmlohcdjaaPtbs
namespace Go.Proofs.Ytkpfagmlohcdjaa.K
open Go.RowKit Go.Lib
set_option linter.unusedVariables false
set_option linter.unusedSimpArgs false
theorem awk26t : m_telltalelaw26_awake = some true := by decide +kernel
theorem main_TallyTakes (p0 : List GChange) (p1 : List UInt8) (p2 : Int) (h0 : wfL wf_GChange p0) (h1 : p1.length ≤ maxLen) (h2 : -9223372036854775808 ≤ p2 ∧ p2 ≤ 9223372036854775807) : m_telltalelaw26_TallyTakes p0 p1 p2 = some true := by
  unfold m_telltalelaw26_TallyTakes
  rw [awk26t]
  have m0 := maxLen_le h0.1
  have m1 := maxLen_le h1
  by_cases c0 : 40 < p0.length
  · rw [d_lt (by omega)]; rfl
  rw [d_nlt (by omega), cond_false]
  by_cases c1 : 300 < p1.length
  · rw [d_lt (by omega)]; rfl
  have hc : ∀ x ∈ p0, ch64 x := fun x hx => ⟨in_i64 (h0.2 x hx).Loc, in_i64 (h0.2 x hx).Time, in_i64 (h0.2 x hx).N⟩
  have hl := ttk_len (l := p1) (a := p2)
  rw [d_nlt (by omega), cond_false, ttake_ok _ (by omega), obind_some, rttake_ok _ (by omega), obind_some, town_ok (by omega), obind_some, tput_ok (by omega) (by simp) hc, obind_some, rtput_ok (by omega) (by simp) hc, obind_some, decide_eq_true rfl, cond_true, tback_ok (by omega), obind_some, rsame_ok (by omega) (by omega), obind_some, decide_eq_true rfl, cond_true, decide_eq_true rfl, cond_true, decide_eq_true rfl, cond_true]
  rfl
end Go.Proofs.Ytkpfagmlohcdjaa.K
