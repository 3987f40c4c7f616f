/- ValueChecks: plain. -/
import Derived.Test.YtgocnknbiipcfaaPvput
import Derived.Test.YtgocnknbiipcfaaPvrank
import Derived.Test.YtgocnknbiipcfaaPVMakes
namespace Go.Proofs.Ytgocnknbiipcfaa.K
open Go.RowKit Go.Lib
set_option linter.unusedVariables false
set_option linter.unusedSimpArgs false
theorem wf_u64 {v : GValue} (h : wf_GValue v) : u64B v.Bits := in_u64 h.Bits
theorem wf_okB {v : GValue} (h : wf_GValue v) (ht : v.Text.length ≤ 1000) : okB v := ⟨in_i64 h.N, in_u64 h.Bits, ht⟩
theorem main_ValueChecks (v w : GValue) (b : List UInt8) (hv : wf_GValue v) (hw : wf_GValue w) (hb : wfL wfT b) : m_telltalelaw04_ValueChecks v w b = some true := by
  unfold m_telltalelaw04_ValueChecks m_telltalelaw04_ValueChecks_j1
  rw [awk04, small04 hv.Text, small04 hw.Text, obind_some, obind_some]
  by_cases h1 : 100 < v.Text.length
  · rw [d_lt (by omega)]; rfl
  rw [d_nlt (by omega), cond_false, obind_some]
  by_cases h2 : 100 < w.Text.length
  · rw [d_lt (by omega)]; rfl
  rw [d_nlt (by omega), cond_false]
  by_cases h3 : 100 < b.length
  · rw [d_lt (by omega)]; rfl
  have u1 := wf_u64 hv
  have u2 := wf_u64 hw
  rw [d_nlt (by omega), cond_false, app_ok (by simp; omega), obind_some, List.nil_append, vput_ok (by omega) (wf_okB hv (by omega)), obind_some, rvput_ok (by omega) (wf_okB hv (by omega)), obind_some, check_ok u1, obind_some, rcheck_ok u1, obind_some, decide_eq_true rfl, cond_true, vrank_ok u1 u2, obind_some, rvrank_ok u1 u2, obind_some, decide_eq_true rfl, cond_true, decide_eq_true rfl, cond_true, decide_eq_true rfl, cond_true, decide_eq_true rfl, cond_true]
end Go.Proofs.Ytgocnknbiipcfaa.K
