/- ValueTakes: plain. -/
import Derived.Test.YtgocnknbiipcfaaPvtake
import Derived.Test.YtgocnknbiipcfaaLO
namespace Go.Proofs.Ytgocnknbiipcfaa.K
open Go.RowKit Go.Lib
set_option linter.unusedVariables false
set_option linter.unusedSimpArgs false
theorem awk04t : m_telltalelaw04_awake = some true := by decide +kernel
theorem main_ValueTakes (t : List UInt8) (a : Int) (ht : t.length ≤ maxLen) (ha : -9223372036854775808 ≤ a ∧ a ≤ 9223372036854775807) : m_telltalelaw04_ValueTakes t a = some true := by
  unfold m_telltalelaw04_ValueTakes
  rw [awk04t]
  by_cases h : 100 < t.length
  · rw [d_lt (by omega)]; rfl
  · rw [d_nlt (by omega), cond_false, vtake_ok (by omega), obind_some, rvtake_ok (by omega), obind_some]
    simp [obind_some]
end Go.Proofs.Ytgocnknbiipcfaa.K
