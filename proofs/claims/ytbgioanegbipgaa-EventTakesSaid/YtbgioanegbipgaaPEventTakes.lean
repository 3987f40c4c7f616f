/- EventTakes: plain. -/
import Derived.Test.YtbgioanegbipgaaMsc
import Derived.Test.YtbgioanegbipgaaPetk
namespace Go.Proofs.Ytbgioanegbipgaa.K
open Go.RowKit Go.Lib
set_option linter.unusedVariables false
set_option linter.unusedSimpArgs false
theorem awk07t : m_telltalelaw07_awake = some true := by decide +kernel
theorem main_EventTakes (p : List GType) (l : List UInt8) (a : Int) (wp : wfL wf_GType p) (wl : l.length ≤ maxLen) (wa : -9223372036854775808 ≤ a ∧ a ≤ 9223372036854775807) : m_telltalelaw07_EventTakes p l a = some true := by
  unfold m_telltalelaw07_EventTakes
  rw [awk07t]
  obtain ⟨r, e1, q⟩ := over06_ok wp.1 fun t ht => wf_tyM (wp.2 t ht)
  rw [e1, obind_some]
  rcases q with rfl | ⟨rfl, hp⟩
  · rfl
  have hn := maxLen_le wl
  rw [d_nlt (by decide), cond_false]
  by_cases h : 300 < l.length
  · rw [d_lt (by omega)]; rfl
  have hv := etk_vals (p := p) (a := a) (by omega : l.length ≤ 1000) hp
  rw [d_nlt (by omega), cond_false, own06_ok hp, obind_some, etake_ok a (by omega) hp, obind_some, retake_ok a (by omega) hp, obind_some, back_ok (by omega), obind_some, rsame_ok (by omega) (by omega), obind_some, decide_eq_true rfl, cond_true, decide_eq_true rfl, cond_true, decide_eq_true rfl, cond_true]
  rfl
end Go.Proofs.Ytbgioanegbipgaa.K
