/- EventChecks: plain. -/
import Derived.Test.YtbgioanegbipgaaMsc
namespace Go.Proofs.Ytbgioanegbipgaa.K
open Go.RowKit Go.Lib
set_option linter.unusedVariables false
set_option linter.unusedSimpArgs false
theorem awk07c : m_telltalelaw07_awake = some true := by decide +kernel
theorem main_EventChecks (p : List GType) (e : GEvent) (n : List UInt8) (wp : wfL wf_GType p) (we : wf_GEvent e) (wn : n.length ≤ maxLen) : m_telltalelaw07_EventChecks p e n = some true := by
  unfold m_telltalelaw07_EventChecks m_telltalelaw07_EventChecks_j1
  rw [awk07c]
  obtain ⟨r, e1, q⟩ := over06_ok wp.1 fun t ht => wf_tyM (wp.2 t ht)
  rw [e1, obind_some]
  rcases q with rfl | ⟨rfl, hp⟩
  · rfl
  obtain ⟨r2, e2, q2⟩ := over_ok (l := [e]) (k := 1) (by decide) (by simpa using wf_evM we)
  rw [d_nlt (by decide), cond_false, e2, obind_some]
  rcases q2 with rfl | ⟨rfl, _, q3⟩
  · rfl
  have hb := q3 e (by simp)
  have he := wf_evO we hb
  have hn := maxLen_le wn
  have hL := he.L
  rw [d_nlt (by decide), cond_false]
  by_cases h : 40 < n.length
  · rw [d_lt (by omega)]; rfl
  obtain ⟨r, v1, v2⟩ := value_both n hp he
  rw [d_nlt (by omega), cond_false, own06_ok hp, obind_some, own_ok (by omega), obind_some, eput_ok (by simp) hp he, obind_some, reput_ok (by simp) hp he, obind_some, v1, obind_some, v2, obind_some, echeck_ok hp he, obind_some, recheck_ok hp he, obind_some]
  simp [obind_some]
end Go.Proofs.Ytbgioanegbipgaa.K
