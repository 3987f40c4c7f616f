/- EventSorts: plain. -/
import Derived.Test.YtbgioanegbipgaaPevs
import Derived.Test.YtbgioanegbipgaaMsc
namespace Go.Proofs.Ytbgioanegbipgaa.K
open Go.RowKit Go.Lib
set_option linter.unusedVariables false
set_option linter.unusedSimpArgs false
theorem awk07s : m_telltalelaw07_awake = some true := by decide +kernel
theorem main_EventSorts (l : List GEvent) (w : wfL wf_GEvent l) : m_telltalelaw07_EventSorts l = some true := by
  unfold m_telltalelaw07_EventSorts m_telltalelaw07_EventSorts_j5
  rw [awk07s]
  obtain ⟨r2, e2, q2⟩ := over_ok (l := l) (k := 20) (by decide) (fun e he => wf_evM (w.2 e he))
  rw [e2, obind_some]
  rcases q2 with rfl | ⟨rfl, hl, hb⟩
  · rfl
  have hv : ∀ e ∈ l, e.Vals.length ≤ 1000 := fun e he => by have := (hb e he).2.1; omega
  have hs := isort_perm (lt := ltc cmpE) l
  have hsl : (isort (ltc cmpE) l).length ≤ 20 := by rw [hs.length_eq]; omega
  have hsv : ∀ e ∈ isort (ltc cmpE) l, e.Vals.length ≤ 1000 := fun e he => hv e (hs.mem_iff.1 he)
  rw [d_nlt (by decide), cond_false, ownAll_ok (by omega) hv, obind_some, esort_ok (by omega) hv, obind_some, backAll_ok (by omega) hsv, obind_some, rsort_ok (by omega), obind_some, rsameAll_ok (by omega) (by omega) hsv hsv, obind_some, decide_eq_true rfl, Bool.not_true, cond_false, sorted_ok (by omega), obind_some, rsorted_ok (by omega), obind_some, decide_eq_false (by simp), cond_false, backAll_ok (by omega) hv, obind_some, rsameAll_ok (by omega) (by omega) hv hv, obind_some, decide_eq_true rfl, Bool.not_true, cond_false]
  by_cases h : 1 ≤ l.length
  · have := loop1 (L := fun fu i => m_telltalelaw07_EventSorts_l6 l l fu i) (n := l.length) (P := fun i o => 1 ≤ i → o = some true)
      (fun fu h1 => by unfold m_telltalelaw07_EventSorts_l6; rw [d_nlt (by omega), awk07s]; rfl)
      (fun fu i hi ih h1 => by
        have v1 := hv _ (List.getElem_mem hi)
        have v2 := hv _ (List.getElem_mem (show i - 1 < l.length by omega))
        unfold m_telltalelaw07_EventSorts_l6 m_event_Event_ID
        rw [d_lt (by omega), cond_true, dec_ok h1 (by omega), geti_lt (by omega), obind_some, obind_some, geti_lt hi, obind_some, obind_some, idless_ok, obind_some, obind_some, obind_some, rless_ok, obind_some, decide_eq_false (by simp), cond_false, obind_some, obind_some, esame_ok (by omega) (by omega), obind_some, obind_some, obind_some, rsame_ok (by omega) (by omega), obind_some, decide_eq_false (by simp), cond_false, inc_ok (by omega), ih (by omega)]) 1152921504606846976 1 h (by omega)
    exact this (Nat.le_refl _)
  · have : l = [] := List.eq_nil_of_length_eq_zero (by omega)
    subst this
    unfold m_telltalelaw07_EventSorts_l6
    rw [d_nlt (by simp), awk07s]; rfl
end Go.Proofs.Ytbgioanegbipgaa.K
