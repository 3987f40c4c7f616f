/- EventBack: plain. -/
import Derived.Test.YtbgioanegbipgaaPebk
import Derived.Test.YtbgioanegbipgaaPevs
import Derived.Test.YtbgioanegbipgaaMsc
namespace Go.Proofs.Ytbgioanegbipgaa.K
open Go.RowKit Go.Lib
set_option linter.unusedVariables false
set_option linter.unusedSimpArgs false
theorem awk07b : m_telltalelaw07_awake = some true := by decide +kernel
theorem back_j9 {p : List GType} {A : GArr2_GEvent} {q : List UInt8} (hp : scB p) (h0 : evO A.a0) (h1 : evO A.a1) (hq : q.length ≤ 100) : m_telltalelaw07_EventBack_j9 A q p = some true := by
  unfold m_telltalelaw07_EventBack_j9
  have l0 := h0.L
  have l1 := h1.L
  rw [awk07b, own_ok (by omega), obind_some, eput_ok (by simp) hp h0, obind_some, own_ok (by omega), obind_some, eput_ok (by simp) hp h1, obind_some]
  unfold putE
  by_cases c0 : evC p A.a0 = 0
  · rw [if_neg (by simp [c0])]
    simp only
    rw [decide_eq_false (by simp), cond_false]
    by_cases c1 : evC p A.a1 = 0
    · rw [if_neg (by simp [c1])]
      have g0 := evC_zero c0
      have g1 := evC_zero c1
      have b0 := evB_len hp g0 h0
      simp only [List.nil_append]
      rw [decide_eq_false (by simp), cond_false, app_ok (by omega), obind_some, etake_ok 0 (by rw [List.length_append]; omega) hp, obind_some, ev_put_take q hp g0 h0]
      simp only
      rw [decide_true, cond_true, obind_some, esame_ok (by omega) (by omega), obind_some, decide_eq_true rfl, cond_true, cond_true, obind_some, obind_some, esame_ok (by omega) (by omega), obind_some]
      have e : decide (evB' p A.a0 = evB' p A.a1) = decide (A.a0 = A.a1) := decide_eq_decide.2 ⟨evB_inj hp g0 h0 g1 h1, fun h => by rw [h]⟩
      simp only [e, decide_true, cond_true, obind_some]
    · rw [if_pos c1]
      simp only
      rw [decide_eq_true c1]; rfl
  · rw [if_pos c0]
    simp only
    rw [decide_eq_true c0]; rfl
theorem main_EventBack (p : List GType) (A : GArr2_GEvent) (q : List UInt8) (wp : wfL wf_GType p) (wA : wf_GArr2_GEvent A) (wq : q.length ≤ maxLen) : m_telltalelaw07_EventBack p A q = some true := by
  unfold m_telltalelaw07_EventBack m_telltalelaw07_EventBack_j1 m_telltalelaw07_EventBack_j8
  rw [awk07b]
  obtain ⟨r, e1, q1⟩ := over06_ok wp.1 fun t ht => wf_tyM (wp.2 t ht)
  rw [e1, obind_some]
  rcases q1 with rfl | ⟨rfl, hp⟩
  · rfl
  obtain ⟨r2, e2, q2⟩ := over_ok (l := [A.a0, A.a1]) (k := 2) (by decide) (fun e he => by
    rcases List.mem_cons.1 he with rfl | he
    · exact wf_evM wA.a0
    · simp only [List.mem_singleton] at he; subst he; exact wf_evM wA.a1)
  rw [d_nlt (by decide), cond_false, e2, obind_some]
  rcases q2 with rfl | ⟨rfl, _, q3⟩
  · rfl
  have h0 := wf_evO wA.a0 (q3 _ (by simp))
  have h1 := wf_evO wA.a1 (q3 _ (by simp))
  have hn := maxLen_le wq
  rw [d_nlt (by decide), cond_false]
  by_cases h : 100 < q.length
  · rw [d_lt (by omega)]; rfl
  rw [d_nlt (by omega), cond_false, own06_ok hp, obind_some, etake_ok 0 (by omega) hp, obind_some, back_j9 hp h0 h1 (by omega)]
  generalize hx : etk p q 0 = x
  obtain ⟨e, n, er⟩ := x
  simp only
  by_cases he : er = 0
  · subst he
    obtain ⟨gd, ho, m, rfl, hm, hb⟩ := ev_take_put hp (by omega) hx
    rw [decide_eq_true rfl, cond_true, eput_ok (by simp) hp ho, obind_some]
    unfold putE
    rw [if_neg (by simp [gd.zero])]
    simp only
    have ec := cut_ok (l := q) (a := 0) (b := m) (by omega) hm
    rw [Int.natCast_zero] at ec
    rw [decide_eq_false (by simp), cond_false, d_nlt (by omega), cond_false, d_nlt (by omega), cond_false, ec, obind_some, List.nil_append, hb, List.drop_zero, Nat.sub_zero, decide_eq_false (by simp), cond_false, echeck_ok hp ho, obind_some, decide_eq_false (by simp [gd.zero]), cond_false]
  · rw [decide_eq_false he, cond_false]
end Go.Proofs.Ytbgioanegbipgaa.K
