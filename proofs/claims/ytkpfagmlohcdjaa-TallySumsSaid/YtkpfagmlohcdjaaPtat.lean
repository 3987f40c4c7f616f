/- What is at a point, as the document tells it: plain. -/
import Derived.Test.YtkpfagmlohcdjaaPtal
namespace Go.Proofs.Ytkpfagmlohcdjaa.K
open Go.RowKit Go.Lib
set_option linter.unusedVariables false
set_option linter.unusedSimpArgs false
theorem rat_ok {l : List GChange} (h : small l) (a b : Int) : m_telltaleref26_At l a b = some (atp l a b) := by
  obtain ⟨hl, ha⟩ := h
  unfold m_telltaleref26_At
  have key : ∀ (R D : List GChange) (fu : Nat), l = D ++ R → R.length < fu → m_telltaleref26_At_l0 l a b fu (atp D a b) (D.length : Int) = some (atp l a b) := by
    intro R
    induction R with
    | nil =>
      intro D fu e hf
      obtain ⟨fu, rfl⟩ : ∃ k, fu = k + 1 := ⟨fu - 1, by omega⟩
      have hD : l = D := by rw [e, List.append_nil]
      subst hD
      unfold m_telltaleref26_At_l0
      rw [d_nlt (by omega), cond_false]
    | cons x R ih =>
      intro D fu e hf
      obtain ⟨fu, rfl⟩ : ∃ k, fu = k + 1 := ⟨fu - 1, by omega⟩
      have hlD : l.length = D.length + R.length + 1 := by rw [e]; simp; omega
      have g : geti l (D.length : Int) = some x := geti_at e rfl
      have e' : l = (D ++ [x]) ++ R := by rw [e]; simp
      have := ih (D ++ [x]) fu e' (by simp at hf; omega)
      rw [show (((D ++ [x]).length : Nat) : Int) = ((D.length + 1 : Nat) : Int) by simp, atp_app] at this
      have h1 := atp_abs D a b
      have h2 : absum l = absum D + (x.N.natAbs + absum R) := by rw [e, absum_app, absum]
      unfold m_telltaleref26_At_l0
      rw [d_lt (by omega), cond_true, g, obind_some, obind_some, obind_some, inc_ok (by omega)]
      simp only [atp] at this
      by_cases q1 : x.Loc = a
      · rw [decide_eq_true q1, cond_true]
        by_cases q2 : x.Time = b
        · rw [decide_eq_true q2, cond_true, w64 (by omega) (by omega)]
          rw [if_pos ⟨q1, q2⟩, Int.add_zero] at this
          exact this
        · rw [decide_eq_false q2, cond_false]
          rw [if_neg (fun h => q2 h.2), Int.add_zero, Int.add_zero] at this
          exact this
      · rw [decide_eq_false q1, cond_false]
        rw [if_neg (fun h => q1 h.1), Int.add_zero, Int.add_zero] at this
        exact this
  exact key l [] _ rfl (by omega)
end Go.Proofs.Ytkpfagmlohcdjaa.K
