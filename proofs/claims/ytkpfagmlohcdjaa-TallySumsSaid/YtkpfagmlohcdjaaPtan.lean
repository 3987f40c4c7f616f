/- A change more; a tally turned: plain. -/
import Derived.Test.YtkpfagmlohcdjaaPtmg
namespace Go.Proofs.Ytkpfagmlohcdjaa.K
open Go.RowKit Go.Lib
set_option linter.unusedVariables false
set_option linter.unusedSimpArgs false
theorem add_ok {a : List GChange} {c : GChange} (h : small (a ++ [c])) : m_tally_Add a c = some (nrm (a ++ [c])) := by
  unfold m_tally_Add
  rw [merge_ok h, obind_some]
theorem neg_ok {l : List GChange} (h : small l) : m_tally_Neg l = some (nrm (negl l)) := by
  have hl := h.1
  have ha := h.2
  unfold m_tally_Neg
  have hN : ∀ x ∈ l, IntKind.i64.wrap (0 - x.N) = -x.N := fun x hx => by have := absum_mem hx; rw [w64 (by omega) (by omega)]; omega
  have := loopG_0 (L := fun fu s i => m_tally_Neg_l1 l fu s i) (n := l.length) (P := fun i s o => s.length = i → s ++ negl (l.drop i) = negl l → o = some (nrm (negl l))) (by omega)
    (fun fu s hs e => by
      unfold m_tally_Neg_l1
      simp [negl] at e
      rw [d_nlt (by omega), cond_false, e]
      have := normal_ok (negl_small h)
      unfold negl at this
      rw [this, obind_some]; rfl)
    (fun fu s i hi ih hs e => by
      unfold m_tally_Neg_l1
      rw [d_lt (by omega), cond_true, geti_lt hi, obind_some, hN _ (List.getElem_mem hi), app_ok (by simp; omega), obind_some, inc_ok (by omega)]
      refine ih _ (by simp; omega) ?_
      rw [drop_cons hi] at e
      simp only [negl, List.map_cons, List.append_assoc, List.singleton_append] at e ⊢
      exact e) []
  exact this rfl rfl
end Go.Proofs.Ytkpfagmlohcdjaa.K
