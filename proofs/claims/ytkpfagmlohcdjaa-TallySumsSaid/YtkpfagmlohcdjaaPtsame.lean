/- Whether two tallies are the same: plain. -/
import Derived.Test.YtkpfagmlohcdjaaPtal
import Derived.Test.YtkpfagmlohcdjaaPeq
namespace Go.Proofs.Ytkpfagmlohcdjaa.K
open Go.RowKit Go.Lib
set_option linter.unusedVariables false
set_option linter.unusedSimpArgs false
theorem ch_eq (x y : GChange) : (decide (x.Loc = y.Loc) && (decide (x.Time = y.Time) && (decide (x.N = y.N) && true))) = decide (x = y) := by
  rw [Bool.eq_iff_iff]
  simp only [Bool.and_eq_true, decide_eq_true_eq, and_true]
  constructor
  · rintro ⟨h1, h2, h3⟩; cases x; cases y; simp_all
  · rintro rfl; exact ⟨rfl, rfl, rfl⟩
theorem tsame_ok {a b : List GChange} (ha : a.length ≤ 1000000000) (hb : b.length ≤ 1000000000) : m_tally_Same a b = some (decide (a = b)) := by
  unfold m_tally_Same m_slices_Equal_Change
  by_cases hl : a.length = b.length
  · rw [decide_eq_false (by omega), cond_false, eq_loop (L := fun fu i => m_slices_Equal_Change_l2 a b fu i) hl ha (fun fu => by unfold m_slices_Equal_Change_l2; rw [d_nlt (by omega), cond_false]) (fun fu i h1 h2 => by
      conv => lhs; unfold m_slices_Equal_Change_l2
      rw [d_lt (by omega), cond_true, geti_lt h1, obind_some, geti_lt h2, obind_some, obind_some, ch_eq, inc_ok (by omega)]
      by_cases h : a[i] = b[i]
      · rw [decide_eq_true h, if_pos h]; rfl
      · rw [decide_eq_false h, if_neg h]; rfl), obind_some]
  · rw [decide_eq_true (by omega), cond_true, obind_some, decide_eq_false (fun e => hl (by rw [e]))]
end Go.Proofs.Ytkpfagmlohcdjaa.K
