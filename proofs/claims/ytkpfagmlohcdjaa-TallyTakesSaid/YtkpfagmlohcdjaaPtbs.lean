/- Changes taken back; whether two lists of changes are the same, as the document tells it: plain. -/
import Derived.Test.YtkpfagmlohcdjaaPtsame
namespace Go.Proofs.Ytkpfagmlohcdjaa.K
open Go.RowKit Go.Lib
set_option linter.unusedVariables false
set_option linter.unusedSimpArgs false
theorem tback_ok {l : List GChange} (hl : l.length ≤ 100000000) : m_telltalelaw26_Back l = some l := by
  have := map_loop (L := fun fu s i => m_telltalelaw26_Back_l0 l fu s i) (l := l) (f := id) (e := id) (by omega) (fun fu s => by unfold m_telltalelaw26_Back_l0; rw [d_nlt (by omega)]; rfl)
    (fun fu s i h hs => by
      conv => lhs; unfold m_telltalelaw26_Back_l0
      rw [d_lt (by omega), cond_true, geti_lt h, obind_some, app_ok (by simp; omega), obind_some, inc_ok (by omega)]; rfl)
  rw [List.map_id] at this; exact this
theorem rsame_ok {a b : List GChange} (ha : a.length ≤ 1000000000) (hb : b.length ≤ 1000000000) : m_telltaleref26_Same a b = some (decide (a = b)) := by
  unfold m_telltaleref26_Same
  by_cases hl : a.length = b.length
  · rw [decide_eq_false (by omega), cond_false, eq_loop (L := fun fu i => m_telltaleref26_Same_l1 a b fu i) hl ha (fun fu => by unfold m_telltaleref26_Same_l1; rw [d_nlt (by omega), cond_false]) (fun fu i h1 h2 => by
      conv => lhs; unfold m_telltaleref26_Same_l1
      rw [d_lt (by omega), cond_true, geti_lt h1, obind_some, geti_lt h2, obind_some, obind_some, ch_eq, inc_ok (by omega)]
      by_cases h : a[i] = b[i]
      · rw [decide_eq_true h, if_pos h]; rfl
      · rw [decide_eq_false h, if_neg h]; rfl)]
  · rw [decide_eq_true (by omega), cond_true, decide_eq_false (fun e => hl (by rw [e]))]
end Go.Proofs.Ytkpfagmlohcdjaa.K
