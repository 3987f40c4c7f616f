/- Two tallies added up: plain. -/
import Derived.Test.YtkpfagmlohcdjaaPtal
namespace Go.Proofs.Ytkpfagmlohcdjaa.K
open Go.RowKit Go.Lib
set_option linter.unusedVariables false
set_option linter.unusedSimpArgs false
theorem grow_ok {n : Nat} (h : n ≤ 1000000000) : m_slices_Grow_Change (n : Int) = some [] := by
  unfold m_slices_Grow_Change
  rw [d_nlt (by omega), cond_false, w64 (by omega) (by omega)]
  by_cases h0 : 0 < n
  · rw [d_lt (by omega), cond_true, show (n : Int) - 0 = (n : Int) by omega, show mkl (n : Int) (GChange.mk 0 0 0) = some (List.replicate n (GChange.mk 0 0 0)) by unfold mkl; rw [if_pos (by omega)]; simp, obind_some, chk_ok (by omega)]
    rw [cut_00, obind_some]
  · rw [d_nlt (by omega), cond_false]
theorem concat_ok {a b : List GChange} (h : a.length + b.length ≤ 1000000) : m_slices_Concat_Change [a, b] = some (a ++ b) := by
  unfold m_slices_Concat_Change
  show m_slices_Concat_Change_l1 [a, b] (1152921504606846973 + 1 + 1 + 1) 0 0 = _
  unfold m_slices_Concat_Change_l1
  rw [decide_eq_true (by simp), cond_true, show geti [a, b] 0 = some a from rfl, obind_some, w64 (n := 0 + ((List.length a : Nat) : Int)) (by omega) (by omega), d_nlt (by omega), cond_false]
  unfold m_slices_Concat_Change_l1
  rw [show IntKind.i64.wrap (0 + 1) = 1 from w64 (by omega) (by omega), decide_eq_true (by simp), cond_true, show geti [a, b] 1 = some b from rfl, obind_some, w64 (n := 0 + ((List.length a : Nat) : Int) + ((List.length b : Nat) : Int)) (by omega) (by omega), d_nlt (by omega), cond_false]
  unfold m_slices_Concat_Change_l1
  rw [show IntKind.i64.wrap (1 + 1) = 2 from w64 (by omega) (by omega), decide_eq_false (by simp), cond_false, show 0 + ((List.length a : Nat) : Int) + ((List.length b : Nat) : Int) = ((a.length + b.length : Nat) : Int) by omega, grow_ok (by omega), obind_some]
  show m_slices_Concat_Change_l6 [a, b] (1152921504606846973 + 1 + 1 + 1) [] 0 = _
  unfold m_slices_Concat_Change_l6
  rw [decide_eq_true (by simp), cond_true, show geti [a, b] 0 = some a from rfl, obind_some, app_ok (by simp; omega), obind_some]
  unfold m_slices_Concat_Change_l6
  rw [show IntKind.i64.wrap (0 + 1) = 1 from w64 (by omega) (by omega), decide_eq_true (by simp), cond_true, show geti [a, b] 1 = some b from rfl, obind_some, app_ok (by simp; omega), obind_some]
  unfold m_slices_Concat_Change_l6
  rw [show IntKind.i64.wrap (1 + 1) = 2 from w64 (by omega) (by omega), decide_eq_false (by simp), cond_false, List.nil_append]
theorem merge_ok {a b : List GChange} (h : small (a ++ b)) : m_tally_Merge a b = some (nrm (a ++ b)) := by
  have hl := h.1
  rw [List.length_append] at hl
  unfold m_tally_Merge
  rw [concat_ok hl, obind_some, normal_ok h, obind_some]
end Go.Proofs.Ytkpfagmlohcdjaa.K
