/- cmp.Compare and cmp.Or of whole numbers: plain. -/
import Derived.Test.YtkpfagmlohcdjaaLM
import Derived.Test.YtkpfagmlohcdjaaLp
namespace Go.Proofs.Ytkpfagmlohcdjaa.K
open Go.RowKit Go.Lib
set_option linter.unusedVariables false
set_option linter.unusedSimpArgs false
def cmpI (a b : Int) : Int := if a < b then -1 else if b < a then 1 else 0
def orI : List Int → Int
  | [] => 0
  | x :: l => if x ≠ 0 then x else orI l
theorem cmp_ok (a b : Int) : m_cmp_Compare_int a b = some (cmpI a b) := by
  unfold m_cmp_Compare_int m_cmp_isNaN_int cmpI
  rw [obind_some, obind_some, decide_eq_false (by simp), cond_false, decide_eq_false (by simp), cond_false]
  by_cases h1 : a < b
  · rw [d_lt h1, cond_true, if_pos h1]
  · rw [d_nlt h1, cond_false, if_neg h1]
    by_cases h2 : b < a
    · rw [d_lt h2, cond_true, if_pos h2]
    · rw [d_nlt h2, cond_false, if_neg h2]
theorem or_ok {l : List Int} (hl : l.length ≤ 1000000) : m_cmp_Or_int l = some (orI l) := by
  unfold m_cmp_Or_int
  have := loop1_0 (L := fun fu i => m_cmp_Or_int_l1 l fu i) (n := l.length) (P := fun i o => o = some (orI (l.drop i))) (by omega)
    (fun fu => by unfold m_cmp_Or_int_l1; rw [d_nlt (by omega), cond_false]; simp [orI])
    (fun fu i hi ih => by
      unfold m_cmp_Or_int_l1
      rw [d_lt (by omega), cond_true, geti_lt hi, obind_some, drop_cons hi]
      unfold orI
      by_cases h : l[i] ≠ 0
      · rw [decide_eq_true h, cond_true, if_pos h]
      · rw [decide_eq_false h, cond_false, if_neg h, inc_ok (by omega)]; exact ih)
  simpa using this
theorem cmpI_neg (a b : Int) : cmpI b a = - cmpI a b := by unfold cmpI; split <;> split <;> omega
theorem cmpI_lt {a b : Int} : cmpI a b < 0 ↔ a < b := by unfold cmpI; split <;> (try split) <;> omega
theorem cmpI_zero {a b : Int} : cmpI a b = 0 ↔ a = b := by unfold cmpI; split <;> (try split) <;> omega
theorem cmpI_gt {a b : Int} : 0 < cmpI a b ↔ b < a := by unfold cmpI; split <;> (try split) <;> omega
end Go.Proofs.Ytkpfagmlohcdjaa.K
