/- HashSums: plain. -/
import Derived.Test.YtpacbldefdggjaaLM
import Derived.Test.YtpacbldefdggjaaLp
import Derived.Test.YtpacbldefdggjaaLO
namespace Go.Proofs.Ytpacbldefdggjaa.K
open Go.RowKit Go.Lib
set_option linter.unusedVariables false
set_option linter.unusedSimpArgs false
theorem awk08 : m_telltalelaw08_awake = some true := by decide +kernel
def stepH (s : Int) (x : UInt8) : Int := IntKind.u64.wrap ((IntKind.u64.wrap (((BitVec.ofInt 64 s ^^^ BitVec.ofInt 64 ((x.toNat : Nat) : Int)).toNat : Int))) * 1099511628211)
def addH : Int → List UInt8 → Int
  | s, [] => s
  | s, x :: l => addH (stepH s x) l
theorem add08 {l : List UInt8} (hl : l.length ≤ 1000000000) (s : Int) : m_hash_Add s l = some (addH s l) := by
  unfold m_hash_Add
  exact loopG_0 (L := fun fu s i => m_hash_Add_l0 l fu s i) (n := l.length) (P := fun i s o => o = some (addH s (l.drop i))) (by omega)
    (fun fu s => by unfold m_hash_Add_l0; rw [d_nlt (by omega), cond_false, List.drop_of_length_le (Nat.le_refl _)]; rfl)
    (fun fu s i hi ih => by
      unfold m_hash_Add_l0
      rw [d_lt (by omega), cond_true, geti_lt hi, obind_some, obind_some, inc_ok (by omega), ih, drop_cons hi]; rfl) s
theorem radd08 {l : List UInt8} (hl : l.length ≤ 1000000000) (s : Int) : m_telltaleref08_Add s l = some (addH s l) := by
  unfold m_telltaleref08_Add
  exact loopG_0 (L := fun fu s i => m_telltaleref08_Add_l0 l fu s i) (n := l.length) (P := fun i s o => o = some (addH s (l.drop i))) (by omega)
    (fun fu s => by unfold m_telltaleref08_Add_l0; rw [d_nlt (by omega), cond_false, List.drop_of_length_le (Nat.le_refl _)]; rfl)
    (fun fu s i hi ih => by
      unfold m_telltaleref08_Add_l0
      rw [d_lt (by omega), cond_true, geti_lt hi, obind_some, obind_some, inc_ok (by omega), ih, drop_cons hi]; rfl) s
theorem wu_range (n : Int) : 0 ≤ IntKind.u64.wrap n ∧ IntKind.u64.wrap n ≤ 18446744073709551615 := by rw [wu64]; omega
theorem div_same {a m : Int} (h : 0 ≤ a ∧ a ≤ 18446744073709551615) (hm : 0 < m) : IntKind.u64.wrap (Int.tdiv a m) = Int.fdiv a m := by
  rw [Int.tdiv_eq_ediv_of_nonneg h.1, Int.fdiv_eq_ediv_of_nonneg _ (by omega), wu64]
  have h1 : 0 ≤ a / m := Int.ediv_nonneg h.1 (by omega)
  have h2 : a / m ≤ a := Int.ediv_le_self _ h.1
  exact Int.emod_eq_of_lt h1 (by omega)
theorem mix08 {a : Int} (h : 0 ≤ a ∧ a ≤ 18446744073709551615) : ∃ r, m_hash_Mix a = some r ∧ m_telltaleref08_Mix a = some r ∧ 0 ≤ r ∧ r ≤ 18446744073709551615 := by
  unfold m_hash_Mix m_telltaleref08_Mix
  rw [obind_some, obind_some, obind_some, obind_some, obind_some]
  rw [div_same h (by decide), div_same (wu_range _) (by decide), div_same (wu_range _) (by decide)]
  rw [show (1073741824 : Int) = 2 ^ 30 from rfl, show (134217728 : Int) = 2 ^ 27 from rfl, show (2147483648 : Int) = 2 ^ 31 from rfl]
  exact ⟨_, rfl, rfl, wu_range _⟩
theorem main_HashSums (s : Int) (t : List UInt8) (hs : 0 ≤ s ∧ s ≤ 18446744073709551615) (ht : t.length ≤ maxLen) : m_telltalelaw08_HashSums s t = some true := by
  unfold m_telltalelaw08_HashSums
  rw [awk08]
  by_cases h : 300 < t.length
  · rw [d_lt (by omega)]; rfl
  · obtain ⟨r, e1, e2, _⟩ := mix08 hs
    unfold m_hash_Sum
    rw [d_nlt (by omega), cond_false, add08 (by omega), obind_some, radd08 (by omega), obind_some, decide_eq_true rfl, cond_true, add08 (by omega), obind_some, obind_some, radd08 (by omega), obind_some, decide_eq_true rfl, cond_true, e1, obind_some, e2, obind_some, decide_eq_true rfl, cond_true]
    rfl
end Go.Proofs.Ytpacbldefdggjaa.K
