/- SorterFine: plain. -/
import Derived.Test.YtanahlngkociaaaLO
import Derived.Test.YtanahlngkociaaaLp
namespace Go.Proofs.Ytanahlngkociaaa.K
open Go.RowKit Go.Lib
set_option linter.unusedVariables false
set_option linter.unusedSimpArgs false
theorem half_ok {i : Nat} (h1 : 1 ≤ i) (h2 : i ≤ 1000000000) : IntKind.i64.wrap (Int.tdiv (IntKind.i64.wrap ((i : Int) - 1)) 2) = (((i - 1) / 2 : Nat) : Int) := by
  rw [w64 (n := (i : Int) - 1) (by omega) (by omega), show (i : Int) - 1 = ((i - 1 : Nat) : Int) by omega]
  have : Int.tdiv ((i - 1 : Nat) : Int) 2 = (((i - 1) / 2 : Nat) : Int) := rfl
  rw [this]
  exact w64 (by omega) (by omega)
theorem inc_ok {i : Nat} (h2 : i ≤ 1000000000) : IntKind.i64.wrap ((i : Int) + 1) = ((i + 1 : Nat) : Int) := by
  rw [w64 (by omega) (by omega)]; omega
theorem awake_ok : m_telltalelaw24_awake = some true := by decide +kernel
/-- Each from place i on is not less than the one it stands below. -/
def fineB (l : List Int) : Nat → Nat → Bool
  | _, 0 => true
  | i, n + 1 => !decide (l.getD i 0 < l.getD ((i - 1) / 2) 0) && fineB l (i + 1) n
theorem getI {l : List Int} {i : Nat} (h : i < l.length) : l[i]? = some (l.getD i 0) := getDv 0 h
theorem hless_ok {l : List Int} {i j : Nat} (hi : i < l.length) (hj : j < l.length) : m_sorter_Heap_int_less__telltalelaw24_less l (i : Int) (j : Int) = some (decide (l.getD i 0 < l.getD j 0)) := by
  unfold m_sorter_Heap_int_less__telltalelaw24_less m_telltalelaw24_less
  rw [geti_nat, geti_nat, getI hi, getI hj]; rfl
theorem fine_l (l : List Int) (hl : l.length ≤ 1000000000) : ∀ (n fu i : Nat), l.length - i = n → n < fu → 1 ≤ i → m_sorter_Fine_int__telltalelaw24_less_l0 l fu (i : Int) = some (fineB l i n)
  | n, 0, i, _, h, _ => by omega
  | 0, fu + 1, i, h1, _, _ => by
    unfold m_sorter_Fine_int__telltalelaw24_less_l0
    rw [decide_eq_false (by omega)]; rfl
  | n + 1, fu + 1, i, h1, h2, h3 => by
    unfold m_sorter_Fine_int__telltalelaw24_less_l0
    rw [decide_eq_true (by omega), cond_true, half_ok h3 (by omega), hless_ok (by omega) (by omega), obind_some, inc_ok (by omega), fine_l l hl n fu (i + 1) (by omega) (by omega) (by omega), fineB]
    cases decide (l.getD i 0 < l.getD ((i - 1) / 2) 0) <;> rfl
theorem fine_ok {l : List Int} (hl : l.length ≤ 1000000000) : m_sorter_Fine_int__telltalelaw24_less l = some (fineB l 1 (l.length - 1)) := by
  unfold m_sorter_Fine_int__telltalelaw24_less
  exact fine_l l hl _ _ 1 rfl (by omega) (Nat.le_refl _)
theorem fineN_l (l : List Int) (hl : l.length ≤ 1000000000) : ∀ (n fu i : Nat), l.length - i = n → n < fu → m_sorter_Fine_int_l0 l fu (i : Int) = some true
  | n, 0, i, _, h => by omega
  | 0, fu + 1, i, h1, _ => by
    unfold m_sorter_Fine_int_l0
    rw [decide_eq_false (by omega)]; rfl
  | n + 1, fu + 1, i, h1, h2 => by
    unfold m_sorter_Fine_int_l0 m_sorter_Heap_int_less
    rw [decide_eq_true (by omega), cond_true, obind_some, cond_false, inc_ok (by omega), fineN_l l hl n fu (i + 1) (by omega) (by omega)]
theorem sfine_l (l : List Int) (hl : l.length ≤ 1000000000) : ∀ (n fu i : Nat) (b : Bool), l.length - i = n → n < fu → 1 ≤ i → fineB l 1 (l.length - 1) = (b && fineB l i n) → m_telltalelaw24_SorterFine_l2 l fu b (i : Int) = some true
  | n, 0, i, b, _, h, _, _ => by omega
  | 0, fu + 1, i, b, h1, _, _, hb => by
    unfold m_telltalelaw24_SorterFine_l2
    rw [decide_eq_false (by omega), cond_false, fine_ok hl, obind_some, hb, fineB, Bool.and_true, decide_eq_true rfl, cond_true]
    unfold m_sorter_Fine_int
    have e := fineN_l l hl _ 1152921504606846976 1 rfl (by omega)
    rw [show ((1 : Nat) : Int) = 1 from rfl] at e
    rw [e, obind_some, cond_true, awake_ok]; rfl
  | n + 1, fu + 1, i, b, h1, h2, h3, hb => by
    unfold m_telltalelaw24_SorterFine_l2
    rw [decide_eq_true (by omega), cond_true, half_ok h3 (by omega), inc_ok (by omega), geti_nat, geti_nat, getI (show i < l.length by omega), getI (show (i - 1) / 2 < l.length by omega), obind_some, obind_some]
    cases b with
    | false =>
      rw [cond_false]
      exact sfine_l l hl n fu (i + 1) false (by omega) (by omega) (by omega) (by rw [hb]; rfl)
    | true =>
      rw [cond_true]
      refine sfine_l l hl n fu (i + 1) _ (by omega) (by omega) (by omega) ?_
      rw [hb, fineB, Bool.true_and]
      congr 1
      by_cases hc : l.getD i 0 < l.getD ((i - 1) / 2) 0
      · rw [decide_eq_true hc, decide_eq_false (by omega)]; rfl
      · rw [decide_eq_false hc, decide_eq_true (by omega)]; rfl
theorem main_SorterFine (l : List Int) (w : wfL (inK .i64) l) : m_telltalelaw24_SorterFine l = some true := by
  unfold m_telltalelaw24_SorterFine
  rw [awake_ok]
  by_cases h : 40 < l.length
  · rw [decide_eq_true (by omega)]; rfl
  · rw [decide_eq_false (by omega), cond_false]
    exact sfine_l l (by omega) _ _ 1 true rfl (by omega) (Nat.le_refl _) rfl
end Go.Proofs.Ytanahlngkociaaa.K
