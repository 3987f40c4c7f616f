/- ValueMakes: plain. -/
import Derived.Test.YtgocnknbiipcfaaPval
import Derived.Test.YtgocnknbiipcfaaLO
namespace Go.Proofs.Ytgocnknbiipcfaa.K
open Go.RowKit Go.Lib
set_option linter.unusedVariables false
set_option linter.unusedSimpArgs false
theorem awk04 : m_telltalelaw04_awake = some true := by decide +kernel
theorem oftext_ok {t : List UInt8} (hl : t.length ≤ 1000000000) : m_value_OfText t = some (GValue.mk 4 0 0 (t.take 24)) := by
  unfold m_value_OfText m_value_OfText_j2
  by_cases h : 24 < t.length
  · have e := cut_ok (l := t) (a := 0) (b := 24) (by omega) (by omega)
    rw [Int.natCast_zero] at e
    rw [d_lt (by omega), cond_true, show (24 : Int) = ((24 : Nat) : Int) from rfl, e, obind_some]
    rfl
  · rw [d_nlt (by omega), cond_false, List.take_of_length_le (by omega)]
theorem roftext_ok {t : List UInt8} (hl : t.length ≤ 1000000000) : m_telltaleref04_OfText t = some (GValue.mk 4 0 0 (t.take 24)) := by
  unfold m_telltaleref04_OfText
  have e := cut_ok (l := t) (a := 0) (b := min t.length 24) (by omega) (by omega)
  rw [Int.natCast_zero] at e
  rw [show min ((t.length : Nat) : Int) 24 = ((min t.length 24 : Nat) : Int) by omega, e, obind_some, List.drop_zero, Nat.sub_zero]
  congr 2
  by_cases h : t.length ≤ 24
  · rw [Nat.min_eq_left h, List.take_of_length_le (Nat.le_refl _), List.take_of_length_le h]
  · rw [Nat.min_eq_right (by omega)]
theorem main_ValueMakes (n u : Int) (t : List UInt8) (hn : -9223372036854775808 ≤ n ∧ n ≤ 9223372036854775807) (hu : 0 ≤ u ∧ u ≤ 18446744073709551615) (ht : t.length ≤ maxLen) : m_telltalelaw04_ValueMakes n u t = some true := by
  unfold m_telltalelaw04_ValueMakes
  rw [awk04]
  by_cases h : 100 < t.length
  · rw [d_lt (by omega)]; rfl
  · rw [d_nlt (by omega), cond_false]
    have e1 : m_telltaleref04_OfInt n = m_value_OfInt n := by
      unfold m_telltaleref04_OfInt m_value_OfInt
      rw [Int.min_comm]
    have hfl : ∀ b, m_telltaleref04_OfFlag b = m_value_OfFlag b := fun b => rfl
    have hfs : ∀ b, ∃ v, m_value_OfFlag b = some v ∧ m_value_Check v = some 0 := fun b => by
      cases b
      · exact ⟨_, rfl, by decide +kernel⟩
      · exact ⟨_, rfl, by decide +kernel⟩
    obtain ⟨v, f1, f2⟩ := hfs (decide (Int.tmod n 2 = 0))
    have hc := clean_u hu
    rw [e1, hfl, f1, show m_value_OfInt n = some (GValue.mk 1 (max (-4611686018427387904) (min n 4611686018427387904)) 0 []) from rfl]
    rw [show m_value_OfReal u = some (GValue.mk 3 0 (clean u) []) by unfold m_value_OfReal; rw [clean_ok hu]; rfl]
    rw [show m_telltaleref04_OfReal u = some (GValue.mk 3 0 (clean u) []) by unfold m_telltaleref04_OfReal; rw [rclean_ok hu]; rfl]
    rw [oftext_ok (by omega), roftext_ok (by omega)]
    simp only [obind_some]
    rw [f2, check_ok (v := GValue.mk 1 (max (-4611686018427387904) (min n 4611686018427387904)) 0 []) (show u64B 0 from ⟨by decide, by decide⟩), check_ok (v := GValue.mk 3 0 (clean u) []) hc, check_ok (v := GValue.mk 4 0 0 (t.take 24)) (show u64B 0 from ⟨by decide, by decide⟩)]
    rw [show chkV (GValue.mk 1 (max (-4611686018427387904) (min n 4611686018427387904)) 0 []) = 0 by
      unfold chkV
      simp only
      rw [if_pos (by decide), if_neg (by omega), if_pos (by simp)]]
    rw [show chkV (GValue.mk 3 0 (clean u) []) = 0 by
      unfold chkV
      simp only [clean_clean]
      simp]
    rw [show chkV (GValue.mk 4 0 0 (t.take 24)) = 0 by
      unfold chkV
      have : (t.take 24).length ≤ 24 := by simp [List.length_take]; omega
      simp only
      rw [if_neg (by decide), if_neg (by decide), if_neg (by decide), if_pos (by decide), if_neg (by omega), if_pos (by simp)]]
    have hw : ∀ k, ∃ w, m_value_Word k = some w ∧ m_telltaleref04_Word k = some w := fun k => by
      unfold m_value_Word m_telltaleref04_Word
      cases decide (((k.toNat : Nat) : Int) = 1) <;> cases decide (((k.toNat : Nat) : Int) = 2) <;> cases decide (((k.toNat : Nat) : Int) = 3) <;> cases decide (((k.toNat : Nat) : Int) = 4) <;> exact ⟨_, rfl, rfl⟩
    obtain ⟨w, w1, w2⟩ := hw (toU8 u)
    rw [w1, w2]
    simp [obind_some]
end Go.Proofs.Ytgocnknbiipcfaa.K
