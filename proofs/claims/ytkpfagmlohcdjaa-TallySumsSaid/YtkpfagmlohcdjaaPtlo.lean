/- Changes as the laws take them: plain. -/
import Derived.Test.YtkpfagmlohcdjaaPtal
import Derived.Test.YtkpfagmlohcdjaaLO
namespace Go.Proofs.Ytkpfagmlohcdjaa.K
open Go.RowKit Go.Lib
set_option linter.unusedVariables false
set_option linter.unusedSimpArgs false
def chB (x : GChange) : Prop := -1099511627776 ≤ x.N ∧ x.N ≤ 1099511627776
theorem tover_ok {l : List GChange} (hl : l.length ≤ maxLen) : ∃ r, m_telltalelaw26_Over l = some r ∧ (r = 1 ∨ r = 0 ∧ l.length ≤ 40 ∧ ∀ x ∈ l, chB x) := by
  unfold m_telltalelaw26_Over
  by_cases h : 40 < l.length
  · rw [d_lt (by omega), cond_true]; exact ⟨1, rfl, .inl rfl⟩
  · rw [d_nlt (by omega), cond_false]
    have := loop1_0 (L := fun fu i => m_telltalelaw26_Over_l1 l fu i) (n := l.length) (P := fun i o => ∃ r, o = some r ∧ (r = 1 ∨ r = 0 ∧ ∀ x ∈ l.drop i, chB x)) (by omega)
      (fun fu => by unfold m_telltalelaw26_Over_l1; rw [d_nlt (by omega), cond_false]; exact ⟨0, rfl, .inr ⟨rfl, by simp⟩⟩)
      (fun fu i hi ih => by
        unfold m_telltalelaw26_Over_l1
        rw [d_lt (by omega), cond_true, geti_lt hi, obind_some]
        by_cases h1 : l[i].N < -1099511627776
        · rw [d_lt h1, cond_true]; exact ⟨1, rfl, .inl rfl⟩
        · rw [d_nlt h1, cond_false, obind_some]
          by_cases h2 : 1099511627776 < l[i].N
          · rw [d_lt h2, cond_true]; exact ⟨1, rfl, .inl rfl⟩
          · rw [d_nlt h2, cond_false, inc_ok (by omega)]
            obtain ⟨r, e, q⟩ := ih
            refine ⟨r, e, q.imp id fun ⟨q1, q2⟩ => ⟨q1, fun x hx => ?_⟩⟩
            rw [drop_cons hi] at hx
            rcases List.mem_cons.1 hx with rfl | hx
            · exact ⟨by omega, by omega⟩
            · exact q2 x hx)
    obtain ⟨r, e, q⟩ := this
    exact ⟨r, e, q.imp id fun ⟨q1, q2⟩ => ⟨q1, by omega, by simpa using q2⟩⟩
theorem town_ok {l : List GChange} (hl : l.length ≤ 100000000) : m_telltalelaw26_Own l = some l := by
  have := map_loop (L := fun fu s i => m_telltalelaw26_Own_l0 l fu s i) (l := l) (f := id) (e := id) (by omega) (fun fu s => by unfold m_telltalelaw26_Own_l0; rw [d_nlt (by omega)]; rfl)
    (fun fu s i h hs => by
      conv => lhs; unfold m_telltalelaw26_Own_l0
      rw [d_lt (by omega), cond_true, geti_lt h, obind_some, app_ok (by simp; omega), obind_some, inc_ok (by omega)]; rfl)
  rw [List.map_id] at this; exact this
theorem chB_abs : ∀ {l : List GChange}, (∀ x ∈ l, chB x) → absum l ≤ l.length * 1099511627776
  | [], _ => by simp [absum]
  | x :: l, h => by
    have := chB_abs (l := l) fun y hy => h y (by simp [hy])
    obtain ⟨h1, h2⟩ := h x (by simp)
    simp only [absum, List.length_cons, Nat.add_mul]; omega
/-- What a law's changes are. -/
theorem ch_half {l : List GChange} (hl : l.length ≤ 40) (h : ∀ x ∈ l, chB x) : l.length ≤ 500000 ∧ absum l ≤ 576460752303423488 := by
  have := chB_abs h
  have : l.length * 1099511627776 ≤ 40 * 1099511627776 := Nat.mul_le_mul_right _ hl
  omega
theorem half_small {l : List GChange} (h : l.length ≤ 500000 ∧ absum l ≤ 576460752303423488) : small l := ⟨by omega, by omega⟩
end Go.Proofs.Ytkpfagmlohcdjaa.K
