/- Events as the laws lay them: plain. -/
import Derived.Test.YtanahlngkociaaaLM
import Derived.Test.YtanahlngkociaaaLp
namespace Go.Proofs.Ytanahlngkociaaa.K
open Go.RowKit Go.Lib
set_option linter.unusedVariables false
set_option linter.unusedSimpArgs false
theorem vals_ok {l : List GValue} (hl : l.length ≤ 400000000) : m_telltalelaw06_Vals l = some l := by
  have := map_loop (L := fun fu s i => m_telltalelaw06_Vals_l0 l fu s i) (l := l) (f := id) (e := id) hl (fun fu s => by unfold m_telltalelaw06_Vals_l0; rw [d_nlt (by omega)]; rfl)
    (fun fu s i h hs => by
      conv => lhs; unfold m_telltalelaw06_Vals_l0
      rw [d_lt (by omega), cond_true, geti_lt h, obind_some, app_ok (by simp; omega), obind_some, inc_ok (by omega)]; rfl)
  rw [List.map_id] at this; exact this
theorem own_ok {e : GEvent} (h : e.Vals.length ≤ 400000000) : m_telltalelaw07_Own e = some e := by unfold m_telltalelaw07_Own; rw [vals_ok h]; rfl
theorem back_ok {e : GEvent} (h : e.Vals.length ≤ 400000000) : m_telltalelaw07_Back e = some e := by
  have := map_loop (L := fun fu s i => m_telltalelaw07_Back_l0 e fu s i) (l := e.Vals) (f := id) (e := fun s => GEvent.mk e.Time e.Source e.Seq e.Type_ s) h (fun fu s => by unfold m_telltalelaw07_Back_l0; rw [d_nlt (by omega)]; rfl)
    (fun fu s i h hs => by
      conv => lhs; unfold m_telltalelaw07_Back_l0
      rw [d_lt (by omega), cond_true, geti_lt h, obind_some, app_ok (by simp; omega), obind_some, inc_ok (by omega)]; rfl)
  rw [List.map_id] at this; exact this
/-- Short enough. -/
def evB (e : GEvent) : Prop := e.Type_.length ≤ 40 ∧ e.Vals.length ≤ 12 ∧ ∀ v ∈ e.Vals, v.Text.length ≤ 100
theorem small_ok {v : GValue} (h : v.Text.length ≤ maxLen) : m_telltalelaw04_Small v = some (max 0 ((v.Text.length : Int) - 100)) := by
  unfold m_telltalelaw04_Small
  have := maxLen_le h
  rw [w64 (by omega) (by omega)]
/-- Lengths that memory allows. -/
def evM (e : GEvent) : Prop := e.Type_.length ≤ maxLen ∧ e.Vals.length ≤ maxLen ∧ ∀ v ∈ e.Vals, v.Text.length ≤ maxLen
theorem over_ok {l : List GEvent} {k : Int} (hk : k ≤ 1000000) (hm : ∀ e ∈ l, evM e) : ∃ r, m_telltalelaw07_Over l k = some r ∧ (r = 1 ∨ r = 0 ∧ (l.length : Int) ≤ k ∧ ∀ e ∈ l, evB e) := by
  unfold m_telltalelaw07_Over
  by_cases h : k < (l.length : Int)
  · rw [d_lt h]; exact ⟨1, rfl, .inl rfl⟩
  · rw [d_nlt h, cond_false]
    have := loop1_0 (L := fun fu i => m_telltalelaw07_Over_l1 l fu i) (n := l.length) (P := fun i o => ∃ r, o = some r ∧ (r = 1 ∨ r = 0 ∧ ∀ e ∈ l.drop i, evB e)) (by omega)
      (fun fu => by unfold m_telltalelaw07_Over_l1; rw [d_nlt (by omega)]; exact ⟨0, rfl, .inr ⟨rfl, by simp⟩⟩)
      (fun fu i hi ih => by
        have hmi := hm l[i] (List.getElem_mem hi)
        have h1 := maxLen_le hmi.1
        have h2 := maxLen_le hmi.2.1
        unfold m_telltalelaw07_Over_l1
        rw [d_lt (by omega), cond_true, geti_lt hi, obind_some]
        by_cases ht : 40 < l[i].Type_.length
        · rw [d_lt (by omega)]; exact ⟨1, rfl, .inl rfl⟩
        · rw [d_nlt (by omega), cond_false, obind_some]
          by_cases hv : 12 < l[i].Vals.length
          · rw [d_lt (by omega)]; exact ⟨1, rfl, .inl rfl⟩
          · rw [d_nlt (by omega), cond_false]
            have := loop1_0 (L := fun fu2 j => m_telltalelaw07_Over_l4 l (i : Int) (fun y5_1 => m_telltalelaw07_Over_l1 l fu y5_1) fu2 j) (n := l[i].Vals.length) (P := fun j o => (∀ v ∈ l[i].Vals.take j, v.Text.length ≤ 100) → ∃ r, o = some r ∧ (r = 1 ∨ r = 0 ∧ ∀ e ∈ l.drop i, evB e)) (by omega)
              (fun fu2 hj => by
                unfold m_telltalelaw07_Over_l4
                rw [geti_lt hi, obind_some, d_nlt (by omega), cond_false, inc_ok (by omega)]
                obtain ⟨r, e, q⟩ := ih
                refine ⟨r, e, q.imp id fun ⟨q1, q2⟩ => ⟨q1, ?_⟩⟩
                rw [drop_cons hi]
                intro e he
                rcases List.mem_cons.1 he with rfl | he
                · exact ⟨by omega, by omega, by rw [List.take_of_length_le (Nat.le_refl _)] at hj; exact hj⟩
                · exact q2 e he)
              (fun fu2 j hj ih2 hq => by
                unfold m_telltalelaw07_Over_l4
                have hvm := hmi.2.2 _ (List.getElem_mem hj)
                have hvl := maxLen_le hvm
                rw [geti_lt hi, obind_some, d_lt (by omega), cond_true, obind_some, geti_lt hj, obind_some, small_ok hvm, obind_some]
                by_cases hs : 100 < l[i].Vals[j].Text.length
                · rw [d_lt (by omega)]; exact ⟨1, rfl, .inl rfl⟩
                · rw [d_nlt (by omega), cond_false, inc_ok (by omega)]
                  refine ih2 fun v hv => ?_
                  rw [take_snoc hj] at hv
                  rcases List.mem_append.1 hv with hv | hv
                  · exact hq v hv
                  · simp only [List.mem_singleton] at hv; subst hv; omega)
            exact this (by simp))
    obtain ⟨r, e, q⟩ := this
    exact ⟨r, e, q.imp id fun ⟨q1, q2⟩ => ⟨q1, by omega, by simpa using q2⟩⟩
end Go.Proofs.Ytanahlngkociaaa.K
