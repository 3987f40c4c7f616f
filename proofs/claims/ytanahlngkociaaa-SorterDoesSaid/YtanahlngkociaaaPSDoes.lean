/- SorterDoes: plain. -/
import Derived.Test.YtanahlngkociaaaPSput
namespace Go.Proofs.Ytanahlngkociaaa.K
open Go.RowKit Go.Lib
set_option linter.unusedVariables false
set_option linter.unusedSimpArgs false
theorem new_both (c : Int) : ∃ s k, m_sorter_New c = some (s, k) ∧ m_telltaleref24_New c = some (s, k) ∧ s.L = [] := by
  unfold m_sorter_New m_telltaleref24_New
  by_cases h1 : c < 1
  · rw [decide_eq_true h1]; exact ⟨_, _, rfl, rfl, rfl⟩
  · rw [decide_eq_false h1]
    by_cases h2 : 4096 < c
    · rw [decide_eq_true h2]; exact ⟨_, _, rfl, rfl, rfl⟩
    · rw [decide_eq_false h2]; exact ⟨_, _, rfl, rfl, rfl⟩
theorem before_mem {t : Int} {l : List GEvent} {e : GEvent} (h : e ∈ before t l) : e ∈ l := (List.mem_filter.1 h).1
theorem after_mem {t : Int} {l : List GEvent} {e : GEvent} (h : e ∈ after t l) : e ∈ l := (List.mem_filter.1 h).1
theorem does_j14 {h l : List GEvent} (r : Rel h l) (i : Nat) (c : Int) (k : GSorter → GSorter → Int → Option Bool) (hi : i < 1000000) : m_telltalelaw24_SorterDoes_j14 (i : Int) k (GSorter.mk c h) c l = k (GSorter.mk c h) (GSorter.mk c l) ((i + 1 : Nat) : Int) := by
  unfold m_telltalelaw24_SorterDoes_j14
  have pl := r.perm.length_eq
  rw [pleast (s := GSorter.mk c h) r, obind_some, rleast, obind_some]
  simp only
  rw [decide_eq_false (by omega), cond_false, decide_eq_false (by simp), cond_false, decide_eq_false (by simp), cond_false, decide_eq_false (by simp), cond_false, inc_ok (by omega)]
theorem main_SorterDoes (c : Int) (l : List GOp) (hc : -9223372036854775808 ≤ c ∧ c ≤ 9223372036854775807) (w : wfL wf_GOp l) : m_telltalelaw24_SorterDoes c l = some true := by
  unfold m_telltalelaw24_SorterDoes
  rw [awk24]
  by_cases h : 20 < l.length
  · rw [d_lt (by omega)]; rfl
  · rw [d_nlt (by omega), cond_false]
    obtain ⟨s, k, e1, e2, e3⟩ := new_both c
    rw [e1, obind_some, e2, obind_some, decide_eq_false (by simp), cond_false]
    have := loopG_0 (L := fun fu (s : GSorter × GSorter) i => m_telltalelaw24_SorterDoes_l4 l fu s.1 s.2 i) (n := l.length)
      (P := fun i s o => s.1.Cap = s.2.Cap → Rel s.1.L s.2.L → s.2.L.length ≤ i → (∀ e ∈ s.2.L, evB e) → o = some true) (by omega)
      (fun fu s h1 h2 h3 h4 => by
        unfold m_telltalelaw24_SorterDoes_l4
        rw [d_nlt (by omega), cond_false, awk24]; rfl)
      (fun fu s i hi ih h1 h2 h3 h4 => by
        obtain ⟨⟨c1, h⟩, ⟨c2, r⟩⟩ := s
        simp only at h1 h2 h3 h4 ⊢
        subst h1
        have pl := h2.perm.length_eq
        have hw := w.2 _ (List.getElem_mem hi)
        unfold m_telltalelaw24_SorterDoes_l4
        obtain ⟨n, e, hq⟩ := over_ok (l := [l[i].E]) (k := 1) (by decide) (by simpa using wf_evM24 hw.E)
        rw [d_lt (by omega), cond_true, geti_lt hi, obind_some, e, obind_some]
        rcases hq with rfl | ⟨rfl, _, hq⟩
        · rw [d_lt (by decide), cond_true, awk24]; rfl
        · have hev : evB l[i].E := hq _ (by simp)
          have hvl := hev.2.1
          rw [d_nlt (by decide), cond_false, obind_some]
          cases l[i].Let with
          | true =>
            rw [cond_true, obind_some]
            obtain ⟨h', f1, f2⟩ := prel (s := GSorter.mk c1 h) (t := l[i].At) (l := r) (by omega) h2
            have hbl : (before l[i].At r).length ≤ r.length := List.length_filter_le _ _
            have hal : (after l[i].At r).length ≤ r.length := List.length_filter_le _ _
            rw [f1, obind_some, obind_some, rrel (by simp only; omega), obind_some]
            simp only
            rw [backAll_ok (by omega) (fun e he => h4 e (before_mem he)), obind_some, sameAll_self (by omega) (fun e he => h4 e (before_mem he)), obind_some, Bool.not_true, cond_false, does_j14 f2 i _ _ (by omega)]
            exact ih (_, _) rfl f2 (by simp only; omega) (fun e he => h4 e (after_mem he))
          | false =>
            rw [cond_false, obind_some, own_ok (by omega), obind_some, pput (by simp only; omega), obind_some, obind_some, rput (by simp only; omega), obind_some]
            simp only
            unfold putA
            rw [h2.any]
            by_cases q : (r.any (sid · l[i].E)) = true
            · rw [if_pos q, if_pos q, decide_eq_false (by simp), cond_false, does_j14 h2 i _ _ (by omega)]
              exact ih (_, _) rfl h2 (by simp only; omega) h4
            · rw [if_neg q, if_neg q, pl]
              by_cases q2 : c1 ≤ (r.length : Int)
              · rw [if_pos q2, if_pos q2, decide_eq_false (by simp), cond_false, does_j14 h2 i _ _ (by omega)]
                exact ih (_, _) rfl h2 (by simp only; omega) h4
              · have hr := h2.push (Bool.eq_false_iff.2 q)
                rw [if_neg q2, if_neg q2, decide_eq_false (by simp), cond_false, does_j14 hr i _ _ (by omega)]
                have hl2 := (ins_perm l[i].E r).length_eq
                refine ih (_, _) rfl hr (by simp only; simp only [List.length_cons] at hl2; omega) (fun e he => ?_)
                rcases List.mem_cons.1 ((ins_perm l[i].E r).mem_iff.1 he) with rfl | he
                · exact hev
                · exact h4 e he)
      (s, s) rfl (by simp only [e3]; exact rel_nil) (by simp [e3]) (by simp [e3])
    exact this
end Go.Proofs.Ytanahlngkociaaa.K
