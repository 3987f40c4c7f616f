/- FrontTells: plain. -/
import Derived.Test.YthcilaomjkaciaaPfrp
import Derived.Test.YthcilaomjkaciaaPtat
import Derived.Test.YthcilaomjkaciaaPtlo
namespace Go.Proofs.Ythcilaomjkaciaa.K
open Go.RowKit Go.Lib
set_option linter.unusedVariables false
set_option linter.unusedSimpArgs false
theorem awk27 : m_telltalelaw27_awake = some true := by decide +kernel
theorem rleads_ok (a b : Int) : m_telltaleref27_Leads a b = some (leads a b) := by
  unfold m_telltaleref27_Leads leads
  by_cases h1 : 0 ≤ a
  · by_cases h2 : a ≤ b
    · rw [decide_eq_true h1, decide_eq_true h2]; rfl
    · rw [decide_eq_true h1, decide_eq_false h2]; rfl
  · rw [decide_eq_false h1]; rfl
theorem rof_ok {l : List GChange} (h : small l) (loc : Int) : m_telltaleref27_Of l loc = some (frn l loc) := by
  unfold m_telltaleref27_Of
  have hs := h.1
  have key := loopG_0 (L := fun fu s i => m_telltaleref27_Of_l0 l loc fu s i) (n := l.length) (P := fun i s o => o = some (max 0 (fmin (there l loc) (l.drop i) s))) (by omega)
    (fun fu s => by unfold m_telltaleref27_Of_l0; rw [d_nlt (by omega), cond_false]; simp [fmin])
    (fun fu s i hi ih => by
      unfold m_telltaleref27_Of_l0
      rw [d_lt (by omega), cond_true, geti_lt hi, obind_some, drop_cons hi, rleads_ok, obind_some, inc_ok (by omega)]
      unfold fmin
      by_cases h2 : leads l[i].Loc loc = true
      · rw [h2, cond_true, obind_some, obind_some, rat_ok h, obind_some]
        by_cases h1 : 0 < atp l l[i].Loc l[i].Time
        · rw [d_lt h1, cond_true, obind_some, ih, if_pos (by unfold there; rw [h2, decide_eq_true h1]; rfl)]
        · rw [d_nlt h1, cond_false, ih, if_neg (by unfold there; rw [h2, decide_eq_false h1]; simp)]
      · have h2 : leads l[i].Loc loc = false := by simpa using h2
        rw [h2, cond_false, ih, if_neg (by unfold there; rw [h2]; simp)]) 1099511627777
  rw [key, List.drop_zero]; rfl
theorem rall_ok {l : List GChange} (h : small l) : m_telltaleref27_All l = some (frnAll l) := by
  unfold m_telltaleref27_All
  show m_telltaleref27_All_l0 l (1152921504606846971 + 1 + 1 + 1 + 1 + 1) _ 0 = _
  have e1 : IntKind.i64.wrap (0 + 1) = 1 := w64 (by omega) (by omega)
  have e2 : IntKind.i64.wrap (1 + 1) = 2 := w64 (by omega) (by omega)
  have e3 : IntKind.i64.wrap (2 + 1) = 3 := w64 (by omega) (by omega)
  have e4 : IntKind.i64.wrap (3 + 1) = 4 := w64 (by omega) (by omega)
  unfold m_telltaleref27_All_l0
  rw [decide_eq_true (by omega), cond_true, rof_ok h, obind_some, decide_eq_true rfl, cond_true, e1]
  unfold m_telltaleref27_All_l0
  rw [decide_eq_true (by omega), cond_true, rof_ok h, obind_some, decide_eq_false (by omega), cond_false, decide_eq_true rfl, cond_true, e2]
  unfold m_telltaleref27_All_l0
  rw [decide_eq_true (by omega), cond_true, rof_ok h, obind_some, decide_eq_false (by omega), cond_false, decide_eq_false (by omega), cond_false, decide_eq_true rfl, cond_true, e3]
  unfold m_telltaleref27_All_l0
  rw [decide_eq_true (by omega), cond_true, rof_ok h, obind_some, decide_eq_false (by omega), cond_false, decide_eq_false (by omega), cond_false, decide_eq_false (by omega), cond_false, decide_eq_true rfl, cond_true, e4]
  unfold m_telltaleref27_All_l0
  rw [decide_eq_false (by omega), cond_false]; rfl
theorem rdrops_ok {a b : List GChange} (ha : small a) (hb : small b) : m_telltaleref27_Drops a b = some (dropsB a b) := by
  unfold m_telltaleref27_Drops
  show m_telltaleref27_Drops_l0 _ _ (1152921504606846971 + 1 + 1 + 1 + 1 + 1) 0 = _
  have e1 : IntKind.i64.wrap (0 + 1) = 1 := w64 (by omega) (by omega)
  have e2 : IntKind.i64.wrap (1 + 1) = 2 := w64 (by omega) (by omega)
  have e3 : IntKind.i64.wrap (2 + 1) = 3 := w64 (by omega) (by omega)
  have e4 : IntKind.i64.wrap (3 + 1) = 4 := w64 (by omega) (by omega)
  have step : ∀ (c : Bool) (x y : Option Bool) (d : Bool), x = some true → y = some d → cond c x y = some (c || d) := fun c x y d hx hy => by cases c <;> simp [hx, hy]
  unfold dropsB
  unfold m_telltaleref27_Drops_l0
  rw [decide_eq_true (by omega), cond_true, rof_ok hb, obind_some, rof_ok ha, obind_some]
  refine step _ _ _ _ rfl ?_
  rw [e1]
  unfold m_telltaleref27_Drops_l0
  rw [decide_eq_true (by omega), cond_true, rof_ok hb, obind_some, rof_ok ha, obind_some]
  refine step _ _ _ _ rfl ?_
  rw [e2]
  unfold m_telltaleref27_Drops_l0
  rw [decide_eq_true (by omega), cond_true, rof_ok hb, obind_some, rof_ok ha, obind_some]
  refine step _ _ _ _ rfl ?_
  rw [e3]
  unfold m_telltaleref27_Drops_l0
  rw [decide_eq_true (by omega), cond_true, rof_ok hb, obind_some, rof_ok ha, obind_some]
  have := step (decide (frn b 3 < frn a 3)) (some true) (m_telltaleref27_Drops_l0 a b 1152921504606846972 (IntKind.i64.wrap (3 + 1))) false rfl (by
    rw [e4]
    show m_telltaleref27_Drops_l0 _ _ (1152921504606846971 + 1) 4 = _
    unfold m_telltaleref27_Drops_l0
    rw [decide_eq_false (by omega), cond_false])
  rw [Bool.or_false] at this
  exact this
theorem main_FrontTells (p0 : GArr2_List_GChange) (p1 : GArr2_Int) (p2 : Int) (h0 : wf_GArr2_List_GChange p0) (h1 : wf_GArr2_Int p1) (h2 : -9223372036854775808 ≤ p2 ∧ p2 ≤ 9223372036854775807) : m_telltalelaw27_FrontTells p0 p1 p2 = some true := by
  unfold m_telltalelaw27_FrontTells
  obtain ⟨r, e, q⟩ := tover_ok h0.a0.1
  rw [e, obind_some]
  rcases q with rfl | ⟨rfl, l0, b0⟩
  · rw [decide_eq_true (by omega), cond_true, awk27]; rfl
  · rw [decide_eq_false (by omega), cond_false]
    obtain ⟨r, e, q⟩ := tover_ok h0.a1.1
    rw [e, obind_some]
    rcases q with rfl | ⟨rfl, l1, b1⟩
    · rw [decide_eq_true (by omega), cond_true, awk27]; rfl
    · have sa := half_small (ch_half l0 b0)
      have sb := half_small (ch_half l1 b1)
      rw [decide_eq_false (by omega), cond_false, town_ok (by omega), obind_some, town_ok (by omega), obind_some, of_ok sa, obind_some, rof_ok sa, obind_some, decide_eq_true rfl, cond_true, all_ok sa, obind_some, rall_ok sa, obind_some]
      simp only [obind_some, decide_true, Bool.and_self, cond_true]
      rw [passed_ok sa, obind_some, decide_eq_true rfl, cond_true, drops_ok sa sb, obind_some, rdrops_ok sa sb, obind_some, decide_eq_true rfl, cond_true, leads_ok, obind_some, rleads_ok, obind_some, decide_eq_true rfl, cond_true, awk27]; rfl
end Go.Proofs.Ythcilaomjkaciaa.K
