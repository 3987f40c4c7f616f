/- TallyAdds: plain. -/
import Derived.Test.YtkpfagmlohcdjaaPtlo
import Derived.Test.YtkpfagmlohcdjaaPtan
import Derived.Test.YtkpfagmlohcdjaaPtrn
import Derived.Test.YtkpfagmlohcdjaaPtsame
import Derived.Test.YtkpfagmlohcdjaaPtat2
namespace Go.Proofs.Ytkpfagmlohcdjaa.K
open Go.RowKit Go.Lib
set_option linter.unusedVariables false
set_option linter.unusedSimpArgs false
theorem awk26 : m_telltalelaw26_awake = some true := by decide +kernel
theorem tback_ok {l : List GChange} (hl : l.length ≤ 100000000) : m_telltalelaw26_Back l = some l := by
  have := map_loop (L := fun fu s i => m_telltalelaw26_Back_l0 l fu s i) (l := l) (f := id) (e := id) (by omega) (fun fu s => by unfold m_telltalelaw26_Back_l0; rw [d_nlt (by omega)]; rfl)
    (fun fu s i h hs => by
      conv => lhs; unfold m_telltalelaw26_Back_l0
      rw [d_lt (by omega), cond_true, geti_lt h, obind_some, app_ok (by simp; omega), obind_some, inc_ok (by omega)]; rfl)
  rw [List.map_id] at this; exact this
theorem rsame_ok {a b : List GChange} (ha : a.length ≤ 1000000000) (hb : b.length ≤ 1000000000) : m_telltaleref26_Same a b = some (decide (a = b)) := by
  unfold m_telltaleref26_Same
  by_cases hl : a.length = b.length
  · rw [decide_eq_false (by omega), cond_false, eq_loop (L := fun fu i => m_telltaleref26_Same_l1 a b fu i) hl ha (fun fu => by unfold m_telltaleref26_Same_l1; rw [d_nlt (by omega), cond_false]) (fun fu i h1 h2 => by
      conv => lhs; unfold m_telltaleref26_Same_l1
      rw [d_lt (by omega), cond_true, geti_lt h1, obind_some, geti_lt h2, obind_some, obind_some, ch_eq, inc_ok (by omega)]
      by_cases h : a[i] = b[i]
      · rw [decide_eq_true h, if_pos h]; rfl
      · rw [decide_eq_false h, if_neg h]; rfl)]
  · rw [decide_eq_true (by omega), cond_true, decide_eq_false (fun e => hl (by rw [e]))]
theorem rmerge_ok {a b : List GChange} (h : small (a ++ b)) : m_telltaleref26_Merge a b = some (nrm (a ++ b)) := by
  have hl := h.1
  rw [List.length_append] at hl
  unfold m_telltaleref26_Merge
  rw [app_ok (by simp; omega), obind_some, app_ok (by simp; omega), obind_some, List.nil_append, rnormal_ok h, obind_some]
theorem rneg_ok {l : List GChange} (h : small l) : m_telltaleref26_Neg l = some (nrm (negl l)) := by
  have hl := h.1
  have ha := h.2
  unfold m_telltaleref26_Neg
  have hN : ∀ x ∈ l, IntKind.i64.wrap (0 - x.N) = -x.N := fun x hx => by have := absum_mem hx; rw [w64 (by omega) (by omega)]; omega
  have := loopG_0 (L := fun fu s i => m_telltaleref26_Neg_l0 l fu s i) (n := l.length) (P := fun i s o => s.length = i → s ++ negl (l.drop i) = negl l → o = some (nrm (negl l))) (by omega)
    (fun fu s hs e => by
      unfold m_telltaleref26_Neg_l0
      simp [negl] at e
      rw [d_nlt (by omega), cond_false, e]
      have := rnormal_ok (negl_small h)
      unfold negl at this
      rw [this, obind_some]; rfl)
    (fun fu s i hi ih hs e => by
      unfold m_telltaleref26_Neg_l0
      rw [d_lt (by omega), cond_true, geti_lt hi, obind_some, obind_some, obind_some, hN _ (List.getElem_mem hi), app_ok (by simp; omega), obind_some, inc_ok (by omega)]
      refine ih _ (by simp; omega) ?_
      rw [drop_cons hi] at e
      simp only [negl, List.map_cons, List.append_assoc, List.singleton_append] at e ⊢
      exact e) []
  exact this rfl rfl
theorem main_TallyAdds (p0 p1 : List GChange) (p2 : GChange) (h0 : wfL wf_GChange p0) (h1 : wfL wf_GChange p1) (h2 : wf_GChange p2) : m_telltalelaw26_TallyAdds p0 p1 p2 = some true := by
  have aw : m_telltalelaw26_TallyAdds_j1 = some true := by unfold m_telltalelaw26_TallyAdds_j1; rw [awk26]; rfl
  unfold m_telltalelaw26_TallyAdds
  rw [aw, awk26]
  obtain ⟨r, e, q⟩ := tover_ok h0.1
  rw [e, obind_some]
  rcases q with rfl | ⟨rfl, l0, b0⟩
  · rw [decide_eq_true (by omega), cond_true]
  rw [decide_eq_false (by omega), cond_false]
  obtain ⟨r, e, q⟩ := tover_ok h1.1
  rw [e, obind_some]
  rcases q with rfl | ⟨rfl, l1, b1⟩
  · rw [decide_eq_true (by omega), cond_true]
  rw [decide_eq_false (by omega), cond_false]
  obtain ⟨r, e, q⟩ := tover_ok (l := [p2]) (by simp [maxLen])
  rw [e, obind_some]
  rcases q with rfl | ⟨rfl, _, b2⟩
  · rw [decide_eq_true (by omega), cond_true]; rfl
  rw [decide_eq_false (by omega), cond_false]
  have ca := ch_half l0 b0
  have cb := ch_half l1 b1
  have cc := ch_half (l := [p2]) (by simp) b2
  have sa := half_small ca
  have sb := half_small cb
  have sab := small_app ca cb
  have sac := small_app ca cc
  have ln := nrm_len p0
  have lnn := nrm_len (negl p0)
  have lab := nrm_len (p0 ++ p1)
  have lac := nrm_len (p0 ++ [p2])
  have ll : (negl p0).length = p0.length := by simp [negl]
  simp only [List.length_append, List.length_singleton] at lab lac
  rw [town_ok (by omega), obind_some, town_ok (by omega), obind_some, normal_ok sa, obind_some, tback_ok (by omega), obind_some, rnormal_ok sa, obind_some, rsame_ok (by omega) (by omega), obind_some, decide_eq_true rfl, Bool.not_true, cond_false,
    merge_ok sab, obind_some, tback_ok (by omega), obind_some, rmerge_ok sab, obind_some, rsame_ok (by omega) (by omega), obind_some, decide_eq_true rfl, Bool.not_true, cond_false,
    add_ok sac, obind_some, tback_ok (by omega), obind_some, rmerge_ok sac, obind_some, rsame_ok (by omega) (by omega), obind_some, decide_eq_true rfl, Bool.not_true, cond_false,
    neg_ok sa, obind_some, tback_ok (by omega), obind_some, rneg_ok sa, obind_some, rsame_ok (by omega) (by omega), obind_some, decide_eq_true rfl, Bool.not_true, cond_false,
    at_ok sa, obind_some, rat_ok sa, obind_some, decide_eq_true rfl, cond_true, tsame_ok (by omega) (by omega), obind_some, rsame_ok (by omega) (by omega), obind_some, decide_eq_true rfl, cond_true, tback_ok (by omega), obind_some, rsame_ok (by omega) (by omega), obind_some, decide_eq_true rfl, cond_true]
  rfl
end Go.Proofs.Ytkpfagmlohcdjaa.K
