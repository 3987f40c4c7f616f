/- BindMatches by models. -/
import Derived.Test.YtkagljfmfjaleaaPmat
namespace Go.Proofs.Ytkagljfmfjaleaa.K
open Go.RowKit Go.Lib
set_option linter.unusedVariables false
set_option linter.unusedSimpArgs false
theorem psame_ok {a b : GPair} (ha : a.E.Vals.length ≤ 1000) (hb : b.E.Vals.length ≤ 1000) : m_bind_Same_1 a b = some (decide (a = b)) := by
  unfold m_bind_Same_1
  by_cases h : a.Var = b.Var
  · rw [decide_eq_true h, cond_true, esame_ok (by omega) (by omega), obind_some]
    congr 1
    exact decide_eq_decide.2 ⟨fun e => pEq h e, fun e => by rw [e]⟩
  · rw [decide_eq_false h, cond_false, decide_eq_false (fun e : a = b => h (by rw [e]))]
theorem same19_ok {a b : GMatch} (ha : pvB a.Bound) (hb : pvB b.Bound) : m_bind_Same a b = some (decide (a = b)) := by
  unfold m_bind_Same
  by_cases h1 : a.Pattern = b.Pattern
  · rw [decide_eq_true h1, cond_true]
    by_cases h2 : a.Key = b.Key
    · rw [decide_eq_true h2, cond_true]
      unfold m_slices_EqualFunc_Pairbind_Pair_bind_Pair_bind_Pair__bind_Same_1
      by_cases h5 : a.Bound.length = b.Bound.length
      · rw [decide_eq_false (by simp [h5]), cond_false]
        have := eq_loop (L := fun fu i => m_slices_EqualFunc_Pairbind_Pair_bind_Pair_bind_Pair__bind_Same_1_l2 a.Bound b.Bound fu i) (a := a.Bound) (b := b.Bound) h5 (by have := ha.1; omega)
          (fun fu => by unfold m_slices_EqualFunc_Pairbind_Pair_bind_Pair_bind_Pair__bind_Same_1_l2; rw [d_nlt (by omega)]; rfl)
          (fun fu i i1 i2 => by
            have v1 := ha.2 _ (List.getElem_mem i1)
            have v2 := hb.2 _ (List.getElem_mem i2)
            conv => lhs; unfold m_slices_EqualFunc_Pairbind_Pair_bind_Pair_bind_Pair__bind_Same_1_l2
            rw [d_lt (by omega), cond_true, geti_lt i1, obind_some, geti_lt i2, obind_some, psame_ok v1 v2, obind_some, inc_ok (by have := ha.1; omega)]
            by_cases h : a.Bound[i] = b.Bound[i]
            · rw [decide_eq_true h, if_pos h]; rfl
            · rw [decide_eq_false h, if_neg h]; rfl)
        rw [show m_slices_EqualFunc_Pairbind_Pair_bind_Pair_bind_Pair__bind_Same_1_l2 a.Bound b.Bound 1152921504606846976 0 = some (decide (a.Bound = b.Bound)) from this, obind_some]
        congr 1
        exact decide_eq_decide.2 ⟨fun h => mEq h1 h2 h, fun h => by rw [h]⟩
      · rw [decide_eq_true (by omega), decide_eq_false (fun h : a = b => h5 (by rw [h]))]; rfl
    · rw [decide_eq_false h2, decide_eq_false (fun h : a = b => h2 (by rw [h]))]; rfl
  · rw [decide_eq_false h1, decide_eq_false (fun h : a = b => h1 (by rw [h]))]; rfl
theorem matches_l4 {l : List GMatch} {m : GMatch} (hl : l.length ≤ 12) (hw : ∀ x ∈ l, wf_GMatch x) (hm : mB m) (wm : wf_GMatch m) : m_telltalelaw19_BindMatches_l4 l m m 1152921504606846976 0 = some true := by
  refine loop1_0 (L := fun fu i => m_telltalelaw19_BindMatches_l4 l m m fu i) (n := l.length) (P := fun i o => (∀ x ∈ l.take i, mB x) → o = some true) (by omega) ?_ ?_ (by simp)
  · intro fu h
    rw [List.take_of_length_le (Nat.le_refl _)] at h
    have hb : ∀ x ∈ l, x.Bound.length ≤ 400000000 := fun x hx => by have := (h x hx).len; omega
    have hp : ∀ x ∈ (putM l m).1, mB x := fun x hx => (putM_mem hx).elim (h x) (fun e => by rw [e]; exact hm)
    have hlen : (putM l m).1.length ≤ 13 := by rw [putM_len]; split <;> omega
    unfold m_telltalelaw19_BindMatches_l4
    rw [d_nlt (by omega), cond_false, all19_ok (by omega) h, obind_some, put19_ok (by omega) hb, obind_some, rput19_ok (by omega) (by have := hm.len; omega) hb, obind_some, ident_ok (wf_mi wm hm), obind_some, rident_ok (wf_mi wm hm), obind_some,
      decide_eq_true rfl, cond_true, decide_eq_true rfl, cond_true, backAll19_ok (by omega) hp, obind_some, sameAll19_ok (by omega) hp hp, obind_some, decide_eq_true rfl, cond_true, backAll19_ok (by omega) h, obind_some, sameAll19_ok (by omega) h h, obind_some, decide_eq_true rfl, cond_true, awake_ok]; rfl
  · intro fu i hi ih h
    have hwi := hw _ (List.getElem_mem hi)
    obtain ⟨r, e, q⟩ := over19_ok hwi
    unfold m_telltalelaw19_BindMatches_l4
    rw [d_lt (by omega), cond_true, geti_lt hi, obind_some, e, obind_some]
    rcases q with rfl | ⟨rfl, q⟩
    · rw [d_lt (by decide), cond_true, awake_ok]; rfl
    · have h1 := q.len
      have h2 := hm.len
      rw [d_nlt (by decide), cond_false, obind_some, own19_ok q, obind_some, before_ok _ _ (by omega), obind_some, obind_some, rbefore_ok _ _ (by omega) (by omega), obind_some, decide_eq_false (by simp), cond_false,
        same19_ok q.2.pv hm.2.pv, obind_some, obind_some, rsame19_ok q.2.pv hm.2.pv, obind_some, decide_eq_false (by simp), cond_false, inc_ok (by omega)]
      exact ih (take_all hi h q)
theorem main_BindMatches (l : List GMatch) (m : GMatch) (hl : wfL wf_GMatch l) (hm : wf_GMatch m) : m_telltalelaw19_BindMatches l m = some true := by
  unfold m_telltalelaw19_BindMatches
  have hn := maxLen_le hl.1
  by_cases h : 12 < l.length
  · rw [d_lt (by omega), cond_true, awake_ok]; rfl
  · rw [d_nlt (by omega), cond_false]
    obtain ⟨r, e, q⟩ := over19_ok hm
    rw [e, obind_some]
    rcases q with rfl | ⟨rfl, q⟩
    · rw [d_lt (by decide), cond_true, awake_ok]; rfl
    · rw [d_nlt (by decide), cond_false, own19_ok q, obind_some, matches_l4 (by omega) hl.2 q hm]
end Go.Proofs.Ytkagljfmfjaleaa.K
