/- PredVars by models. -/
import Derived.Test.YtkajfanpdabjcaaMpb
namespace Go.Proofs.Ytkajfanpdabjcaa.K
open Go.RowKit Go.Lib
set_option linter.unusedVariables false
set_option linter.unusedSimpArgs false
theorem vars_other {n : GNode_} {l : List GNode_} (h : nK n ≠ 8) : vars (n :: l) = vars l := by
  unfold vars; rw [List.filter_cons, if_neg (by simp [h])]
theorem vars_app (a b : List GNode_) : vars (a ++ b) = vars a ++ vars b := by unfold vars; rw [List.filter_append, List.map_append]
theorem fold_self {l : List Txt} (h : Rises l) : l.foldl (fun s x => insT x s) [] = l :=
  rises_eq (fold_rises List.Pairwise.nil) h fun x => by rw [fold_mem]; simp
theorem pv_l12 {b w : List Txt} (hb : b.length ≤ 1000) {s : List Txt} (hs : s.length ≤ 1000) (hw : w.length ≤ 1000) (h : b.foldl (fun s x => insT x s) s = w) : m_telltalelaw11_PredVars_l12 b w 1152921504606846976 s 0 = some true := by
  have := loopG_0 (L := fun fu s i => m_telltalelaw11_PredVars_l12 b w fu s i) (n := b.length) (P := fun i s o => s.length ≤ 1000 + i → (b.drop i).foldl (fun s x => insT x s) s = w → o = some true) (by omega)
    (fun fu s hs h => by
      show m_telltalelaw11_PredVars_l12 b w (fu + 1) s _ = _
      unfold m_telltalelaw11_PredVars_l12
      rw [List.drop_of_length_le (Nat.le_refl _)] at h
      rw [d_nlt (by omega), cond_false, stexts_ok (by omega) (by omega), obind_some, decide_eq_true (by exact h.symm), cond_true, awake_ok]; rfl)
    (fun fu s i hi ih hs h => by
      show m_telltalelaw11_PredVars_l12 b w (fu + 1) s _ = _
      unfold m_telltalelaw11_PredVars_l12
      have h1 := insT_len (x := b[i]) (l := s)
      rw [drop_cons hi, List.foldl_cons] at h
      rw [d_lt (by omega), cond_true, geti_lt hi, obind_some, into_ok (by omega), obind_some, inc_ok (by omega)]
      exact ih _ (by omega) h) s
  exact this (by omega) (by simpa using h)
theorem pv_l8 {a b w v : List Txt} (ha : a.length ≤ 100) (hb : b.length ≤ 100) (hw : w.length ≤ 1000) (hr : Rises a) (hv : v = a) (h : b.foldl (fun s x => insT x s) a = w) : m_telltalelaw11_PredVars_l8 a b w v 1152921504606846976 [] 0 = some true := by
  have := loopG_0 (L := fun fu s i => m_telltalelaw11_PredVars_l8 a b w v fu s i) (n := a.length) (P := fun i s o => s.length ≤ i → (a.drop i).foldl (fun s x => insT x s) s = a → o = some true) (by omega)
    (fun fu s hs h' => by
      show m_telltalelaw11_PredVars_l8 a b w v (fu + 1) s _ = _
      unfold m_telltalelaw11_PredVars_l8
      rw [List.drop_of_length_le (Nat.le_refl _)] at h'
      have h'' : s = a := h'
      subst h'' hv
      rw [d_nlt (by omega), cond_false, stexts_ok (by omega) (by omega), obind_some, decide_eq_true rfl, Bool.not_true, cond_false, obind_some, Bool.not_true, cond_false]
      exact pv_l12 (by omega) (by omega) hw h)
    (fun fu s i hi ih hs h' => by
      show m_telltalelaw11_PredVars_l8 a b w v (fu + 1) s _ = _
      unfold m_telltalelaw11_PredVars_l8
      have h1 := insT_len (x := a[i]) (l := s)
      rw [drop_cons hi, List.foldl_cons] at h'
      rw [d_lt (by omega), cond_true, geti_lt hi, obind_some, into_ok (by omega), obind_some, inc_ok (by omega)]
      exact ih _ (by omega) h') []
  exact this (Nat.zero_le _) (by simpa using fold_self hr)
theorem main_PredVars (x y : List GNode_) (hx : (wfL wf_GNode_) x) (hy : (wfL wf_GNode_) y) : m_telltalelaw11_PredVars x y = some true := by
  unfold m_telltalelaw11_PredVars m_telltalelaw11_PredVars_j1
  obtain ⟨r0, e0, q0⟩ := over_ok (l := x) hx.2
  rw [e0, obind_some]
  rcases q0 with rfl | ⟨rfl, q0⟩
  · rw [d_lt (by decide), cond_true, awake_ok]; rfl
  rw [d_nlt (by decide), cond_false]
  obtain ⟨r1, e1, q1⟩ := over_ok (l := y) hy.2
  rw [e1, obind_some]
  rcases q1 with rfl | ⟨rfl, q1⟩
  · rw [d_lt (by decide), cond_true, awake_ok]; rfl
  rw [d_nlt (by decide), cond_false]
  by_cases hx14 : 14 < x.length
  · rw [d_lt (by omega), cond_true, awake_ok]; rfl
  rw [d_nlt (by omega), cond_false]
  by_cases hy14 : 14 < y.length
  · rw [d_lt (by omega), cond_true, awake_ok]; rfl
  have hl := q0.1
  have hl' := q1.1
  have v1 := vS_len x
  have v2 := vS_len y
  rw [d_nlt (by omega), cond_false, own_ok (by omega), obind_some, own_ok (by omega), obind_some, pvars_ok (l := x) (by omega), obind_some, pvars_ok (l := y) (by omega), obind_some, app_ok (by simp; omega), obind_some, app_ok (by simp; omega), obind_some, pvars_ok (by simp; omega), obind_some, app_ok (by simp; omega), obind_some, pvars_ok (by simp; omega), obind_some]
  refine pv_l8 (by omega) (by omega) ?_ (vS_rises x) ?_ ?_
  · refine Nat.le_trans (vS_len _) ?_
    simp; omega
  · refine rises_eq (vS_rises _) (vS_rises _) fun z => ?_
    rw [mem_vS, mem_vS, List.singleton_append, vars_other (by decide)]
  · refine rises_eq (fold_rises (vS_rises x)) (vS_rises _) fun z => ?_
    rw [fold_mem, mem_vS, mem_vS, mem_vS, List.append_assoc, List.singleton_append, vars_other (by decide), vars_app, List.mem_append]
    exact Or.comm
end Go.Proofs.Ytkajfanpdabjcaa.K
