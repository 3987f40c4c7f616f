/- PredTells by models. -/
import Derived.Test.YtkajfanpdabjcaaMpb
namespace Go.Proofs.Ytkajfanpdabjcaa.K
open Go.RowKit Go.Lib
set_option linter.unusedVariables false
set_option linter.unusedSimpArgs false
theorem main_PredTells (x : GArr2_List_GNode) (p1 : Int) (hx : wf_GArr2_List_GNode x) (hp : -9223372036854775808 ≤ p1 ∧ p1 ≤ 9223372036854775807) : m_telltalelaw11_PredTells x p1 = some true := by
  unfold m_telltalelaw11_PredTells
  obtain ⟨r0, e0, q0⟩ := over_ok (l := x.a0) hx.a0.2
  rw [e0, obind_some]
  rcases q0 with rfl | ⟨rfl, q0⟩
  · rw [d_lt (by decide), cond_true, awake_ok]; rfl
  rw [d_nlt (by decide), cond_false]
  obtain ⟨r1, e1, q1⟩ := over_ok (l := x.a1) hx.a1.2
  rw [e1, obind_some]
  rcases q1 with rfl | ⟨rfl, q1⟩
  · rw [d_lt (by decide), cond_true, awake_ok]; rfl
  rw [d_nlt (by decide), cond_false, own_ok (by omega), obind_some, own_ok (by omega), obind_some]
  have hl := q0.1
  have hb := nB_of q0.1 q0.2
  refine loop1_0 (L := fun fu i => m_telltalelaw11_PredTells_l4 x p1 x.a0 x.a1 fu i) (n := x.a0.length) (P := fun i o => o = some true) (by omega) (fun fu => ?_) (fun fu i hi ih => ?_)
  · show m_telltalelaw11_PredTells_l4 x p1 x.a0 x.a1 (fu + 1) _ = _
    unfold m_telltalelaw11_PredTells_l4
    obtain ⟨s, s1, s2, _⟩ := print_ok (l := x.a0) (by omega) q0.2
    have hv := vS_len x.a0
    rw [d_nlt (by omega), cond_false, pcheck_ok hb, obind_some, rpcheck_ok hb, obind_some, decide_eq_true rfl, cond_true, s1, obind_some, s2, obind_some, decide_eq_true rfl, cond_true, pvars_ok (by omega), obind_some, rvars_ok (by omega), obind_some, stexts_ok (by omega) (by omega), obind_some, decide_eq_true rfl, cond_true,
      psize_ok (by omega), obind_some, rpsize_ok (by omega), obind_some, decide_eq_true rfl, cond_true, psame_ok (by omega), obind_some, rsame_ok (by omega), obind_some, decide_eq_true rfl, cond_true, awake_ok]
    rfl
  · show m_telltalelaw11_PredTells_l4 x p1 x.a0 x.a1 (fu + 1) _ = _
    unfold m_telltalelaw11_PredTells_l4
    rw [d_lt (by omega), cond_true, geti_lt hi, obind_some, kids_ok, obind_some, obind_some, rkids_ok, obind_some, decide_eq_false (by simp), cond_false, psize_ok (by omega), obind_some, rpsize_ok (by omega), obind_some, decide_eq_false (by simp), cond_false, inc_ok (by omega)]
    exact ih
end Go.Proofs.Ytkajfanpdabjcaa.K
