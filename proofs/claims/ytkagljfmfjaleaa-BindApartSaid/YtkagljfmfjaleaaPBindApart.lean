/- BindApart by models. -/
import Derived.Test.YtkagljfmfjaleaaPmat
namespace Go.Proofs.Ytkagljfmfjaleaa.K
open Go.RowKit Go.Lib
set_option linter.unusedVariables false
set_option linter.unusedSimpArgs false
theorem txB_app {a b r s : List UInt8} (h : txB a ++ r = txB b ++ s) : a = b ∧ r = s := by
  unfold txB at h
  rw [List.append_assoc, List.append_assoc] at h
  obtain ⟨h1, h2⟩ := zb_app h
  exact List.append_inj h2 h1
theorem prI_app {p q : GPair} {r s : List UInt8} (h : prI p ++ r = prI q ++ s) : ordP p q = 0 ∧ r = s := by
  unfold prI at h
  simp only [List.append_assoc] at h
  obtain ⟨h1, h⟩ := txB_app h
  obtain ⟨h2, h⟩ := zb_app h
  obtain ⟨h3, h⟩ := zb_app h
  obtain ⟨h4, h⟩ := zb_app h
  refine ⟨?_, h⟩
  unfold ordP ordE
  rw [lexI_zero, lexI_zero, lexI_zero, cmpI_zero, cmpI_zero, cmpI_zero, cmpS_zero]
  exact ⟨⟨zfold_inj h2, zfold_inj h3, zfold_inj h4⟩, h1⟩
theorem prI_eq {p q : GPair} (h : ordP p q = 0) : prI p = prI q := by
  unfold ordP ordE at h
  rw [lexI_zero, lexI_zero, lexI_zero, cmpI_zero, cmpI_zero, cmpI_zero, cmpS_zero] at h
  unfold prI
  rw [h.1.1, h.1.2.1, h.1.2.2, h.2]
theorem flat_rk : ∀ (x y : List GPair), x.length = y.length → x.flatMap prI = y.flatMap prI → rk x y = 0
  | [], [], _, _ => rfl
  | [], _ :: _, h, _ => by simp at h
  | _ :: _, [], h, _ => by simp at h
  | a :: x, b :: y, h, k => by
    rw [List.flatMap_cons, List.flatMap_cons] at k
    obtain ⟨k1, k2⟩ := prI_app k
    rw [rk, lexI_zero]
    exact ⟨k1, flat_rk x y (by simpa using h) k2⟩
theorem rk_flat : ∀ (x y : List GPair), rk x y = 0 → x.length = y.length ∧ x.flatMap prI = y.flatMap prI
  | [], [], _ => ⟨rfl, rfl⟩
  | [], _ :: _, h => by simp [rk] at h
  | _ :: _, [], h => by simp [rk] at h
  | a :: x, b :: y, h => by
    rw [rk, lexI_zero] at h
    obtain ⟨k1, k2⟩ := rk_flat x y h.2
    exact ⟨by simp [k1], by rw [List.flatMap_cons, List.flatMap_cons, prI_eq h.1, k2]⟩
theorem idB_iff {a b : GMatch} : idB a = idB b ↔ bf a b = 0 := by
  unfold bf
  rw [lexI_zero, lexI_zero, cmpI_zero, cmpS_zero]
  constructor
  · intro h
    unfold idB at h
    obtain ⟨h1, h⟩ := zb_app h
    obtain ⟨h2, h⟩ := txB_app h
    obtain ⟨h3, h⟩ := zb_app h
    exact ⟨zfold_inj h1, h2, flat_rk _ _ h3 h⟩
  · rintro ⟨h1, h2, h3⟩
    obtain ⟨h4, h5⟩ := rk_flat _ _ h3
    unfold idB
    rw [h1, h2, h4, h5]
theorem main_BindApart (x : GArr3_GMatch) (hx : wf_GArr3_GMatch x) : m_telltalelaw19_BindApart x = some true := by
  unfold m_telltalelaw19_BindApart
  refine loop1_0 (L := fun fu i => m_telltalelaw19_BindApart_l0 x fu i) (n := 3) (P := fun i o => (∀ m ∈ [x.a0, x.a1, x.a2].take i, mB m) → o = some true) (by omega) ?_ ?_ (by simp)
  · intro fu h
    have m0 := h x.a0 (by simp)
    have m1 := h x.a1 (by simp)
    have m2 := h x.a2 (by simp)
    have l0 := m0.len
    have l1 := m1.len
    unfold m_telltalelaw19_BindApart_l0 m_telltalelaw19_BindApart_j6
    have hn := bf_c.neg x.a0 x.a1
    have hs := bf_set x.a0 x.a1
    have t1 := @Cmp.lt1 _ _ bf_c x.a0 x.a1 x.a2
    have t2 := bf_c.tr x.a0 x.a1 x.a2
    rw [decide_eq_false (by decide), cond_false, own19_ok m0, obind_some, own19_ok m1, obind_some, own19_ok m2, obind_some, before_ok _ _ (by omega), obind_some, before_ok _ _ (by omega), obind_some, before_ok _ _ (by omega), obind_some, ident_ok (wf_mi hx.a0 m0), obind_some, ident_ok (wf_mi hx.a1 m1), obind_some]
    rw [decide_eq_false (show ¬ (decide (idB x.a0 = idB x.a1) ≠ decide (bf x.a0 x.a1 = 0)) from fun h => h (decide_eq_decide.2 idB_iff)), cond_false, before_ok _ _ (by omega), obind_some, w64 (by omega) (by omega), decide_eq_false (by omega), cond_false, decide_eq_false (by omega), cond_false, d_nlt (by omega), cond_false,
      before_ok _ _ (by omega), obind_some, bf_c.self, decide_eq_false (by simp), cond_false]
    generalize bf x.a0 x.a1 = u at *
    generalize bf x.a1 x.a2 = v at *
    generalize bf x.a0 x.a2 = w at *
    rw [awake_ok]
    by_cases c1 : 0 < u
    · rw [d_lt c1]; rfl
    · rw [d_nlt c1, cond_false]
      by_cases c2 : 0 < v
      · rw [d_lt c2, cond_true, cond_false, decide_eq_true (by omega)]; rfl
      · rw [d_nlt c2, cond_false, decide_eq_true (t2 (by omega) (by omega)), cond_true, cond_false]
        by_cases c3 : 0 ≤ v
        · rw [decide_eq_true c3]; rfl
        · rw [decide_eq_false c3, cond_false, decide_eq_true (t1 (by omega) (by omega))]; rfl
  · intro fu i hi ih h
    unfold m_telltalelaw19_BindApart_l0
    have hi' : i < [x.a0, x.a1, x.a2].length := by simpa using hi
    have hw : wf_GMatch ([x.a0, x.a1, x.a2][i]) := by
      have : ∀ m ∈ [x.a0, x.a1, x.a2], wf_GMatch m := by
        intro m hm
        simp only [List.mem_cons, List.not_mem_nil, or_false] at hm
        rcases hm with rfl | rfl | rfl
        · exact hx.a0
        · exact hx.a1
        · exact hx.a2
      exact this _ (List.getElem_mem hi')
    obtain ⟨r, e, q⟩ := over19_ok hw
    rw [d_lt (by omega), cond_true, geti_lt hi', obind_some, e, obind_some]
    rcases q with rfl | ⟨rfl, q⟩
    · rw [d_lt (by decide), cond_true, awake_ok]; rfl
    · rw [d_nlt (by decide), cond_false, inc_ok (by omega)]
      exact ih (take_all hi' h q)
end Go.Proofs.Ytkagljfmfjaleaa.K
