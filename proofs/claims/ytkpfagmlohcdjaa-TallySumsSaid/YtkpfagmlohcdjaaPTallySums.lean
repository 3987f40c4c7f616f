/- TallySums: plain. -/
import Derived.Test.YtkpfagmlohcdjaaPtzb
import Derived.Test.YtkpfagmlohcdjaaPtlo
import Derived.Test.YtkpfagmlohcdjaaPtan
import Derived.Test.YtkpfagmlohcdjaaPtsame
import Derived.Test.YtkpfagmlohcdjaaPtat2
namespace Go.Proofs.Ytkpfagmlohcdjaa.K
open Go.RowKit Go.Lib
set_option linter.unusedVariables false
set_option linter.unusedSimpArgs false
theorem awk26s : m_telltalelaw26_awake = some true := by decide +kernel
theorem sums_l10 {m : List GChange} (hl : m.length ≤ 100) (hn : Norm m) (hc : ∀ x ∈ m, ch64 x) : m_telltalelaw26_TallySums_l10 m 1152921504606846976 0 = some true := by
  refine loop1_0 (L := fun fu i => m_telltalelaw26_TallySums_l10 m fu i) (n := m.length) (P := fun i o => o = some true) (by omega) (fun fu => ?_) (fun fu i hi ih => ?_)
  · have hb := chgsB_le hc
    have hz : (zb m.length).length ≤ 10 := by rw [zb_length]; exact zn_le10 _ (by omega)
    unfold m_telltalelaw26_TallySums_l10
    rw [d_nlt (by omega), cond_false, tput_ok (by omega) (by simp) hc, obind_some, List.nil_append, app_ok (by simp only [List.length_append, List.length_cons, List.length_nil]; omega), obind_some, ttake_ok _ (by simp only [List.length_append, List.length_cons, List.length_nil]; omega), obind_some, ttk_put _ (by omega) hc hn, awk26s]
    simp only
    rw [tsame_ok (by omega) (by omega), decide_eq_true rfl, obind_some, decide_true]
    rfl
  · have h0 := hn.2 _ (List.getElem_mem hi)
    unfold m_telltalelaw26_TallySums_l10 m_telltalelaw26_TallySums_j13 m_telltalelaw26_TallySums_j14
    rw [d_lt (by omega), cond_true, geti_lt hi, obind_some, decide_eq_false h0, cond_false, inc_ok (by omega)]
    simp only
    rw [ih]
    by_cases hz : i = 0
    · subst hz; rfl
    · have hq := (List.pairwise_iff_getElem.1 hn.1) (i - 1) i (by omega) hi (by omega)
      rw [ltT_iff] at hq
      rw [d_lt (by omega), cond_true, w64 (by omega) (by omega), show ((i : Int) - 1) = ((i - 1 : Nat) : Int) by omega, geti_lt (by omega), obind_some, obind_some, d_nlt (by omega), cond_false, obind_some, obind_some, obind_some, obind_some]
      by_cases hL : (m[i - 1]'(by omega)).Loc = m[i].Loc
      · rw [decide_eq_true hL, cond_true, decide_eq_false (by omega), cond_false]
      · rw [decide_eq_false hL, cond_false]
theorem main_TallySums (a b : List GChange) (ha : wfL wf_GChange a) (hb : wfL wf_GChange b) : m_telltalelaw26_TallySums a b = some true := by
  unfold m_telltalelaw26_TallySums m_telltalelaw26_TallySums_j6
  rw [awk26s]
  obtain ⟨r1, e1, q1⟩ := tover_ok ha.1
  obtain ⟨r2, e2, q2⟩ := tover_ok hb.1
  rw [e1, obind_some]
  rcases q1 with rfl | ⟨rfl, la, ca⟩
  · rfl
  rw [d_nlt (by decide), cond_false, e2, obind_some]
  rcases q2 with rfl | ⟨rfl, lb, cb⟩
  · rfl
  have fa := ch_half la ca
  have fb := ch_half lb cb
  have aa := chB_abs ca
  have ab := chB_abs cb
  have sab : small (a ++ b) := small_app fa fb
  have sba : small (b ++ a) := small_app fb fa
  have sa := half_small fa
  have sb := half_small fb
  have na := nrm_len a; have nb := nrm_len b; have xa := nrm_abs a; have xb := nrm_abs b
  have sn : small (nrm a ++ nrm b) := small_app ⟨by omega, by omega⟩ ⟨by omega, by omega⟩
  have nm := nrm_len (a ++ b); have xm := nrm_abs (a ++ b)
  rw [List.length_append] at nm
  rw [absum_app] at xm
  have E1 : nrm (b ++ a) = nrm (a ++ b) := nrm_congr fun x y => by rw [atp_app, atp_app]; omega
  have E2 : nrm (nrm a ++ nrm b) = nrm (a ++ b) := nrm_congr fun x y => by rw [atp_app, atp_app, nrm_at, nrm_at]
  have E3 : nrm (nrm (a ++ b)) = nrm (a ++ b) := nrm_self (nrm_norm _)
  have hat := nrm_at (a ++ b)
  have hnm := nrm_norm (a ++ b)
  have hpt := @nrm_pt (a ++ b)
  rw [d_nlt (by decide), cond_false, town_ok (by omega), obind_some, town_ok (by omega), obind_some, merge_ok sab, obind_some, merge_ok sba, obind_some, E1, tsame_ok (by omega) (by omega), obind_some, decide_eq_true rfl, Bool.not_true, cond_false, normal_ok sa, obind_some, normal_ok sb, obind_some, merge_ok sn, obind_some, E2, tsame_ok (by omega) (by omega), obind_some, decide_eq_true rfl, Bool.not_true, cond_false]
  generalize nrm (a ++ b) = m at E3 hat hnm hpt nm xm ⊢
  have sm : small m := ⟨by omega, by omega⟩
  have ln := nrm_len (negl m); have xn := nrm_abs (negl m)
  rw [negl_abs] at xn
  have ll : (negl m).length = m.length := by simp [negl]
  have smn : small (m ++ nrm (negl m)) := small_app ⟨by omega, by omega⟩ ⟨by omega, by omega⟩
  have E4 : nrm (m ++ nrm (negl m)) = [] := nrm_eq ⟨List.Pairwise.nil, by simp⟩ fun x y => by rw [atp_app, nrm_at, negl_at]; show (0 : Int) = _; omega
  have hc : ∀ x ∈ m, ch64 x := fun x hx => by
    obtain ⟨y, hy, p1, p2⟩ := hpt hx
    have hw : wf_GChange y := (List.mem_append.1 hy).elim (ha.2 y) (hb.2 y)
    have hN := absum_mem hx
    exact ⟨by rw [p1]; exact in_i64 hw.Loc, by rw [p2]; exact in_i64 hw.Time, by omega⟩
  rw [normal_ok sm, obind_some, E3, tsame_ok (by omega) (by omega), obind_some, decide_eq_true rfl, Bool.not_true, cond_false, neg_ok sm, obind_some, merge_ok smn, obind_some, E4, decide_eq_false (by simp), cond_false]
  refine loop1_0 (L := fun fu i => m_telltalelaw26_TallySums_l7 a b m fu i) (n := a.length) (P := fun i o => o = some true) (by omega) (fun fu => ?_) (fun fu i hi ih => ?_)
  · unfold m_telltalelaw26_TallySums_l7
    rw [d_nlt (by omega), cond_false, sums_l10 (by omega) hnm hc]
  · have h1 := atp_abs a a[i].Loc a[i].Time
    have h2 := atp_abs b a[i].Loc a[i].Time
    unfold m_telltalelaw26_TallySums_l7
    rw [d_lt (by omega), cond_true, geti_lt hi, obind_some, obind_some, at_ok sm, obind_some, obind_some, obind_some, at_ok sa, obind_some, obind_some, obind_some, at_ok sb, obind_some, hat, atp_app, w64 (by omega) (by omega), decide_eq_false (by simp), cond_false, inc_ok (by omega), ih]
end Go.Proofs.Ytkpfagmlohcdjaa.K
