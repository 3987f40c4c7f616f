/- RunsFew: plain. -/
import Derived.Test.YtlbajkdbbffefaaPruns
namespace Go.Proofs.Ytlbajkdbbffefaa.K
open Go.RowKit Go.Lib
set_option linter.unusedVariables false
set_option linter.unusedSimpArgs false
theorem stays_mono {s t w : Int} (h : s ≤ t) {x : GRun} (k : stays t w x = true) : stays s w x = true := by
  unfold stays at *
  cases hx : x.Bound with
  | nil => rfl
  | cons p q =>
    rw [hx] at k
    simp only [decide_eq_true_eq] at *
    have : heldI s ≤ heldI t := by unfold heldI; omega
    omega
theorem prune_two {s t w : Int} (h : s ≤ t) (l : List GRun) : (l.filter (stays s w)).filter (stays t w) = l.filter (stays t w) := by
  rw [List.filter_filter]
  congr 1
  funext x
  cases q : stays t w x with
  | false => simp
  | true => rw [stays_mono h q]; rfl
theorem least_mem : ∀ (l : List GRun) (a : Int × Bool), (l.foldl stepL a = a) ∨ ∃ x ∈ l, ∃ p q, x.Bound = p :: q ∧ l.foldl stepL a = (p.E.Time, true)
  | [], a => .inl rfl
  | x :: l, a => by
    rw [List.foldl_cons]
    rcases least_mem l (stepL a x) with h | ⟨y, h1, p, q, h2, h3⟩
    · rw [h]
      unfold stepL
      cases hx : x.Bound with
      | nil => exact .inl rfl
      | cons p q =>
        simp only
        split
        · exact .inr ⟨x, by simp, p, q, hx, rfl⟩
        · exact .inl rfl
    · exact .inr ⟨y, List.mem_cons_of_mem _ h1, p, q, h2, h3⟩
theorem few_least {l : List GRun} {t w : Int} (ht : 0 ≤ t ∧ t ≤ 1000) (hw : 0 ≤ w ∧ w ≤ 1000) (h : ((l.filter (stays t w)).foldl stepL (0, false)).2 = true) (h0 : 0 ≤ ((l.filter (stays t w)).foldl stepL (0, false)).1) : ¬ ((l.filter (stays t w)).foldl stepL (0, false)).1 < t - w := by
  rcases least_mem (l.filter (stays t w)) (0, false) with e | ⟨x, h1, p, q, h2, h3⟩
  · rw [e] at h; cases h
  · rw [h3] at h0 ⊢
    have := (List.mem_filter.1 h1).2
    unfold stays at this
    rw [h2] at this
    simp only [decide_eq_true_eq] at this h0 ⊢
    unfold heldI at this
    omega
def apartL (l : List GRun) : Prop := l.Pairwise fun a b => twinB b a = false
theorem few_l13 {l : List GRun} (hb : rqB l) (ha : apartL l) (i : Nat) (hi : i < l.length) (k : Int → Option Bool) : m_telltalelaw21_RunsFew_l13 (i : Int) l k 1152921504606846976 0 = k ((i + 1 : Nat) : Int) :=
  loop1_0 (L := fun fu j => m_telltalelaw21_RunsFew_l13 (i : Int) l k fu j) (n := i) (P := fun j o => o = k ((i + 1 : Nat) : Int)) (by have := hb.1; omega)
    (fun fu => by unfold m_telltalelaw21_RunsFew_l13; rw [d_nlt (by omega), cond_false, inc_ok (by have := hb.1; omega)])
    (fun fu j hj ih => by
      have hl := hb.1
      have hjl : j < l.length := by omega
      have hbi := (hb.2 _ (List.getElem_mem hi)).1
      have hp := List.pairwise_iff_getElem.1 ha j i hjl hi hj
      unfold m_telltalelaw21_RunsFew_l13
      rw [d_lt (by omega), cond_true, geti_lt hi, obind_some, geti_lt hjl, obind_some, obind_some, obind_some, rank_ok _ _ (by omega), obind_some, inc_ok (by omega), ih]
      unfold twinB at hp
      cases q1 : decide (l[i].Place = l[j].Place) with
      | false => rfl
      | true =>
        rw [q1, Bool.true_and] at hp
        rw [hp]; rfl)
theorem few_l21 {m : Int} {l : List GRun} (hl : rqB l) {r : GRuns} (hr : rqB r.L) (hc : r.Cap = m) : m_telltalelaw21_RunsFew_l21 m l r 1152921504606846976 0 = some true :=
  loop1_0 (L := fun fu j => m_telltalelaw21_RunsFew_l21 m l r fu j) (n := l.length) (P := fun j o => o = some true) (by have := hl.1; omega)
    (fun fu => by unfold m_telltalelaw21_RunsFew_l21; rw [d_nlt (by omega), cond_false, awake_ok]; rfl)
    (fun fu i hi ih => by
      have hn := hl.1
      have hbi := hl.2 _ (List.getElem_mem hi)
      unfold m_telltalelaw21_RunsFew_l21
      rw [d_lt (by omega), cond_true, geti_lt hi, obind_some, own21_ok hbi, obind_some, add_ok hr hbi, obind_some, inc_ok (by omega), ih]
      by_cases h : (r.L.length : Int) < m
      · have : (addR r l[i]).2 = 0 := by
          unfold addR
          split
          · rfl
          · rw [if_neg (by omega)]
        rw [this, decide_eq_true h, cond_true, decide_eq_false (by simp), cond_false]
      · rw [decide_eq_false h, cond_false])
theorem few_l11 {m : Int} {l c : List GRun} {n : GArr3_Int} (hl : rqB l) (hc : rqB c) (ha : apartL c) (h0 : 0 ≤ n.a0) (h1 : n.a0 ≤ n.a1) (h2 : n.a1 ≤ 1000) (h3 : 0 ≤ n.a2) (h4 : n.a2 ≤ 1000) : m_telltalelaw21_RunsFew_l11 m l n m c 1152921504606846976 0 = some true :=
  loop1_0 (L := fun fu j => m_telltalelaw21_RunsFew_l11 m l n m c fu j) (n := c.length) (P := fun j o => o = some true) (by have := hc.1; omega)
    (fun fu => by
      have e1 := rqB_filter hc (stays n.a0 n.a2)
      have e2 := rqB_filter hc (stays n.a1 n.a2)
      have e3 := prune_two (w := n.a2) h1 c
      have e4 : (c.filter (stays n.a1 n.a2)).length ≤ (c.filter (stays n.a0 n.a2)).length := by rw [← e3]; exact List.length_filter_le _ _
      unfold m_telltalelaw21_RunsFew_l11
      rw [d_nlt (by omega), cond_false, prune_ok hc, obind_some, prune_ok hc, obind_some, prune_ok e1, obind_some]
      simp only
      rw [e3, same_ok e2 e2, obind_some, sameG_self, Bool.not_true, cond_false, d_nlt (by omega), cond_false, least_ok e2, obind_some]
      unfold m_telltalelaw21_RunsFew_j19 m_telltalelaw21_RunsFew_j20
      rw [few_l21 (m := m) (r := GRuns.mk m (c.filter (stays n.a1 n.a2))) hl e2 rfl, w64 (n := n.a1 - n.a2) (by omega) (by omega)]
      simp only
      cases q : ((c.filter (stays n.a1 n.a2)).foldl stepL (0, false)).2 with
      | false => rfl
      | true =>
        rw [cond_true]
        by_cases q0 : 0 ≤ ((c.filter (stays n.a1 n.a2)).foldl stepL (0, false)).1
        · rw [decide_eq_true q0, cond_true, decide_eq_false (few_least ⟨by omega, h2⟩ ⟨h3, h4⟩ q q0), cond_false]
        · rw [decide_eq_false q0, cond_false])
    (fun fu i hi ih => by
      unfold m_telltalelaw21_RunsFew_l11
      rw [d_lt (by omega), cond_true, few_l13 hc ha i hi, ih])
theorem main_RunsFew (m : Int) (l : List GRun) (n : GArr3_Int) (hm : -9223372036854775808 ≤ m ∧ m ≤ 9223372036854775807) (hw : wfL wf_GRun l) (hn : wf_GArr3_Int n) : m_telltalelaw21_RunsFew m l n = some true := by
  unfold m_telltalelaw21_RunsFew m_telltalelaw21_RunsFew_j1
  obtain ⟨k, e, q⟩ := over21_ok (r := GRuns.mk 0 l) hw.2
  rw [e, obind_some, awake_ok]
  rcases q with rfl | ⟨rfl, q⟩
  · rfl
  rw [d_nlt (by decide), cond_false]
  by_cases c1 : m < 1
  · rw [d_lt c1]; rfl
  rw [d_nlt c1, cond_false]
  by_cases c2 : 8 < m
  · rw [d_lt c2]; rfl
  rw [d_nlt c2, cond_false]
  by_cases c3 : n.a0 < 0
  · rw [d_lt c3]; rfl
  rw [d_nlt c3, cond_false]
  by_cases c4 : n.a1 < n.a0
  · rw [d_lt c4]; rfl
  rw [d_nlt c4, cond_false]
  by_cases c5 : 1000 < n.a1
  · rw [d_lt c5]; rfl
  rw [d_nlt c5, cond_false]
  by_cases c6 : n.a2 < 0
  · rw [d_lt c6]; rfl
  rw [d_nlt c6, cond_false]
  by_cases c7 : 1000 < n.a2
  · rw [d_lt c7]; rfl
  rw [d_nlt c7, cond_false]
  have hnew : m_runs_New m = some (GRuns.mk m [], 0) := by
    unfold m_runs_New
    rw [d_nlt c1, cond_false, d_nlt (by omega)]; rfl
  rw [hnew, obind_some, decide_eq_false (by simp), cond_false]
  have hlq : rqB l := q.q
  have hl12 : l.length ≤ 12 := q.1
  have := loopG_0 (L := fun fu (s : Int × List GRun) i => m_telltalelaw21_RunsFew_l5 m l n fu s.1 s.2 i) (n := l.length)
    (P := fun i s o => s.1 = m → (s.2.length : Int) ≤ m → rqB s.2 → apartL s.2 → o = some true) (by omega)
    (fun fu s h1 h2 h3 h4 => by
      obtain ⟨c, r⟩ := s
      simp only at h1 h2 h3 h4 ⊢
      subst h1
      unfold m_telltalelaw21_RunsFew_l5
      rw [d_nlt (by omega), cond_false]
      exact few_l11 hlq h3 h4 (by omega) (by omega) (by omega) (by omega) (by omega))
    (fun fu s i hi ih h1 h2 h3 h4 => by
      obtain ⟨c, r⟩ := s
      simp only at h1 h2 h3 h4 ⊢
      subst h1
      have hbi := hlq.2 _ (List.getElem_mem hi)
      unfold m_telltalelaw21_RunsFew_l5 m_telltalelaw21_RunsFew_j10 m_telltalelaw21_RunsFew_j9
      rw [d_lt (by omega), cond_true, geti_lt hi, obind_some, own21_ok hbi, obind_some, add_ok h3 hbi, obind_some, inc_ok (by omega)]
      unfold addR
      simp only
      by_cases q1 : r.any (twinB l[i]) = true
      · rw [if_pos q1, decide_eq_false (by simp), cond_false, d_nlt (by simp only; omega), cond_false]
        exact ih (c, r) rfl h2 h3 h4
      · rw [if_neg q1]
        by_cases q2 : c ≤ (r.length : Int)
        · rw [if_pos q2, decide_eq_true (by simp), cond_true, decide_eq_false (by simp), cond_false, decide_eq_false (by omega), cond_false]
          rw [same_ok (a := ⟨c, r⟩) (b := ⟨c, r⟩) h3 h3, obind_some, sameG_self, Bool.not_true, cond_false, d_nlt (by simp only; omega), cond_false]
          exact ih (c, r) rfl h2 h3 h4
        · rw [if_neg q2, decide_eq_false (by simp), cond_false, d_nlt (by simp only [List.length_append, List.length_singleton]; omega), cond_false]
          refine ih (c, r ++ [l[i]]) rfl (by simp only [List.length_append, List.length_singleton]; omega) ⟨by simp only [List.length_append, List.length_singleton]; have := h3.1; omega, fun y hy => ?_⟩ ?_
          · rcases List.mem_append.1 hy with hy | hy
            · exact h3.2 y hy
            · rw [List.mem_singleton.1 hy]; exact hbi
          · refine List.pairwise_append.2 ⟨h4, List.pairwise_singleton _ _, fun a hx b hb => ?_⟩
            rw [List.mem_singleton.1 hb]
            exact Bool.eq_false_iff.2 fun hh => q1 (List.any_eq_true.2 ⟨a, hx, hh⟩))
    (m, []) rfl (by simp; omega) ⟨by simp, by simp⟩ List.Pairwise.nil
  exact this
end Go.Proofs.Ytlbajkdbbffefaa.K
