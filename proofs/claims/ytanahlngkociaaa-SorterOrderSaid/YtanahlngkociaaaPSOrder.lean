/- SorterOrder: plain. -/
import Derived.Test.YtanahlngkociaaaPSput
namespace Go.Proofs.Ytanahlngkociaaa.K
open Go.RowKit Go.Lib
set_option linter.unusedVariables false
set_option linter.unusedSimpArgs false
theorem eqv_self {l : List GValue} (hl : l.length ≤ 1000) : m_slices_Equal_Value l l = some true := by
  unfold m_slices_Equal_Value
  rw [decide_eq_false (by simp), cond_false]
  exact loop1_0 (L := fun fu i => m_slices_Equal_Value_l2 l l fu i) (n := l.length) (P := fun i o => o = some true) (by omega)
    (fun fu => by unfold m_slices_Equal_Value_l2; rw [d_nlt (by omega), cond_false])
    (fun fu i hi ih => by
      unfold m_slices_Equal_Value_l2
      rw [d_lt (by omega), cond_true, geti_lt hi, obind_some, obind_some, inc_ok (by omega), ih]
      simp [obind_some])
theorem esame_self {e : GEvent} (h : evB e) : m_event_Same e e = some true := by
  have hv := h.2.1
  unfold m_event_Same m_event_Event_ID
  rw [obind_some, obind_some, obind_some, eqv_self (by omega)]
  simp [obind_some]
theorem order_lt {a b : GEvent} (h : lte a b = true) : m_event_order a b = some (-1) := by
  unfold m_event_order m_event_Event_ID
  rw [obind_some, obind_some, obind_some, idless, obind_some, h, cond_true]
  have hs : (decide ((GID.mk a.Time a.Source a.Seq).Time = (GID.mk b.Time b.Source b.Seq).Time) && (decide ((GID.mk a.Time a.Source a.Seq).Source = (GID.mk b.Time b.Source b.Seq).Source) && (decide ((GID.mk a.Time a.Source a.Seq).Seq = (GID.mk b.Time b.Source b.Seq).Seq) && true))) = false := by
    have : sid a b = false := by
      cases q : sid a b with
      | false => rfl
      | true => rw [(sid_iff.1 q).1] at h; cases h
    exact this
  rw [hs, cond_false]
theorem sorted_ok {l : List GEvent} (hl : l.length ≤ 1000) (s : Srt l) : m_event_Sorted l = some true := by
  unfold m_event_Sorted
  rcases Nat.eq_zero_or_pos l.length with h0 | h0
  · obtain rfl := List.length_eq_zero_iff.1 h0
    unfold m_event_Sorted_l0
    rfl
  · have := loop1 (L := fun fu i => m_event_Sorted_l0 l fu i) (n := l.length) (P := fun i o => 1 ≤ i → o = some true)
      (fun fu _ => by unfold m_event_Sorted_l0; rw [d_nlt (by omega), cond_false])
      (fun fu i hi ih h1 => by
        unfold m_event_Sorted_l0
        have hk : i - 1 < l.length := by omega
        rw [d_lt (by omega), cond_true, w64 (n := (i : Int) - 1) (by omega) (by omega), show (i : Int) - 1 = ((i - 1 : Nat) : Int) by omega, geti_lt hk, obind_some, geti_lt hi, obind_some, order_lt (List.pairwise_iff_getElem.1 s (i - 1) i hk hi (by omega)), obind_some, decide_eq_false (by omega), cond_false, inc_ok (by omega)]
        exact ih (by omega)) 1152921504606846976 1 h0 (by omega)
    exact this (Nat.le_refl _)
theorem two_steps {s t : Int} (hst : s ≤ t) : ∀ {l : List GEvent}, Srt l → before s l ++ before t (after s l) = before t l ∧ after t (after s l) = after t l
  | [], _ => ⟨rfl, rfl⟩
  | x :: l, h => by
    have ih := two_steps hst (List.pairwise_cons.1 h).2
    by_cases h1 : x.Time < s
    · rw [(before_lt h1).1, (before_lt h1).2, (before_lt (show x.Time < t by omega)).1, (before_lt (show x.Time < t by omega)).2, List.cons_append, ih.1, ih.2]; exact ⟨rfl, rfl⟩
    · have := after_of (srt_tail h h1)
      rw [this.1, this.2]; exact ⟨rfl, rfl⟩
theorem both_len (t : Int) : ∀ l : List GEvent, (before t l).length + (after t l).length = l.length
  | [] => rfl
  | x :: l => by
    have := both_len t l
    by_cases h : x.Time < t
    · rw [(before_lt h).1, (before_lt h).2]; simp only [List.length_cons]; omega
    · rw [(before_ge h).1, (before_ge h).2]; simp only [List.length_cons]; omega
theorem bef_t {t : Int} {l : List GEvent} {e : GEvent} (h : e ∈ before t l) : e.Time < t := by simpa using (List.mem_filter.1 h).2
theorem aft_t {t : Int} {l : List GEvent} {e : GEvent} (h : e ∈ after t l) : ¬ e.Time < t := by simpa using (List.mem_filter.1 h).2
theorem order_l14 {a : GArr2_Int} {b1 b2 : List GEvent} (hl : (b1 ++ b2).length ≤ 1000) (hev : ∀ e ∈ b1 ++ b2, evB e) (h1 : ∀ e ∈ b1 ++ b2, e.Time < a.a1) (h2 : ∀ e ∈ b1, e.Time < a.a0) (h3 : ∀ e ∈ b2, ¬ e.Time < a.a0)
    {s1 s2 s3 : GSorter} {l : List GEvent} (r : Rel s2.L l) (h4 : ∀ e ∈ l, ¬ e.Time < a.a1) : m_telltalelaw24_SorterOrder_l14 a (b1 ++ b2) (b1, s1) (b2, s2) (b1 ++ b2, s3) 1152921504606846976 0 = some true :=
  loop1_0 (L := fun fu i => m_telltalelaw24_SorterOrder_l14 a (b1 ++ b2) (b1, s1) (b2, s2) (b1 ++ b2, s3) fu i) (n := (b1 ++ b2).length) (P := fun i o => o = some true) (by omega)
    (fun fu => by
      unfold m_telltalelaw24_SorterOrder_l14
      rw [d_nlt (by simp only; omega), cond_false, pleast r, obind_some]
      have pl := r.perm.length_eq
      cases l with
      | nil =>
        have e0 : s2.L = [] := List.length_eq_zero_iff.1 (by simpa using pl)
        simp only [leastA, e0]
        rw [awk24]; rfl
      | cons b l =>
        simp only [List.length_cons] at pl
        have := h4 b (by simp)
        rw [show leastA (b :: l) = (b.Time, true) from rfl, awk24]
        rw [decide_eq_true (p := (0 : Int) < ((List.length s2.L : Nat) : Int)) (by omega), decide_eq_true (p := a.a1 ≤ b.Time) (by omega)]
        rfl)
    (fun fu i hi ih => by
      have hm := List.getElem_mem hi
      unfold m_telltalelaw24_SorterOrder_l14 m_telltalelaw24_SorterOrder_j18 m_telltalelaw24_SorterOrder_j19
      simp only
      rw [d_lt (by omega), cond_true, geti_lt hi, obind_some, obind_some, esame_self (hev _ hm), obind_some, Bool.not_true, cond_false, obind_some, decide_eq_false (by have := h1 _ hm; omega), cond_false]
      rw [inc_ok (by omega), ih, obind_some, obind_some]
      by_cases q : i < b1.length
      · rw [d_lt (by omega), cond_true, decide_eq_false (p := ((List.length b1 : Nat) : Int) ≤ (i : Int)) (by omega), cond_false, decide_eq_false, cond_false]
        have := h2 _ (List.getElem_mem q)
        rw [List.getElem_append_left q]; omega
      · rw [d_nlt (by omega), cond_false, decide_eq_true (p := ((List.length b1 : Nat) : Int) ≤ (i : Int)) (by omega), cond_true, decide_eq_false, cond_false]
        rw [List.getElem_append_right (by omega)]
        exact h3 _ (List.getElem_mem _))
theorem main_SorterOrder (l : List GEvent) (a : GArr2_Int) (w : wfL wf_GEvent l) (wa : wf_GArr2_Int a) : m_telltalelaw24_SorterOrder l a = some true := by
  unfold m_telltalelaw24_SorterOrder
  rw [awk24]
  obtain ⟨n, e, hq⟩ := over_ok (l := l) (k := 12) (by decide) (fun e he => wf_evM24 (w.2 e he))
  rw [e, obind_some]
  rcases hq with rfl | ⟨rfl, hl, hq⟩
  · rw [d_lt (by decide)]; rfl
  · rw [d_nlt (by decide), cond_false]
    by_cases ha : a.a1 < a.a0
    · rw [d_lt ha]; rfl
    · rw [d_nlt ha, cond_false, show m_sorter_New 12 = some (GSorter.mk 12 [], 0) from rfl, obind_some]
      have := loopG_0 (L := fun fu (s : GSorter) i => m_telltalelaw24_SorterOrder_l4 l a (GSorter.mk 12 [], 0) fu s i) (n := l.length)
        (P := fun i s o => ∀ r, s.Cap = 12 → Rel s.L r → r.length ≤ i → (∀ e ∈ r, evB e) → o = some true) (by omega)
        (fun fu s r h1 h2 h3 h4 => by
          obtain ⟨c, h⟩ := s
          simp only at h1 h2
          have pl := h2.perm.length_eq
          unfold m_telltalelaw24_SorterOrder_l4
          obtain ⟨g1, f1, k1⟩ := prel (s := GSorter.mk c h) (t := a.a0) (l := r) (by omega) h2
          have n1 := both_len a.a0 r
          obtain ⟨g2, f2, k2⟩ := prel (s := GSorter.mk c g1) (t := a.a1) (l := after a.a0 r) (by omega) k1
          obtain ⟨g3, f3, k3⟩ := prel (s := GSorter.mk c h) (t := a.a1) (l := r) (by omega) h2
          obtain ⟨t1, t2⟩ := two_steps (show a.a0 ≤ a.a1 by omega) h2.srt
          have n2 := both_len a.a1 r
          have p2 := k2.perm.length_eq
          have p3 := k3.perm.length_eq
          have n3 := congrArg List.length t1
          simp only [List.length_append] at n3
          have n4 := congrArg List.length t2
          rw [d_nlt (by omega), cond_false, f1, obind_some]
          simp only
          rw [f2, obind_some, f3, obind_some]
          simp only
          rw [app_ok (by simp; omega), obind_some, List.nil_append, app_ok (by omega), obind_some, decide_eq_false (by simp), cond_false, t1, decide_eq_false (by simp), cond_false]
          have hs : Srt (before a.a1 r) := h2.srt.sublist List.filter_sublist
          rw [sorted_ok (by omega) hs, obind_some, Bool.not_true, cond_false, decide_eq_false (by omega), cond_false, obind_some, w64 (by omega) (by omega), decide_eq_false (by omega), cond_false, ← t1]
          refine order_l14 (by simp only [List.length_append]; omega) (fun e he => ?_) (fun e he => ?_) (fun e he => bef_t he) (fun e he => ?_) (s2 := GSorter.mk c g2) k2 (fun e he => aft_t he)
          · rw [t1] at he; exact h4 e (List.mem_filter.1 he).1
          · rw [t1] at he; exact bef_t he
          · exact aft_t (List.mem_filter.1 he).1)
        (fun fu s i hi ih r h1 h2 h3 h4 => by
          obtain ⟨c, h⟩ := s
          simp only at h1 h2
          subst h1
          have pl := h2.perm.length_eq
          have hev := hq _ (List.getElem_mem hi)
          have hvl := hev.2.1
          unfold m_telltalelaw24_SorterOrder_l4
          rw [d_lt (by omega), cond_true, geti_lt hi, obind_some, own_ok (by omega), obind_some, pput (by simp only; omega), obind_some]
          unfold putA
          simp only
          rw [h2.any, pl]
          by_cases q : (r.any (sid · l[i])) = true
          · rw [if_pos q, decide_eq_true (by simp), cond_true, decide_eq_false (by simp), cond_false, inc_ok (by omega)]
            exact ih _ r rfl h2 (by omega) h4
          · have hr := h2.push (Bool.eq_false_iff.2 q)
            have hl2 := (ins_perm l[i] r).length_eq
            simp only [List.length_cons] at hl2
            rw [if_neg q, if_neg (by omega), decide_eq_false (by simp), cond_false, inc_ok (by omega)]
            refine ih _ (ins l[i] r) rfl hr (by omega) (fun e he => ?_)
            rcases List.mem_cons.1 ((ins_perm l[i] r).mem_iff.1 he) with rfl | he
            · exact hev
            · exact h4 e he) (GSorter.mk 12 []) [] rfl rel_nil (by simp) (by simp)
      exact this
end Go.Proofs.Ytanahlngkociaaa.K
