/- Events in order: plain. -/
import Derived.Test.YtbgioanegbipgaaPstEv
import Derived.Test.YtbgioanegbipgaaMsc
namespace Go.Proofs.Ytbgioanegbipgaa.K
open Go.RowKit Go.Lib
set_option linter.unusedVariables false
set_option linter.unusedSimpArgs false
def evLess (a b : GEvent) : Bool := if a.Time ≠ b.Time then decide (a.Time < b.Time) else if a.Source ≠ b.Source then decide (a.Source < b.Source) else decide (a.Seq < b.Seq)
theorem evLess_iff (a b : GEvent) : evLess a b = true ↔ a.Time < b.Time ∨ a.Time = b.Time ∧ (a.Source < b.Source ∨ a.Source = b.Source ∧ a.Seq < b.Seq) := by
  unfold evLess
  split
  · rw [decide_eq_true_eq]; omega
  · split
    · rw [decide_eq_true_eq]; omega
    · rw [decide_eq_true_eq]; omega
def cmpE (a b : GEvent) : Int := if a.Time = b.Time ∧ a.Source = b.Source ∧ a.Seq = b.Seq then 0 else if evLess a b = true then -1 else 1
theorem rless_ok (a b : GEvent) : m_telltaleref07_Less a b = some (evLess a b) := by
  unfold m_telltaleref07_Less evLess
  by_cases h1 : a.Time ≠ b.Time
  · rw [decide_eq_true h1, if_pos h1]; rfl
  · rw [decide_eq_false h1, if_neg h1, cond_false]
    by_cases h2 : a.Source ≠ b.Source
    · rw [decide_eq_true h2, if_pos h2]; rfl
    · rw [decide_eq_false h2, if_neg h2]; rfl
theorem idless_ok (a b : GEvent) : m_event_ID_Less (GID.mk a.Time a.Source a.Seq) (GID.mk b.Time b.Source b.Seq) = some (evLess a b) := by
  unfold m_event_ID_Less evLess
  by_cases h1 : a.Time ≠ b.Time
  · rw [decide_eq_true h1, if_pos h1]; rfl
  · rw [decide_eq_false h1, if_neg h1, cond_false]
    by_cases h2 : a.Source ≠ b.Source
    · rw [decide_eq_true h2, if_pos h2]; rfl
    · rw [decide_eq_false h2, if_neg h2]; rfl
theorem order_ok (a b : GEvent) : m_event_order a b = some (cmpE a b) := by
  unfold m_event_order m_event_Event_ID cmpE
  rw [obind_some, obind_some, idless_ok, obind_some, obind_some]
  by_cases h : a.Time = b.Time ∧ a.Source = b.Source ∧ a.Seq = b.Seq
  · rw [if_pos h, decide_eq_true h.1, decide_eq_true h.2.1, decide_eq_true h.2.2]; rfl
  · rw [if_neg h, show (decide (a.Time = b.Time) && (decide (a.Source = b.Source) && (decide (a.Seq = b.Seq) && true))) = false by
      rw [Bool.eq_false_iff]; intro q; apply h; simpa using q]
    cases evLess a b <;> rfl
theorem ltc_iff (a b : GEvent) : ltc cmpE a b ↔ evLess a b = true := by
  unfold ltc cmpE
  have := evLess_iff a b
  constructor
  · intro h
    split at h
    · omega
    · split at h
      · assumption
      · omega
  · intro h
    have h2 := this.1 h
    rw [if_neg (by omega), if_pos h]; omega
theorem ordE : Ord (fun _ : GEvent => True) (ltc cmpE) := by
  refine ⟨fun x y _ _ h1 h2 => ?_, fun x y z _ _ _ h1 h2 h3 => ?_⟩
  · rw [ltc_iff, evLess_iff] at h1 h2; omega
  · rw [ltc_iff, evLess_iff] at h1 h2 h3; omega
theorem clone_ok {e : GEvent} (h : e.Vals.length ≤ 1000) : m_event_clone e = some e := by
  unfold m_event_clone m_slices_Clone_Value
  rw [app_ok (by simp; omega), obind_some, obind_some, List.nil_append]
theorem esort_ok {l : List GEvent} (hl : l.length ≤ 20) (hb : ∀ e ∈ l, e.Vals.length ≤ 1000) : m_event_Sort l = some (isort (ltc cmpE) l) := by
  unfold m_event_Sort
  have := map_loopK (L := fun fu s i => m_event_Sort_l1 l fu s i) (l := l) (f := id) (K := fun s => Option.bind (m_slices_SortStableFunc_Event__event_order s) fun r => some r) (by omega)
    (fun fu s => by unfold m_event_Sort_l1; rw [d_nlt (by omega)]; rfl)
    (fun fu s i hi hs => by
      have hm := hb _ (List.getElem_mem hi)
      conv => lhs; unfold m_event_Sort_l1
      rw [d_lt (by omega), cond_true, geti_lt hi, obind_some, clone_ok hm, obind_some, app_ok (by simp; omega), obind_some, inc_ok (by omega)]; rfl)
  rw [List.map_id] at this
  refine this.trans ?_
  unfold m_slices_SortStableFunc_Event__event_order
  rw [m_event_order_sort.stb_small (Q := fun _ => True) (c := cmpE) (fun x y _ _ => order_ok x y) ordE hl (by simp)]; rfl
/-! ### the mirror -/
theorem tw_take {α : Type} (p : α → Bool) (s : List α) : s.takeWhile p = s.take (s.takeWhile p).length ∧ s.dropWhile p = s.drop (s.takeWhile p).length := by
  have e := List.takeWhile_append_dropWhile (p := p) (l := s)
  refine ⟨?_, ?_⟩
  · conv => rhs; arg 2; rw [← e]
    rw [List.take_left' rfl]
  · conv => rhs; arg 2; rw [← e]
    rw [List.drop_left' rfl]
theorem into_j2 {s : List GEvent} {x : GEvent} {k : Nat} (hs : s.length ≤ 1000) (hk : k ≤ s.length) : m_telltaleref07_Into_j2 s x (k : Int) = some (s.take k ++ x :: s.drop k) := by
  unfold m_telltaleref07_Into_j2
  have e1 := cut_ok (l := s) (a := 0) (b := k) (by omega) hk
  have e2 := cut_ok (l := s) (a := k) (b := s.length) hk (Nat.le_refl _)
  rw [List.drop_zero, Nat.sub_zero] at e1
  rw [List.take_of_length_le (by rw [List.length_drop]; omega)] at e2
  rw [show cut s 0 (k : Int) = some (s.take k) from e1, obind_some, app_ok (by simp; omega), obind_some, app_ok (by simp; omega), obind_some, e2, obind_some, app_ok (by simp; omega), obind_some]
  simp
theorem into_ok {s : List GEvent} {x : GEvent} (hs : s.length ≤ 1000) : m_telltaleref07_Into s x = some (insS (ltc cmpE) s x) := by
  unfold m_telltaleref07_Into insS
  obtain ⟨t1, t2⟩ := tw_take (fun y => !decide (ltc cmpE x y)) s
  rw [t1, t2]
  have hw : (s.takeWhile (fun y => !decide (ltc cmpE x y))).length ≤ s.length := (List.takeWhile_sublist _).length_le
  have := loop1_0 (L := fun fu i => m_telltaleref07_Into_l0 s x fu i) (n := s.length) (P := fun i o => o = m_telltaleref07_Into_j2 s x ((i + ((s.drop i).takeWhile (fun y => !decide (ltc cmpE x y))).length : Nat) : Int)) (by omega)
    (fun fu => by unfold m_telltaleref07_Into_l0; rw [d_nlt (by omega), List.drop_of_length_le (Nat.le_refl _)]; rfl)
    (fun fu i hi ih => by
      unfold m_telltaleref07_Into_l0
      rw [d_lt (by omega), cond_true, geti_lt hi, obind_some, rless_ok, obind_some, inc_ok (by omega), ih, drop_cons hi, List.takeWhile_cons]
      by_cases h : evLess x s[i] = true
      · rw [h, if_neg (by simp [(ltc_iff x s[i]).2 h])]; rfl
      · rw [Bool.not_eq_true] at h
        rw [h, if_pos (by rw [decide_eq_false (fun q => by rw [ltc_iff, h] at q; cases q)]; rfl), List.length_cons, show i + (((s.drop (i + 1)).takeWhile fun y => !decide (ltc cmpE x y)).length + 1) = i + 1 + ((s.drop (i + 1)).takeWhile fun y => !decide (ltc cmpE x y)).length by omega]; rfl)
  rw [List.drop_zero, Nat.zero_add] at this
  refine this.trans ?_
  rw [into_j2 hs hw, ← t1, ← t2]
theorem rsort_ok {l : List GEvent} (hl : l.length ≤ 100) : m_telltaleref07_Sort l = some (isort (ltc cmpE) l) := by
  unfold m_telltaleref07_Sort isort
  have := loopG_0 (L := fun fu s i => m_telltaleref07_Sort_l0 l fu s i) (n := l.length) (P := fun i s o => s.length = i → o = some ((l.drop i).foldl (insS (ltc cmpE)) s)) (by omega)
    (fun fu s hs => by unfold m_telltaleref07_Sort_l0; rw [d_nlt (by omega), List.drop_of_length_le (Nat.le_refl _)]; rfl)
    (fun fu s i hi ih hs => by
      unfold m_telltaleref07_Sort_l0
      rw [d_lt (by omega), cond_true, geti_lt hi, obind_some, into_ok (by omega), obind_some, inc_ok (by omega), ih _ (by have := (insS_perm (lt := ltc cmpE) s l[i]).length_eq; rw [this]; simp [hs]), drop_cons hi, List.foldl_cons])
    [] rfl
  rw [List.drop_zero] at this; exact this
theorem rsameAll_ok {a b : List GEvent} (ha : a.length ≤ 1000) (hb : b.length ≤ 1000) (va : ∀ e ∈ a, e.Vals.length ≤ 1000) (vb : ∀ e ∈ b, e.Vals.length ≤ 1000) : m_telltaleref07_SameAll a b = some (decide (a = b)) := by
  unfold m_telltaleref07_SameAll
  by_cases h5 : a.length = b.length
  · rw [decide_eq_false (by simp [h5]), cond_false]
    exact eq_loop (L := fun fu i => m_telltaleref07_SameAll_l1 a b fu i) (a := a) (b := b) h5 (by omega)
      (fun fu => by unfold m_telltaleref07_SameAll_l1; rw [d_nlt (by omega)]; rfl)
      (fun fu i i1 i2 => by
        have h1 := va _ (List.getElem_mem i1)
        have h2 := vb _ (List.getElem_mem i2)
        conv => lhs; unfold m_telltaleref07_SameAll_l1
        rw [d_lt (by omega), cond_true, geti_lt i1, obind_some, geti_lt i2, obind_some, rsame_ok (by omega) (by omega), obind_some, inc_ok (by omega)]
        by_cases h : a[i] = b[i]
        · rw [decide_eq_true h, if_pos h]; rfl
        · rw [decide_eq_false h, if_neg h]; rfl)
  · rw [decide_eq_true (by omega), decide_eq_false (fun h : a = b => h5 (by rw [h]))]; rfl
theorem esame_ok {a b : GEvent} (ha : a.Vals.length ≤ 1000000) (hb : b.Vals.length ≤ 1000000) : m_event_Same a b = some (decide (a = b)) := by
  unfold m_event_Same m_event_Event_ID
  rw [obind_some, obind_some, obind_some]
  simp only
  by_cases h1 : a.Time = b.Time ∧ a.Source = b.Source ∧ a.Seq = b.Seq
  · rw [decide_eq_true h1.1, decide_eq_true h1.2.1, decide_eq_true h1.2.2]
    by_cases h4 : a.Type_ = b.Type_
    · rw [decide_eq_true h4]
      show Option.bind (m_slices_Equal_Value a.Vals b.Vals) (fun r => some r) = _
      unfold m_slices_Equal_Value
      by_cases h5 : a.Vals.length = b.Vals.length
      · rw [decide_eq_false (by simp [h5]), cond_false]
        have := eq_loop (L := fun fu i => m_slices_Equal_Value_l2 a.Vals b.Vals fu i) (a := a.Vals) (b := b.Vals) h5 (by omega)
          (fun fu => by unfold m_slices_Equal_Value_l2; rw [d_nlt (by omega)]; rfl)
          (fun fu i i1 i2 => by
            conv => lhs; unfold m_slices_Equal_Value_l2
            rw [d_lt (by omega), cond_true, geti_lt i1, obind_some, geti_lt i2, obind_some, same4, obind_some, inc_ok (by omega)]
            by_cases h : a.Vals[i] = b.Vals[i]
            · rw [decide_eq_true h, if_pos h]; rfl
            · rw [decide_eq_false h, if_neg h]; rfl)
        rw [show m_slices_Equal_Value_l2 a.Vals b.Vals 1152921504606846976 0 = some (decide (a.Vals = b.Vals)) from this, obind_some]
        congr 1
        exact decide_eq_decide.2 ⟨fun h => evEq h1.1 h1.2.1 h1.2.2 h4 h, fun h => by rw [h]⟩
      · rw [decide_eq_true (by omega), decide_eq_false (fun h : a = b => h5 (by rw [h]))]; rfl
    · rw [decide_eq_false h4, decide_eq_false (fun h : a = b => h4 (by rw [h]))]; rfl
  · rw [show (decide (a.Time = b.Time) && (decide (a.Source = b.Source) && (decide (a.Seq = b.Seq) && true))) = false by
      rw [Bool.eq_false_iff]; intro q; apply h1; simpa using q, decide_eq_false (fun h : a = b => h1 (by rw [h]; exact ⟨rfl, rfl, rfl⟩))]; rfl
/-- Each less than the next. -/
def chn : List GEvent → Bool
  | [] => true
  | [_] => true
  | x :: y :: r => evLess x y && chn (y :: r)
theorem dec_ok {i : Nat} (h : 1 ≤ i) (h2 : i ≤ 1000000) : IntKind.i64.wrap ((i : Int) - 1) = ((i - 1 : Nat) : Int) := by rw [w64 (by omega) (by omega)]; omega
theorem chn_at {l : List GEvent} {i : Nat} (h1 : 1 ≤ i) (h2 : i < l.length) : chn (l.drop (i - 1)) = (evLess (l[i - 1]'(by omega)) l[i] && chn (l.drop i)) := by
  rw [drop_cons (l := l) (i := i - 1) (by omega)]
  have e : i - 1 + 1 = i := by omega
  rw [e, drop_cons h2, chn]
theorem chn_end {l : List GEvent} {i : Nat} (h1 : l.length ≤ i + 1) : chn (l.drop i) = true := by
  generalize hr : l.drop i = r
  have : r.length ≤ 1 := by rw [← hr, List.length_drop]; omega
  match r, this with
  | [], _ => rfl
  | [x], _ => rfl
theorem sorted_ok {l : List GEvent} (hl : l.length ≤ 1000) : m_event_Sorted l = some (chn l) := by
  unfold m_event_Sorted
  by_cases h : 1 ≤ l.length
  · have := loop1 (L := fun fu i => m_event_Sorted_l0 l fu i) (n := l.length) (P := fun i o => 1 ≤ i → o = some (chn (l.drop (i - 1))))
      (fun fu h1 => by unfold m_event_Sorted_l0; rw [d_nlt (by omega), chn_end (by omega)]; rfl)
      (fun fu i hi ih h1 => by
        unfold m_event_Sorted_l0
        rw [d_lt (by omega), cond_true, dec_ok h1 (by omega), geti_lt (by omega), obind_some, geti_lt hi, obind_some, order_ok, obind_some, inc_ok (by omega), ih (by omega), chn_at h1 hi, Nat.add_sub_cancel]
        have := ltc_iff (l[i - 1]'(by omega)) l[i]
        unfold ltc at this
        by_cases hc : evLess (l[i - 1]'(by omega)) l[i] = true
        · have h3 := this.2 hc
          rw [decide_eq_false (by omega), hc, cond_false, Bool.true_and]
        · have h3 : ¬ cmpE (l[i - 1]'(by omega)) l[i] < 0 := fun q => hc (this.1 q)
          rw [Bool.not_eq_true] at hc
          rw [decide_eq_true (by omega), hc]; rfl) 1152921504606846976 1 h (by omega) (by omega)
    rw [Nat.sub_self, List.drop_zero] at this; exact this
  · have : l = [] := List.eq_nil_of_length_eq_zero (by omega)
    subst this; rfl
theorem rsorted_ok {l : List GEvent} (hl : l.length ≤ 1000) : m_telltaleref07_Sorted l = some (chn l) := by
  unfold m_telltaleref07_Sorted
  by_cases h : 1 ≤ l.length
  · have := loop1 (L := fun fu i => m_telltaleref07_Sorted_l0 l fu i) (n := l.length) (P := fun i o => 1 ≤ i → o = some (chn (l.drop (i - 1))))
      (fun fu h1 => by unfold m_telltaleref07_Sorted_l0; rw [d_nlt (by omega), chn_end (by omega)]; rfl)
      (fun fu i hi ih h1 => by
        unfold m_telltaleref07_Sorted_l0
        rw [d_lt (by omega), cond_true, dec_ok h1 (by omega), geti_lt (by omega), obind_some, geti_lt hi, obind_some, rless_ok, obind_some, inc_ok (by omega), ih (by omega), chn_at h1 hi, Nat.add_sub_cancel]
        cases evLess (l[i - 1]'(by omega)) l[i] <;> rfl) 1152921504606846976 1 h (by omega) (by omega)
    rw [Nat.sub_self, List.drop_zero] at this; exact this
  · have : l = [] := List.eq_nil_of_length_eq_zero (by omega)
    subst this; rfl
/-! ### copies of lists -/
theorem ownAll_ok {l : List GEvent} (hl : l.length ≤ 1000) (hb : ∀ e ∈ l, e.Vals.length ≤ 1000) : m_telltalelaw07_OwnAll l = some l := by
  have := map_loop (L := fun fu s i => m_telltalelaw07_OwnAll_l0 l fu s i) (l := l) (f := id) (e := id) (by omega) (fun fu s => by unfold m_telltalelaw07_OwnAll_l0; rw [d_nlt (by omega)]; rfl)
    (fun fu s i hi hs => by
      have hm := hb _ (List.getElem_mem hi)
      conv => lhs; unfold m_telltalelaw07_OwnAll_l0
      rw [d_lt (by omega), cond_true, geti_lt hi, obind_some, own_ok (by omega), obind_some, app_ok (by simp; omega), obind_some, inc_ok (by omega)]; rfl)
  rw [List.map_id] at this; exact this
theorem backAll_ok {l : List GEvent} (hl : l.length ≤ 1000) (hb : ∀ e ∈ l, e.Vals.length ≤ 1000) : m_telltalelaw07_BackAll l = some l := by
  have := map_loop (L := fun fu s i => m_telltalelaw07_BackAll_l0 l fu s i) (l := l) (f := id) (e := id) (by omega) (fun fu s => by unfold m_telltalelaw07_BackAll_l0; rw [d_nlt (by omega)]; rfl)
    (fun fu s i hi hs => by
      have hm := hb _ (List.getElem_mem hi)
      conv => lhs; unfold m_telltalelaw07_BackAll_l0
      rw [d_lt (by omega), cond_true, geti_lt hi, obind_some, back_ok (by omega), obind_some, app_ok (by simp; omega), obind_some, inc_ok (by omega)]; rfl)
  rw [List.map_id] at this; exact this
end Go.Proofs.Ytbgioanegbipgaa.K
