/- The sorter's ways and the document's: plain. -/
import Derived.Test.YtanahlngkociaaaPhm
import Derived.Test.YtanahlngkociaaaPev
import Derived.Test.YtanahlngkociaaaLO
namespace Go.Proofs.Ytanahlngkociaaa.K
open Go.RowKit Go.Lib
set_option linter.unusedVariables false
set_option linter.unusedSimpArgs false
theorem awk24 : m_telltalelaw24_awake = some true := by decide +kernel
theorem wf_evM24 {e : GEvent} (h : wf_GEvent e) : evM e := ⟨h.Type_, h.Vals.1, fun v hv => (h.Vals.2 v hv).Text⟩
theorem same_self {e : GEvent} (h : evB e) : m_telltaleref07_Same e e = some true := by
  have hv := h.2.1
  unfold m_telltaleref07_Same
  rw [decide_eq_false (by simp), cond_false, decide_eq_false (by simp), cond_false, decide_eq_false (by simp), cond_false, decide_eq_false (by simp), cond_false, decide_eq_false (by simp), cond_false]
  exact loop1_0 (L := fun fu i => m_telltaleref07_Same_l2 e e fu i) (n := e.Vals.length) (P := fun i o => o = some true) (by omega)
    (fun fu => by unfold m_telltaleref07_Same_l2; rw [d_nlt (by omega), cond_false])
    (fun fu i hi ih => by
      unfold m_telltaleref07_Same_l2
      rw [d_lt (by omega), cond_true, geti_lt hi, obind_some, obind_some, inc_ok (by omega), ih]
      simp [obind_some])
theorem sameAll_self {l : List GEvent} (hl : l.length ≤ 1000) (h : ∀ e ∈ l, evB e) : m_telltaleref07_SameAll l l = some true := by
  unfold m_telltaleref07_SameAll
  rw [decide_eq_false (by simp), cond_false]
  exact loop1_0 (L := fun fu i => m_telltaleref07_SameAll_l1 l l fu i) (n := l.length) (P := fun i o => o = some true) (by omega)
    (fun fu => by unfold m_telltaleref07_SameAll_l1; rw [d_nlt (by omega), cond_false])
    (fun fu i hi ih => by
      unfold m_telltaleref07_SameAll_l1
      rw [d_lt (by omega), cond_true, geti_lt hi, obind_some, obind_some, same_self (h _ (List.getElem_mem hi)), obind_some, Bool.not_true, cond_false, inc_ok (by omega), ih])
theorem backAll_ok {l : List GEvent} (hl : l.length ≤ 1000) (h : ∀ e ∈ l, evB e) : m_telltalelaw07_BackAll l = some l := by
  have := map_loop (L := fun fu s i => m_telltalelaw07_BackAll_l0 l fu s i) (l := l) (f := id) (e := id) (by omega) (fun fu s => by unfold m_telltalelaw07_BackAll_l0; rw [d_nlt (by omega)]; rfl)
    (fun fu s i hi hs => by
      have hv := (h _ (List.getElem_mem hi)).2.1
      conv => lhs; unfold m_telltalelaw07_BackAll_l0
      rw [d_lt (by omega), cond_true, geti_lt hi, obind_some, back_ok (by omega), obind_some, app_ok (by simp; omega), obind_some, inc_ok (by omega)]; rfl)
  rw [List.map_id] at this; exact this
/-! ### the document's -/
theorem lte_trans {a b c : GEvent} (h : lte a b = true) (k : lte b c = true) : lte a c = true := by rw [lte_t] at *; omega
theorem rless (a b : GEvent) : m_telltaleref07_Less a b = some (lte a b) := by
  unfold m_telltaleref07_Less lte
  by_cases h1 : a.Time = b.Time
  · by_cases h2 : a.Source = b.Source <;> simp [h1, h2]
  · simp [h1]
def sid (x e : GEvent) : Bool := decide (x.Time = e.Time) && (decide (x.Source = e.Source) && (decide (x.Seq = e.Seq) && true))
theorem sid_iff {x e : GEvent} : sid x e = true ↔ lte x e = false ∧ lte e x = false := by
  simp only [sid, Bool.and_eq_true, decide_eq_true_eq, lte_f, and_true]; omega
def ins (e : GEvent) : List GEvent → List GEvent
  | [] => [e]
  | x :: r => if lte e x = true then e :: x :: r else x :: ins e r
theorem ins_perm (e : GEvent) : ∀ l, (ins e l).Perm (e :: l)
  | [] => .refl _
  | x :: r => by
    unfold ins
    split
    · exact .refl _
    · exact (List.Perm.cons x (ins_perm e r)).trans (List.Perm.swap _ _ _)
def Srt (l : List GEvent) : Prop := l.Pairwise fun a b => lte a b = true
theorem ins_srt {e : GEvent} : ∀ {l : List GEvent}, Srt l → l.any (sid · e) = false → Srt (ins e l)
  | [], _, _ => List.pairwise_singleton _ _
  | x :: r, h, k => by
    unfold Srt at h
    rw [List.pairwise_cons] at h
    simp only [List.any_cons, Bool.or_eq_false_iff] at k
    unfold ins
    split
    · rename_i hx
      exact List.pairwise_cons.2 ⟨fun y hy => by
        rcases List.mem_cons.1 hy with rfl | hy
        · exact hx
        · exact lte_trans hx (h.1 y hy), List.pairwise_cons.2 h⟩
    · rename_i hx
      have hxe : lte x e = true := by
        cases q : lte x e with
        | true => rfl
        | false => rw [sid_iff.2 ⟨q, Bool.eq_false_iff.2 hx⟩] at k; cases k.1
      refine List.pairwise_cons.2 ⟨fun y hy => ?_, ins_srt h.2 k.2⟩
      rcases List.mem_cons.1 ((ins_perm e r).mem_iff.1 hy) with rfl | hy
      · exact hxe
      · exact h.1 y hy
theorem into_ok {l : List GEvent} {e : GEvent} (hl : l.length ≤ 1000) : m_telltaleref07_Into l e = some (ins e l) := by
  have key : ∀ i, i ≤ l.length → m_telltaleref07_Into_j2 l e (i : Int) = some (l.take i ++ e :: l.drop i) := fun i hi => by
    unfold m_telltaleref07_Into_j2
    have e1 := cut_ok (l := l) (a := 0) (b := i) (by omega) hi
    rw [Int.natCast_zero] at e1
    have e2 := cut_ok (l := l) hi (Nat.le_refl _)
    rw [List.take_of_length_le (by simp)] at e2
    rw [e1, obind_some, List.drop_zero, Nat.sub_zero, app_ok (by simp; omega), obind_some, app_ok (by simp; omega), obind_some, e2, obind_some, app_ok (by simp; omega), obind_some]
    simp
  have := loop1_0 (L := fun fu i => m_telltaleref07_Into_l0 l e fu i) (n := l.length) (P := fun i o => o = some (l.take i ++ ins e (l.drop i))) (by omega)
    (fun fu => by unfold m_telltaleref07_Into_l0; rw [d_nlt (by omega), cond_false, key _ (Nat.le_refl _), List.drop_of_length_le (Nat.le_refl _)]; rfl)
    (fun fu i hi ih => by
      unfold m_telltaleref07_Into_l0
      rw [d_lt (by omega), cond_true, geti_lt hi, obind_some, rless, obind_some, inc_ok (by omega), ih, key _ (by omega), drop_cons hi, take_snoc hi]
      rw [show ins e (l[i] :: l.drop (i + 1)) = if lte e l[i] = true then e :: l[i] :: l.drop (i + 1) else l[i] :: ins e (l.drop (i + 1)) from rfl]
      cases q : lte e l[i] with
      | true => simp
      | false => rw [if_neg (by decide), List.append_assoc]; rfl)
  unfold m_telltaleref07_Into
  simpa using this
/-- Put, as both do. -/
def putA (c : Int) (l : List GEvent) (e : GEvent) (n : List GEvent) : GSorter × Int := if l.any (sid · e) = true then (GSorter.mk c l, 12) else if c ≤ (l.length : Int) then (GSorter.mk c l, 7) else (GSorter.mk c n, 0)
theorem rput {s : GSorter} {e : GEvent} (hl : s.L.length ≤ 1000) : m_telltaleref24_Put s e = some (putA s.Cap s.L e (ins e s.L)) := by
  have := loop1_0 (L := fun fu i => m_telltaleref24_Put_l0 s e fu i) (n := s.L.length) (P := fun i o => o = some (if (s.L.drop i).any (sid · e) = true then (GSorter.mk s.Cap s.L, 12) else if s.Cap ≤ (s.L.length : Int) then (GSorter.mk s.Cap s.L, 7) else (GSorter.mk s.Cap (ins e s.L), 0))) (by omega)
    (fun fu => by
      unfold m_telltaleref24_Put_l0
      rw [d_nlt (by omega), cond_false, into_ok hl, obind_some, List.drop_of_length_le (Nat.le_refl _), List.any_nil, if_neg (by decide)]
      by_cases h : s.Cap ≤ (s.L.length : Int)
      · rw [decide_eq_true h, if_pos h]; rfl
      · rw [decide_eq_false h, if_neg h]; rfl)
    (fun fu i hi ih => by
      unfold m_telltaleref24_Put_l0
      rw [d_lt (by omega), cond_true, geti_lt hi, obind_some, rless, obind_some, obind_some, rless, obind_some, inc_ok (by omega), ih, drop_cons hi, List.any_cons]
      cases q : sid s.L[i] e with
      | true => have := sid_iff.1 q; rw [this.1, this.2]; rfl
      | false =>
        cases q1 : lte s.L[i] e with
        | true => rfl
        | false =>
          cases q2 : lte e s.L[i] with
          | true => rfl
          | false => rw [sid_iff.2 ⟨q1, q2⟩] at q; cases q)
  exact this
/-- Let go: up to t, and the rest. -/
def before (t : Int) (l : List GEvent) : List GEvent := l.filter fun e => decide (e.Time < t)
def after (t : Int) (l : List GEvent) : List GEvent := l.filter fun e => !decide (e.Time < t)
theorem before_lt {t : Int} {x : GEvent} {l : List GEvent} (h : x.Time < t) : before t (x :: l) = x :: before t l ∧ after t (x :: l) = after t l := by simp [before, after, List.filter_cons, h]
theorem before_ge {t : Int} {x : GEvent} {l : List GEvent} (h : ¬ x.Time < t) : before t (x :: l) = before t l ∧ after t (x :: l) = x :: after t l := by simp [before, after, List.filter_cons, h]
theorem rrel {s : GSorter} {t : Int} (hl : s.L.length ≤ 1000) : m_telltaleref24_Release s t = some (before t s.L, GSorter.mk s.Cap (after t s.L)) := by
  have := loopG_0 (L := fun fu (q : List GEvent × List GEvent) i => m_telltaleref24_Release_l0 s t fu q.1 q.2 i) (n := s.L.length) (P := fun i q o => q.1.length ≤ i → q.2.length ≤ i → o = some (q.1 ++ before t (s.L.drop i), GSorter.mk s.Cap (q.2 ++ after t (s.L.drop i)))) (by omega)
    (fun fu q h1 h2 => by
      unfold m_telltaleref24_Release_l0
      rw [d_nlt (by omega), cond_false, List.drop_of_length_le (Nat.le_refl _)]
      simp [before, after])
    (fun fu q i hi ih h1 h2 => by
      unfold m_telltaleref24_Release_l0
      rw [d_lt (by omega), cond_true, geti_lt hi, obind_some, obind_some, obind_some, app_ok (by simp; omega), obind_some, app_ok (by simp; omega), obind_some, inc_ok (by omega), drop_cons hi]
      have e1 := ih (q.1 ++ [s.L[i]], q.2)
      have e2 := ih (q.1, q.2 ++ [s.L[i]])
      simp only at e1 e2
      by_cases h : s.L[i].Time < t
      · rw [decide_eq_true h, cond_true, e1 (by simp; omega) (by omega), (before_lt h).1, (before_lt h).2, List.append_assoc]; rfl
      · rw [decide_eq_false h, cond_false, e2 (by omega) (by simp; omega), (before_ge h).1, (before_ge h).2, List.append_assoc]; rfl) ([], []) (by simp) (by simp)
  unfold m_telltaleref24_Release
  simpa using this
/-! ### the program's -/
theorem index_ok {l : List GEvent} {e : GEvent} (hl : l.length ≤ 1000) : ∃ r, m_slices_IndexFunc_Event__sorter_Sorter_Put_1 l e = some r ∧ decide ((0 : Int) ≤ r) = l.any (sid · e) := by
  have := loop1_0 (L := fun fu i => m_slices_IndexFunc_Event__sorter_Sorter_Put_1_l1 l e fu i) (n := l.length) (P := fun i o => ∃ r, o = some r ∧ decide ((0 : Int) ≤ r) = (l.drop i).any (sid · e)) (by omega)
    (fun fu => by
      unfold m_slices_IndexFunc_Event__sorter_Sorter_Put_1_l1
      rw [d_nlt (by omega), cond_false, List.drop_of_length_le (Nat.le_refl _)]; exact ⟨_, rfl, rfl⟩)
    (fun fu i hi ih => by
      unfold m_slices_IndexFunc_Event__sorter_Sorter_Put_1_l1 m_sorter_Sorter_Put_1 m_event_Event_ID
      rw [d_lt (by omega), cond_true, geti_lt hi, obind_some, obind_some, obind_some, obind_some, obind_some, inc_ok (by omega), drop_cons hi, List.any_cons]
      simp only
      rw [show (decide (l[i].Time = e.Time) && (decide (l[i].Source = e.Source) && (decide (l[i].Seq = e.Seq) && true))) = sid l[i] e from rfl]
      cases sid l[i] e with
      | true => exact ⟨_, rfl, by simp⟩
      | false => simpa using ih)
  unfold m_slices_IndexFunc_Event__sorter_Sorter_Put_1
  simpa using this
theorem pput {s : GSorter} {e : GEvent} (hl : s.L.length ≤ 1000) : m_sorter_Sorter_Put s e = some (putA s.Cap s.L e (push lte s.L e)) := by
  unfold m_sorter_Sorter_Put m_slices_ContainsFunc_Event__sorter_Sorter_Put_1 m_sorter_Sorter_heap putA
  obtain ⟨r, e1, e2⟩ := index_ok (l := s.L) (e := e) hl
  rw [e1, obind_some, obind_some, e2, obind_some, pushev (by omega), obind_some]
  by_cases h : s.Cap ≤ (s.L.length : Int)
  · rw [decide_eq_true h, if_pos h]
    cases s.L.any (sid · e) <;> rfl
  · rw [decide_eq_false h, if_neg h]
    cases s.L.any (sid · e) <;> rfl
/-- The heap has what the list has. -/
structure Rel (h l : List GEvent) : Prop where
  hp : Hp lte h
  perm : h.Perm l
  srt : Srt l
theorem rel_nil : Rel [] [] := ⟨fun j _ h => by simp at h, .refl _, List.Pairwise.nil⟩
theorem Rel.any {h l : List GEvent} (r : Rel h l) (p : GEvent → Bool) : h.any p = l.any p := by
  rw [Bool.eq_iff_iff, List.any_eq_true, List.any_eq_true]
  exact ⟨fun ⟨x, h1, h2⟩ => ⟨x, r.perm.mem_iff.1 h1, h2⟩, fun ⟨x, h1, h2⟩ => ⟨x, r.perm.mem_iff.2 h1, h2⟩⟩
theorem Rel.push {h l : List GEvent} (r : Rel h l) {e : GEvent} (k : l.any (sid · e) = false) : Rel (push lte h e) (ins e l) :=
  ⟨push_heap ord_lte r.hp, (push_perm.trans (List.Perm.cons e r.perm)).trans (ins_perm e l).symm, ins_srt r.srt k⟩
/-- The heap's first is the list's first. -/
theorem Rel.head {a b : GEvent} {h l : List GEvent} (r : Rel (a :: h) (b :: l)) : a = b := by
  rcases List.mem_cons.1 (r.perm.mem_iff.1 (List.mem_cons_self (a := a) (l := h))) with e | e
  · exact e
  · have h1 := (List.pairwise_cons.1 r.srt).1 a e
    have h2 := head_min ord_lte r.hp b (r.perm.mem_iff.2 (List.mem_cons_self (a := b) (l := l)))
    rw [h1] at h2; cases h2
theorem Rel.rest {a b : GEvent} {h l : List GEvent} (r : Rel (a :: h) (b :: l)) : Rel (rest lte (a :: h)) l := by
  obtain rfl := r.head
  exact ⟨rest_heap ord_lte r.hp, ((rest_perm ord_lte).trans r.perm).cons_inv, (List.pairwise_cons.1 r.srt).2⟩
theorem after_of {t : Int} {l : List GEvent} (h : ∀ e ∈ l, ¬ e.Time < t) : after t l = l ∧ before t l = [] := by
  constructor
  · exact List.filter_eq_self.2 fun e he => by simpa using h e he
  · exact List.filter_eq_nil_iff.2 fun e he => by simpa using h e he
theorem srt_tail {t : Int} {b : GEvent} {l : List GEvent} (s : Srt (b :: l)) (h : ¬ b.Time < t) : ∀ e ∈ b :: l, ¬ e.Time < t := fun e he => by
  rcases List.mem_cons.1 he with rfl | he
  · exact h
  · have := (List.pairwise_cons.1 s).1 e he
    rw [lte_t] at this; omega
theorem prel_l {s : GSorter} {t : Int} : ∀ (n fu : Nat) (o h l : List GEvent), l.length = n → n < fu → l.length + o.length ≤ 1000 → Rel h l → ∃ h', m_sorter_Sorter_Release_l1 s t fu o h = some (o ++ before t l, GSorter.mk s.Cap h') ∧ Rel h' (after t l)
  | n, 0, _, _, _, _, h, _, _ => by omega
  | n, fu + 1, o, h, l, hn, hf, hb, r => by
    have pl := r.perm.length_eq
    unfold m_sorter_Sorter_Release_l1 m_sorter_Sorter_Release_j5
    cases l with
    | nil =>
      obtain rfl : h = [] := List.length_eq_zero_iff.1 (by simpa using pl)
      rw [d_nlt (by simp), cond_false]
      exact ⟨[], by simp [before], rel_nil⟩
    | cons b l =>
      cases h with
      | nil => simp at pl
      | cons a h =>
        have e := r.head
        simp only [List.length_cons] at *
        rw [d_lt (by omega), cond_true, geti_0, obind_some, popev (by simp; omega), obind_some, app_ok (by simp; omega), obind_some]
        simp only
        by_cases ht : a.Time < t
        · obtain ⟨h', e1, e2⟩ := prel_l (s := s) (t := t) l.length fu (o ++ [a]) _ l rfl (by omega) (by simp; omega) r.rest
          rw [decide_eq_true ht, cond_true, e1]
          refine ⟨h', ?_, ?_⟩
          · rw [e] at ht ⊢
            simp [before, List.filter_cons, ht]
          · rw [e] at ht
            simpa [after, List.filter_cons, ht] using e2
        · rw [decide_eq_false ht, cond_false]
          have := after_of (srt_tail r.srt (by rw [← e]; exact ht))
          refine ⟨a :: h, ?_, ?_⟩
          · rw [this.2, List.append_nil]
          · rw [this.1]; exact r
theorem prel {s : GSorter} {t : Int} {l : List GEvent} (hl : l.length ≤ 1000) (r : Rel s.L l) : ∃ h', m_sorter_Sorter_Release s t = some (before t l, GSorter.mk s.Cap h') ∧ Rel h' (after t l) := by
  unfold m_sorter_Sorter_Release m_sorter_Sorter_heap
  rw [obind_some]
  have := prel_l (s := s) (t := t) l.length 1152921504606846976 [] s.L l rfl (by omega) (by simpa using hl) r
  simpa using this
def leastA : List GEvent → Int × Bool
  | [] => (0, false)
  | a :: _ => (a.Time, true)
theorem rleast (s : GSorter) : m_telltaleref24_Least s = some (leastA s.L) := by
  unfold m_telltaleref24_Least
  cases s.L with
  | nil => rfl
  | cons a r => rw [decide_eq_false (by simp only [List.length_cons]; omega), cond_false, geti_0]; rfl
theorem pleast {s : GSorter} {l : List GEvent} (r : Rel s.L l) : m_sorter_Sorter_Least s = some (leastA l) := by
  obtain ⟨c, h⟩ := s
  simp only at r
  have pl := r.perm.length_eq
  unfold m_sorter_Sorter_Least
  cases l with
  | nil => obtain rfl : h = [] := List.length_eq_zero_iff.1 (by simpa using pl); rfl
  | cons b l =>
    cases h with
    | nil => simp at pl
    | cons a h => rw [decide_eq_false (by simp only [List.length_cons]; omega), cond_false, geti_0, r.head]; rfl
end Go.Proofs.Ytanahlngkociaaa.K
