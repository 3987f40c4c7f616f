/- PredTrees by models. -/
import Derived.Test.YtkajfanpdabjcaaMpb
namespace Go.Proofs.Ytkajfanpdabjcaa.K
open Go.RowKit Go.Lib
set_option linter.unusedVariables false
set_option linter.unusedSimpArgs false
theorem print_no {l : List GNode_} (hl : l.length ≤ 40) (hS : nS l) (h : chkT l ≠ 0) : m_pred_Print l = some [] := by
  unfold m_pred_Print
  by_cases h0 : l = []
  · subst h0; rfl
  have : l.length ≠ 0 := fun e => h0 (List.eq_nil_of_length_eq_zero e)
  rw [decide_eq_false (by omega), cond_false, pcheck_ok (nB_of hl hS), obind_some, decide_eq_true h, cond_true]
theorem print_tree {t : PT} (h : t.ok 16 0) (hl : t.flat.length ≤ 30) (hS : nS t.flat) : m_pred_Print t.flat = some t.str := by
  unfold m_pred_Print
  have hp := t.flat_pos
  rw [decide_eq_false (by omega), cond_false, pcheck_ok (nB_of (by omega) hS), obind_some, decide_eq_false (by simp [chkT_of h hl]), cond_false]
  rw [show m_pred_printer_tree 1152921504606846976 (GTchecker.mk t.flat 0) = _ from ptext_ok (l := t.flat) (by omega) hS (t := t) (a := 0) (fu := 1152921504606846976) (r := []) h (by simp) (by omega)]
  rfl
theorem str_ne {t : PT} {d : Nat} (h : t.ok d 0) : t.str ≠ [] := by
  cases t with
  | leaf n =>
    cases d with
    | zero => exact h.elim
    | succ d =>
      have hk := kids_no h.2.2 h.1
      have := h.1
      unfold mayN at this
      rw [if_pos rfl] at this
      have := of_decide_eq_true this
      omega
  | one n a => unfold PT.str; simp
  | two n a b => unfold PT.str; simp
theorem sub_at : ∀ {t : PT} {d wh i : Nat}, t.ok d wh → i < t.flat.length → ∃ s d' wh' r, t.flat.drop i = PT.flat s ++ r ∧ s.ok d' wh' ∧ d' ≤ d
  | t, d, wh, 0, h, hi => ⟨t, d, wh, [], by simp, h, Nat.le_refl _⟩
  | .leaf n, d, wh, i + 1, h, hi => by simp [PT.flat] at hi
  | .one n a, 0, wh, i + 1, h, hi => h.elim
  | .one n a, d + 1, wh, i + 1, h, hi => by
    obtain ⟨s, d', wh', r, e, k, q⟩ := sub_at (t := a) (i := i) h.2.2.2 (by simpa [PT.flat] using hi)
    exact ⟨s, d', wh', r, e, k, by omega⟩
  | .two n a b, 0, wh, i + 1, h, hi => h.elim
  | .two n a b, d + 1, wh, i + 1, h, hi => by
    have hi' : i < a.flat.length + b.flat.length := by simpa [PT.flat] using hi
    by_cases c : i < a.flat.length
    · obtain ⟨s, d', wh', r, e, k, q⟩ := sub_at (t := a) (i := i) h.2.2.2.1 c
      refine ⟨s, d', wh', r ++ b.flat, ?_, k, by omega⟩
      show (a.flat ++ b.flat).drop i = _
      rw [List.drop_append_of_le_length (by omega), e, List.append_assoc]
    · obtain ⟨s, d', wh', r, e, k, q⟩ := sub_at (t := b) (i := i - a.flat.length) h.2.2.2.2 (by omega)
      refine ⟨s, d', wh', r, ?_, k, by omega⟩
      show (a.flat ++ b.flat).drop i = _
      rw [List.drop_append, List.drop_of_length_le (by omega), List.nil_append, e]
theorem size_at {l r : List GNode_} {u : PT} {d wh p : Nat} (hl : l.length ≤ 1000) (h : u.ok d wh) (e : l.drop p = u.flat ++ r) : m_pred_Size l (p : Int) = some (u.flat.length : Int) := by
  have hp : p < l.length := by
    have := congrArg List.length e
    have := u.flat_pos
    simp at *; omega
  rw [psize_ok hl]
  unfold sizN
  rw [if_neg (by omega), Int.toNat_natCast, e, scn_flat (k := 0) h, if_pos rfl]; rfl
theorem kids_at {l r : List GNode_} {n : GNode_} {p : Nat} (e : l.drop p = n :: r) : Option.bind (geti l (p : Int)) (fun x => m_pred_Kids x.Kind) = some (kidsN (nK n) : Int) := by
  rw [geti_at e, obind_some]; exact kids_ok _
theorem low_wh {k wh : Nat} (h : mayN k wh = true) (hk : k ≤ 4) : wh = 0 := by
  unfold mayN at h
  split at h
  · assumption
  · split at h
    · have := of_decide_eq_true h; omega
    · have := of_decide_eq_true h; omega
theorem may_of {t : PT} {d wh : Nat} (h : t.ok d wh) : mayN (nK t.nd) wh = true := by
  cases d with
  | zero => cases t <;> exact h.elim
  | succ d => cases t <;> exact h.1
theorem tr_at {l r : List GNode_} {s : PT} {d wh i : Nat} (hl : l.length ≤ 30) (hS : nS l) (h : s.ok d wh) (hd : d ≤ 16) (e : l.drop i = s.flat ++ r) (K : Int → Option Bool) :
    m_telltalelaw11_PredTrees_l10 l (s.flat.length : Int) (i : Int) K 1152921504606846976 ((i + 1 : Nat) : Int) 0 = K ((i + 1 : Nat) : Int) := by
  obtain ⟨r0, hr0⟩ := s.flat_cons
  have e0 : l.drop i = s.nd :: (r0 ++ r) := by rw [e, hr0]; rfl
  have hlen : i + s.flat.length ≤ l.length := by
    have := congrArg List.length e
    have := s.flat_pos
    simp at *; omega
  have fin : ∀ (fu p k : Nat), kidsN (nK s.nd) ≤ k → p = i + s.flat.length → m_telltalelaw11_PredTrees_l10 l (s.flat.length : Int) (i : Int) K (fu + 1) (p : Int) (k : Int) = K ((i + 1 : Nat) : Int) := fun fu p k hk hp => by
    unfold m_telltalelaw11_PredTrees_l10
    rw [geti_at e0, obind_some, show m_pred_Kids s.nd.Kind = some (kidsN (nK s.nd) : Int) from kids_ok _, obind_some, d_nlt (by omega), cond_false, w64 (by omega) (by omega), decide_eq_false (by omega), cond_false, d_nlt (by omega), cond_false, obind_some]
    have hk' : nK s.nd = s.nd.Kind.toNat := rfl
    rw [inc_ok (by omega)]
    by_cases q : nK s.nd ≤ 4
    · obtain rfl : wh = 0 := low_wh (may_of h) q
      rw [decide_eq_true (by omega), cond_true, cut_ok (by omega) (by omega), obind_some]
      have ec : (l.drop i).take (p - i) = s.flat := by rw [e, hp]; simp
      rw [ec, pcheck_ok (nB_of (by omega) (nS_sub hS e)), obind_some, chkT_of (PT.ok_up hd h) (by omega)]
      rfl
    · rw [decide_eq_false (by omega), cond_false]
  have stp : ∀ (fu p k m : Nat), k < kidsN (nK s.nd) → p + m ≤ l.length → 1 ≤ m → m_pred_Size l (p : Int) = some (m : Int) → m_telltalelaw11_PredTrees_l10 l (s.flat.length : Int) (i : Int) K (fu + 1) (p : Int) (k : Int) = m_telltalelaw11_PredTrees_l10 l (s.flat.length : Int) (i : Int) K fu ((p + m : Nat) : Int) ((k + 1 : Nat) : Int) := fun fu p k m hk hpm hm hs => by
    have := kids_le (nK s.nd)
    conv => lhs; unfold m_telltalelaw11_PredTrees_l10
    rw [geti_at e0, obind_some, show m_pred_Kids s.nd.Kind = some (kidsN (nK s.nd) : Int) from kids_ok _, obind_some, d_lt (by omega), cond_true, hs, obind_some, d_nlt (by omega), cond_false, w64 (by omega) (by omega), inc_ok (by omega)]
    rfl
  cases d with
  | zero => cases s <;> exact h.elim
  | succ d =>
  cases s with
  | leaf n =>
    exact fin 1152921504606846975 (i + 1) 0 (by show kidsN (nK n) ≤ 0; have := h.2.2; omega) rfl
  | one n a =>
    have ea : l.drop (i + 1) = a.flat ++ r := drop_at (s := [n]) e
    have hk : kidsN (nK n) = 1 := h.2.2.1
    have hx : (PT.one n a).flat.length = a.flat.length + 1 := rfl
    rw [show m_telltalelaw11_PredTrees_l10 l ((PT.one n a).flat.length : Int) (i : Int) K 1152921504606846976 ((i + 1 : Nat) : Int) 0 = _ from stp 1152921504606846975 (i + 1) 0 a.flat.length (by show 0 < kidsN (nK n); omega) (by omega) a.flat_pos (size_at (by omega) h.2.2.2 ea)]
    exact fin 1152921504606846974 _ 1 (by show kidsN (nK n) ≤ 1; omega) (by omega)
  | two n a b =>
    have ea : l.drop (i + 1) = a.flat ++ (b.flat ++ r) := by rw [← List.append_assoc]; exact drop_at (s := [n]) e
    have eb : l.drop (i + 1 + a.flat.length) = b.flat ++ r := drop_at ea
    have hk : kidsN (nK n) = 2 := h.2.2.1
    have hx : (PT.two n a b).flat.length = a.flat.length + b.flat.length + 1 := by simp [PT.flat]
    rw [show m_telltalelaw11_PredTrees_l10 l ((PT.two n a b).flat.length : Int) (i : Int) K 1152921504606846976 ((i + 1 : Nat) : Int) 0 = _ from stp 1152921504606846975 (i + 1) 0 a.flat.length (by show 0 < kidsN (nK n); omega) (by omega) a.flat_pos (size_at (by omega) h.2.2.2.1 ea)]
    rw [stp 1152921504606846974 (i + 1 + a.flat.length) (0 + 1) b.flat.length (by show 0 + 1 < kidsN (nK n); omega) (by omega) b.flat_pos (size_at (by omega) h.2.2.2.2 eb)]
    exact fin 1152921504606846973 _ 2 (by show kidsN (nK n) ≤ 2; omega) (by omega)
theorem main_PredTrees (l : List GNode_) (hx : (wfL wf_GNode_) l) : m_telltalelaw11_PredTrees l = some true := by
  unfold m_telltalelaw11_PredTrees
  obtain ⟨r0, e0, q0⟩ := over_ok (l := l) hx.2
  rw [e0, obind_some]
  rcases q0 with rfl | ⟨rfl, q0⟩
  · rw [d_lt (by decide), cond_true, awake_ok]; rfl
  have hl := q0.1
  rw [d_nlt (by decide), cond_false, own_ok (by omega), obind_some, pcheck_ok (nB_of q0.1 q0.2), obind_some, awake_ok]
  by_cases c : chkT l = 0
  · rw [decide_eq_false (by simp [c]), cond_false]
    rcases chkT_tree c with h0 | ⟨t, rfl, ht, h30⟩
    · subst h0; rfl
    · have hp := t.flat_pos
      rw [decide_eq_false (by omega), cond_false, show m_pred_Size t.flat 0 = some (t.flat.length : Int) from size_at (p := 0) (r := []) (by omega) ht (by simp), obind_some, decide_eq_false (by simp), cond_false, print_tree ht h30 q0.2, obind_some, decide_eq_false (str_ne ht), cond_false]
      refine loop1_0 (L := fun fu i => m_telltalelaw11_PredTrees_l7 t.flat fu i) (n := t.flat.length) (P := fun i o => o = some true) (by omega) (fun fu => ?_) (fun fu i hi ih => ?_)
      · show m_telltalelaw11_PredTrees_l7 t.flat (fu + 1) _ = _
        unfold m_telltalelaw11_PredTrees_l7
        rw [d_nlt (by omega), cond_false, awake_ok]; rfl
      · show m_telltalelaw11_PredTrees_l7 t.flat (fu + 1) _ = _
        unfold m_telltalelaw11_PredTrees_l7
        obtain ⟨s, d', wh', r, e, k, q⟩ := sub_at ht hi
        rw [d_lt (by omega), cond_true, size_at (by omega) k e, obind_some, inc_ok (by omega), tr_at h30 q0.2 k q e]
        exact ih
  · rw [decide_eq_true c, cond_true, print_no q0.1 q0.2 c]
    cases l with
    | nil => exact absurd rfl c
    | cons n l =>
      rw [decide_eq_false (by rw [List.length_cons]; omega)]; rfl
end Go.Proofs.Ytkajfanpdabjcaa.K
