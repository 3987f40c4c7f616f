/- A tally's bytes: plain. -/
import Derived.Test.YtkpfagmlohcdjaaPtrn
import Derived.Test.YtkpfagmlohcdjaaPzig
import Derived.Test.YtkpfagmlohcdjaaPztake
namespace Go.Proofs.Ytkpfagmlohcdjaa.K
open Go.RowKit Go.Lib
set_option linter.unusedVariables false
set_option linter.unusedSimpArgs false
/-- Its numbers are numbers of 64 bits. -/
structure ch64 (x : GChange) : Prop where
  L : -9223372036854775808 ≤ x.Loc ∧ x.Loc ≤ 9223372036854775807
  T : -9223372036854775808 ≤ x.Time ∧ x.Time ≤ 9223372036854775807
  N : -9223372036854775808 ≤ x.N ∧ x.N ≤ 9223372036854775807
def chgB (x : GChange) : List UInt8 := zb (zfold x.Loc) ++ zb (zfold x.Time) ++ zb (zfold x.N)
def chgsB (l : List GChange) : List UInt8 := l.flatMap chgB
theorem zbI_le {n : Int} (h : -9223372036854775808 ≤ n ∧ n ≤ 9223372036854775807) : (zb (zfold n)).length ≤ 10 := by rw [zb_length]; exact zn_le10 _ (zfold_lt n h.1 h.2)
theorem chgB_le {x : GChange} (h : ch64 x) : (chgB x).length ≤ 30 := by
  have h1 := zbI_le h.L; have h2 := zbI_le h.T; have h3 := zbI_le h.N
  unfold chgB; simp only [List.length_append]; omega
theorem chgsB_le : ∀ {l : List GChange}, (∀ x ∈ l, ch64 x) → (chgsB l).length ≤ 30 * l.length
  | [], _ => by simp [chgsB]
  | x :: l, h => by
    have h1 := chgB_le (h x (by simp))
    have h2 := chgsB_le (l := l) fun y hy => h y (by simp [hy])
    unfold chgsB at h2 ⊢
    rw [List.flatMap_cons, List.length_append, List.length_cons]; omega
theorem chgsB_snoc {l : List GChange} {i : Nat} (hi : i < l.length) : chgsB (l.take (i + 1)) = chgsB (l.take i) ++ chgB l[i] := by
  rw [take_snoc hi]; unfold chgsB; rw [List.flatMap_append]; simp only [List.flatMap_cons, List.flatMap_nil, List.append_nil]
theorem chgsB_drop {l : List GChange} {i : Nat} (hi : i < l.length) : chgsB (l.drop i) = chgB l[i] ++ chgsB (l.drop (i + 1)) := by
  rw [drop_cons hi]; unfold chgsB; rw [List.flatMap_cons]
theorem ulen {n : Nat} (h : n ≤ 1000000) : IntKind.u64.wrap (n : Int) = (n : Int) := by rw [wu64]; omega
theorem tput_ok {l : List GChange} {b : List UInt8} (hl : l.length ≤ 1000) (hb : b.length ≤ 10000) (h : ∀ x ∈ l, ch64 x) : m_tally_Put b l = some (b ++ zb l.length ++ chgsB l) := by
  unfold m_tally_Put
  have h0 : (zb l.length).length ≤ 10 := by rw [zb_length]; exact zn_le10 _ (by omega)
  rw [ulen (by omega), put_ok (by omega) (by omega), obind_some]
  have := loopG_0 (L := fun fu s i => m_tally_Put_l2 l fu s i) (n := l.length) (P := fun i s o => s = b ++ zb l.length ++ chgsB (l.take i) → o = some (s ++ chgsB (l.drop i))) (by omega)
    (fun fu s hs => by unfold m_tally_Put_l2; rw [d_nlt (by omega), List.drop_of_length_le (Nat.le_refl _)]; simp [chgsB])
    (fun fu s i hi ih hs => by
      have hx := h _ (List.getElem_mem hi)
      have a1 := zbI_le hx.L; have a2 := zbI_le hx.T
      have hsl : s.length ≤ 1000000 := by
        have := chgsB_le (l := l.take i) fun v hv => h v (List.mem_of_mem_take hv)
        rw [hs, List.length_append, List.length_append]; rw [List.length_take] at this; omega
      unfold m_tally_Put_l2
      rw [d_lt (by omega), cond_true, geti_lt hi, obind_some, putint_ok (by omega) hx.L.1 hx.L.2, obind_some, putint_ok (by rw [List.length_append]; omega) hx.T.1 hx.T.2, obind_some, putint_ok (by simp only [List.length_append]; omega) hx.N.1 hx.N.2, obind_some, inc_ok (by omega),
        ih _ (by rw [hs, chgsB_snoc hi]; unfold chgB; simp only [List.append_assoc]), chgsB_drop hi]
      unfold chgB; simp only [List.append_assoc])
    (b ++ zb l.length) (by simp [chgsB])
  rw [List.drop_zero] at this; exact this
theorem rtput_ok {l : List GChange} {b : List UInt8} (hl : l.length ≤ 1000) (hb : b.length ≤ 10000) (h : ∀ x ∈ l, ch64 x) : m_telltaleref26_Put b l = some (b ++ zb l.length ++ chgsB l) := by
  unfold m_telltaleref26_Put
  have h0 : (zb l.length).length ≤ 10 := by rw [zb_length]; exact zn_le10 _ (by omega)
  rw [ulen (by omega), rput_ok (by omega) (by omega), obind_some]
  have := loopG_0 (L := fun fu s i => m_telltaleref26_Put_l1 l fu s i) (n := l.length) (P := fun i s o => s = b ++ zb l.length ++ chgsB (l.take i) → o = some (s ++ chgsB (l.drop i))) (by omega)
    (fun fu s hs => by unfold m_telltaleref26_Put_l1; rw [d_nlt (by omega), List.drop_of_length_le (Nat.le_refl _)]; simp [chgsB])
    (fun fu s i hi ih hs => by
      have hx := h _ (List.getElem_mem hi)
      have a1 := zbI_le hx.L; have a2 := zbI_le hx.T
      have f1 := zfold_lt _ hx.L.1 hx.L.2; have f2 := zfold_lt _ hx.T.1 hx.T.2; have f3 := zfold_lt _ hx.N.1 hx.N.2
      have hsl : s.length ≤ 1000000 := by
        have := chgsB_le (l := l.take i) fun v hv => h v (List.mem_of_mem_take hv)
        rw [hs, List.length_append, List.length_append]; rw [List.length_take] at this; omega
      unfold m_telltaleref26_Put_l1
      rw [d_lt (by omega), cond_true, geti_lt hi, obind_some, rfold_ok hx.L.1 hx.L.2, obind_some, rput_ok (by omega) f1, obind_some, obind_some, rfold_ok hx.T.1 hx.T.2, obind_some, rput_ok (by rw [List.length_append]; omega) f2, obind_some, obind_some, rfold_ok hx.N.1 hx.N.2, obind_some, rput_ok (by simp only [List.length_append]; omega) f3, obind_some, inc_ok (by omega),
        ih _ (by rw [hs, chgsB_snoc hi]; unfold chgB; simp only [List.append_assoc]), chgsB_drop hi]
      unfold chgB; simp only [List.append_assoc])
    (b ++ zb l.length) (by simp [chgsB])
  rw [List.drop_zero] at this; exact this
/-! ### taken -/
def tk3 (l : List UInt8) (a : Int) : Nat ⊕ (GChange × Nat) :=
  if (ztk l a).2.2 ≠ 0 then .inl (ztk l a).2.2 else
  if (ztk l ((ztk l a).2.1 : Int)).2.2 ≠ 0 then .inl (ztk l ((ztk l a).2.1 : Int)).2.2 else
  if (ztk l ((ztk l ((ztk l a).2.1 : Int)).2.1 : Int)).2.2 ≠ 0 then .inl (ztk l ((ztk l ((ztk l a).2.1 : Int)).2.1 : Int)).2.2 else
  .inr (GChange.mk (zback (ztk l a).1) (zback (ztk l ((ztk l a).2.1 : Int)).1) (zback (ztk l ((ztk l ((ztk l a).2.1 : Int)).2.1 : Int)).1), (ztk l ((ztk l ((ztk l a).2.1 : Int)).2.1 : Int)).2.1)
section
variable {l : List UInt8} (hl : l.length ≤ 1000000)
include hl
theorem cst_0 (fu : Nat) (a : Int) (A : GArr3_Int) : m_tally_change_l0 l (fu + 1) a A 0 = if (ztk l a).2.2 ≠ 0 then some (GChange.mk 0 0 0, 0, (((ztk l a).2.2 : Nat) : Int)) else m_tally_change_l0 l fu (((ztk l a).2.1 : Nat) : Int) (GArr3_Int.mk (zback (ztk l a).1) A.a1 A.a2) 1 := by
  conv => lhs; unfold m_tally_change_l0
  rw [decide_eq_true (by decide), cond_true, takeint_ok hl, obind_some]
  by_cases h : (ztk l a).2.2 ≠ 0
  · rw [decide_eq_true (by simpa using h), if_pos h]; rfl
  · rw [decide_eq_false (by simpa using h), if_neg h]; rfl
theorem cst_1 (fu : Nat) (a : Int) (A : GArr3_Int) : m_tally_change_l0 l (fu + 1) a A 1 = if (ztk l a).2.2 ≠ 0 then some (GChange.mk 0 0 0, 0, (((ztk l a).2.2 : Nat) : Int)) else m_tally_change_l0 l fu (((ztk l a).2.1 : Nat) : Int) (GArr3_Int.mk A.a0 (zback (ztk l a).1) A.a2) 2 := by
  conv => lhs; unfold m_tally_change_l0
  rw [decide_eq_true (by decide), cond_true, takeint_ok hl, obind_some]
  by_cases h : (ztk l a).2.2 ≠ 0
  · rw [decide_eq_true (by simpa using h), if_pos h]; rfl
  · rw [decide_eq_false (by simpa using h), if_neg h]; rfl
theorem cst_2 (fu : Nat) (a : Int) (A : GArr3_Int) : m_tally_change_l0 l (fu + 1) a A 2 = if (ztk l a).2.2 ≠ 0 then some (GChange.mk 0 0 0, 0, (((ztk l a).2.2 : Nat) : Int)) else m_tally_change_l0 l fu (((ztk l a).2.1 : Nat) : Int) (GArr3_Int.mk A.a0 A.a1 (zback (ztk l a).1)) 3 := by
  conv => lhs; unfold m_tally_change_l0
  rw [decide_eq_true (by decide), cond_true, takeint_ok hl, obind_some]
  by_cases h : (ztk l a).2.2 ≠ 0
  · rw [decide_eq_true (by simpa using h), if_pos h]; rfl
  · rw [decide_eq_false (by simpa using h), if_neg h]; rfl
omit hl in
theorem cst_3 (fu : Nat) (a : Int) (A : GArr3_Int) : m_tally_change_l0 l (fu + 1) a A 3 = some (GChange.mk A.a0 A.a1 A.a2, a, 0) := by
  unfold m_tally_change_l0; rfl
theorem change_ok (a : Int) : m_tally_change l a = match tk3 l a with
    | .inl e => some (GChange.mk 0 0 0, 0, (e : Int))
    | .inr (c, b) => some (c, (b : Int), 0) := by
  unfold m_tally_change tk3
  rw [show (1152921504606846976 : Nat) = 1152921504606846972 + 1 + 1 + 1 + 1 from rfl, cst_0 hl]
  by_cases h0 : (ztk l a).2.2 ≠ 0
  · rw [if_pos h0, if_pos h0]
  rw [if_neg h0, if_neg h0, cst_1 hl]
  generalize (((ztk l a).2.1 : Nat) : Int) = a1
  by_cases h1 : (ztk l a1).2.2 ≠ 0
  · rw [if_pos h1, if_pos h1]
  rw [if_neg h1, if_neg h1, cst_2 hl]
  generalize (((ztk l a1).2.1 : Nat) : Int) = a2
  by_cases h2 : (ztk l a2).2.2 ≠ 0
  · rw [if_pos h2, if_pos h2]
  rw [if_neg h2, if_neg h2, cst_3]
end
theorem tk3_err {l : List UInt8} {a : Int} {e : Nat} (h : tk3 l a = .inl e) : e ≠ 0 := by
  unfold tk3 at h
  split at h
  · rename_i q; cases h; exact q
  split at h
  · rename_i q; cases h; exact q
  split at h
  · rename_i q; cases h; exact q
  cases h
def chgT (l : List UInt8) : Nat → Int → List GChange → Nat ⊕ (List GChange × Int)
  | 0, a, cs => .inr (cs, a)
  | k + 1, a, cs => match tk3 l a with
    | .inl e => .inl e
    | .inr (c, b) => chgT l k (b : Int) (cs ++ [c])
/-- Nothing that is none, and in order. -/
def okP : Option GChange → GChange → Bool
  | none, _ => true
  | some p, x => decide (ltT p x)
def chkP : Option GChange → List GChange → Bool
  | _, [] => true
  | q, x :: r => decide (x.N ≠ 0) && okP q x && chkP (some x) r
theorem chkP_cons (q : Option GChange) (x : GChange) (r : List GChange) : chkP q (x :: r) = (decide (x.N ≠ 0) && okP q x && chkP (some x) r) := by cases q <;> rfl
def prev (cs : List GChange) (i : Nat) : Option GChange := if i = 0 then none else cs[i - 1]?
def ttk (l : List UInt8) (a : Int) : List GChange × Int × Int :=
  if (ztk l a).2.2 ≠ 0 then ([], 0, (((ztk l a).2.2 : Nat) : Int)) else if 1000 < (ztk l a).1 then ([], 0, 5) else match chgT l (ztk l a).1 (((ztk l a).2.1 : Nat) : Int) [] with
    | .inl e => ([], 0, (e : Int))
    | .inr (cs, b) => if chkP none cs = true then (cs, b, 0) else ([], 0, 4)
theorem prev_at {cs : List GChange} {i : Nat} (hi : i < cs.length) : prev cs (i + 1) = some cs[i] := by
  unfold prev; rw [if_neg (by omega), Nat.add_sub_cancel, List.getElem?_eq_getElem hi]
theorem tk_l5 {cs : List GChange} {b : Int} (hc : cs.length ≤ 1000) : m_tally_Take_l5 cs b 1152921504606846976 0 = some (if chkP none cs = true then (cs, b, 0) else ([], 0, 4)) := by
  have := loop1_0 (L := fun fu i => m_tally_Take_l5 cs b fu i) (n := cs.length) (P := fun i o => o = some (if chkP (prev cs i) (cs.drop i) = true then (cs, b, 0) else ([], 0, 4))) (by omega)
    (fun fu => by unfold m_tally_Take_l5; rw [d_nlt (by omega), List.drop_of_length_le (Nat.le_refl _)]; simp [chkP])
    (fun fu i hi ih => by
      rw [prev_at hi] at ih
      unfold m_tally_Take_l5
      rw [d_lt (by omega), cond_true, geti_lt hi, obind_some, inc_ok (by omega), ih, drop_cons hi, chkP_cons]
      by_cases h0 : cs[i].N = 0
      · rw [decide_eq_true h0, show decide (cs[i].N ≠ 0) = false from decide_eq_false (by simp [h0])]; rfl
      · rw [decide_eq_false h0, show decide (cs[i].N ≠ 0) = true from decide_eq_true h0, cond_false, Bool.true_and]
        by_cases hz : i = 0
        · subst hz; rfl
        · have hp : prev cs i = some (cs[i - 1]'(by omega)) := by
            have := prev_at (cs := cs) (i := i - 1) (by omega)
            rwa [show i - 1 + 1 = i by omega] at this
          rw [d_lt (by omega), cond_true, w64 (by omega) (by omega), show ((i : Int) - 1) = ((i - 1 : Nat) : Int) by omega, geti_lt (by omega), obind_some, order_ok, obind_some, hp]
          show _ = some (if (decide (ltT (cs[i - 1]'(by omega)) cs[i]) && chkP (some cs[i]) (cs.drop (i + 1))) = true then (cs, b, 0) else ([], 0, 4))
          by_cases hq : ltT (cs[i - 1]'(by omega)) cs[i]
          · rw [decide_eq_true hq, Bool.true_and, decide_eq_false (by unfold ltT ltc at hq; omega), cond_false]
          · rw [decide_eq_false hq, Bool.false_and, decide_eq_true (by unfold ltT ltc at hq; omega), cond_true]; rfl)
  exact this
theorem rtk_l7 {cs : List GChange} {b : Int} (hc : cs.length ≤ 1000) : m_telltaleref26_Take_l7 cs b 1152921504606846976 0 = some (if chkP none cs = true then (cs, b, 0) else ([], 0, 4)) := by
  have := loop1_0 (L := fun fu i => m_telltaleref26_Take_l7 cs b fu i) (n := cs.length) (P := fun i o => o = some (if chkP (prev cs i) (cs.drop i) = true then (cs, b, 0) else ([], 0, 4))) (by omega)
    (fun fu => by unfold m_telltaleref26_Take_l7; rw [d_nlt (by omega), List.drop_of_length_le (Nat.le_refl _)]; simp [chkP])
    (fun fu i hi ih => by
      rw [prev_at hi] at ih
      unfold m_telltaleref26_Take_l7
      rw [d_lt (by omega), cond_true, geti_lt hi, obind_some, inc_ok (by omega), ih, drop_cons hi, chkP_cons]
      by_cases h0 : cs[i].N = 0
      · rw [decide_eq_true h0, show decide (cs[i].N ≠ 0) = false from decide_eq_false (by simp [h0])]; rfl
      · rw [decide_eq_false h0, show decide (cs[i].N ≠ 0) = true from decide_eq_true h0, cond_false, Bool.true_and]
        by_cases hz : i = 0
        · subst hz; rfl
        · have hp : prev cs i = some (cs[i - 1]'(by omega)) := by
            have := prev_at (cs := cs) (i := i - 1) (by omega)
            rwa [show i - 1 + 1 = i by omega] at this
          rw [d_lt (by omega), cond_true, w64 (by omega) (by omega), show ((i : Int) - 1) = ((i - 1 : Nat) : Int) by omega, geti_lt (by omega), obind_some, obind_some, before_ok, obind_some, hp]
          show _ = some (if (decide (ltT (cs[i - 1]'(by omega)) cs[i]) && chkP (some cs[i]) (cs.drop (i + 1))) = true then (cs, b, 0) else ([], 0, 4))
          by_cases hq : ltT (cs[i - 1]'(by omega)) cs[i]
          · rw [decide_eq_true hq, Bool.true_and]; rfl
          · rw [decide_eq_false hq, Bool.false_and]; rfl)
  exact this
theorem tk_l1 {l : List UInt8} {r : Int × Int × Int} {n : Nat} (hl : l.length ≤ 1000000) (hr : r.1 = (n : Int)) (hn : n ≤ 1000) : ∀ (k i fu : Nat) (cs : List GChange) (a : Int), i + k = n → cs.length = i → k < fu → m_tally_Take_l1 l r fu cs a (i : Int) = match chgT l k a cs with
    | .inl e => some ([], 0, (e : Int))
    | .inr (cs', b) => some (if chkP none cs' = true then (cs', b, 0) else ([], 0, 4))
  | _, _, 0, _, _, _, _, h => by omega
  | 0, i, fu + 1, cs, a, h1, h2, _ => by
    unfold m_tally_Take_l1
    rw [hr, d_nlt (by omega), cond_false, tk_l5 (by omega)]; rfl
  | k + 1, i, fu + 1, cs, a, h1, h2, h3 => by
    unfold m_tally_Take_l1
    rw [hr, d_lt (by omega), cond_true, change_ok hl, chgT]
    cases ht : tk3 l a with
    | inl e =>
      have he := tk3_err ht
      simp only
      rw [obind_some, decide_eq_true (by simp only; omega)]; rfl
    | inr q =>
      obtain ⟨c, b⟩ := q
      simp only
      rw [obind_some, decide_eq_false (by simp), cond_false, app_ok (by simp; omega), obind_some, wu64, show ((i : Int) + 1) % 18446744073709551616 = ((i + 1 : Nat) : Int) by omega]
      exact tk_l1 hl hr hn k (i + 1) fu _ _ (by omega) (by simp [h2]) (by omega)
theorem ttake_ok {l : List UInt8} (a : Int) (hl : l.length ≤ 1000000) : m_tally_Take l a = some (ttk l a) := by
  unfold m_tally_Take ttk
  rw [take_ok hl, obind_some]
  unfold ztkI
  by_cases h0 : (ztk l a).2.2 ≠ 0
  · rw [decide_eq_true (by simpa using h0), if_pos h0]; rfl
  rw [decide_eq_false (by simpa using h0), if_neg h0, cond_false]
  by_cases h1 : 1000 < (ztk l a).1
  · rw [decide_eq_true (by simp only; omega), if_pos h1]; rfl
  rw [decide_eq_false (by simp only; omega), if_neg h1, cond_false]
  have := tk_l1 (l := l) (r := ztkI (ztk l a)) (n := (ztk l a).1) hl rfl (by omega) (ztk l a).1 0 1152921504606846976 [] (((ztk l a).2.1 : Nat) : Int) (by omega) rfl (by omega)
  refine Eq.trans this ?_
  cases chgT l (ztk l a).1 (((ztk l a).2.1 : Nat) : Int) [] with
  | inl e => rfl
  | inr q => rfl
/-! ### the mirror -/
section
variable {l : List UInt8} (hl : l.length ≤ 1000000) {cs : List GChange} {y11 : Int} {k : Int → List GChange → Int → Option (List GChange × Int × Int)}
include hl
theorem rcst_0 (fu : Nat) (a : Int) (A : GArr3_Int) : m_telltaleref26_Take_l3 l cs y11 k (fu + 1) a A 0 = if (ztk l a).2.2 ≠ 0 then some ([], 0, (((ztk l a).2.2 : Nat) : Int)) else m_telltaleref26_Take_l3 l cs y11 k fu (((ztk l a).2.1 : Nat) : Int) (GArr3_Int.mk (zback (ztk l a).1) A.a1 A.a2) 1 := by
  conv => lhs; unfold m_telltaleref26_Take_l3
  rw [decide_eq_true (by decide), cond_true, rtake_ok hl, obind_some]
  unfold ztkI
  simp only
  rw [rback_ok (ztk_lt _ _), obind_some]
  by_cases h : (ztk l a).2.2 ≠ 0
  · rw [decide_eq_true (by simpa using h), if_pos h]; rfl
  · rw [decide_eq_false (by simpa using h), if_neg h]; rfl
theorem rcst_1 (fu : Nat) (a : Int) (A : GArr3_Int) : m_telltaleref26_Take_l3 l cs y11 k (fu + 1) a A 1 = if (ztk l a).2.2 ≠ 0 then some ([], 0, (((ztk l a).2.2 : Nat) : Int)) else m_telltaleref26_Take_l3 l cs y11 k fu (((ztk l a).2.1 : Nat) : Int) (GArr3_Int.mk A.a0 (zback (ztk l a).1) A.a2) 2 := by
  conv => lhs; unfold m_telltaleref26_Take_l3
  rw [decide_eq_true (by decide), cond_true, rtake_ok hl, obind_some]
  unfold ztkI
  simp only
  rw [rback_ok (ztk_lt _ _), obind_some]
  by_cases h : (ztk l a).2.2 ≠ 0
  · rw [decide_eq_true (by simpa using h), if_pos h]; rfl
  · rw [decide_eq_false (by simpa using h), if_neg h]; rfl
theorem rcst_2 (fu : Nat) (a : Int) (A : GArr3_Int) : m_telltaleref26_Take_l3 l cs y11 k (fu + 1) a A 2 = if (ztk l a).2.2 ≠ 0 then some ([], 0, (((ztk l a).2.2 : Nat) : Int)) else m_telltaleref26_Take_l3 l cs y11 k fu (((ztk l a).2.1 : Nat) : Int) (GArr3_Int.mk A.a0 A.a1 (zback (ztk l a).1)) 3 := by
  conv => lhs; unfold m_telltaleref26_Take_l3
  rw [decide_eq_true (by decide), cond_true, rtake_ok hl, obind_some]
  unfold ztkI
  simp only
  rw [rback_ok (ztk_lt _ _), obind_some]
  by_cases h : (ztk l a).2.2 ≠ 0
  · rw [decide_eq_true (by simpa using h), if_pos h]; rfl
  · rw [decide_eq_false (by simpa using h), if_neg h]; rfl
theorem rchange_ok (a : Int) (hc : cs.length ≤ 100000) (hy : 0 ≤ y11 ∧ y11 ≤ 100000) : m_telltaleref26_Take_l3 l cs y11 k 1152921504606846976 a (GArr3_Int.mk 0 0 0) 0 = match tk3 l a with
    | .inl e => some ([], 0, (e : Int))
    | .inr (c, b) => k (b : Int) (cs ++ [c]) (y11 + 1) := by
  unfold tk3
  rw [show (1152921504606846976 : Nat) = 1152921504606846972 + 1 + 1 + 1 + 1 from rfl, rcst_0 hl]
  by_cases h0 : (ztk l a).2.2 ≠ 0
  · rw [if_pos h0, if_pos h0]
  rw [if_neg h0, if_neg h0, rcst_1 hl]
  generalize (((ztk l a).2.1 : Nat) : Int) = a1
  by_cases h1 : (ztk l a1).2.2 ≠ 0
  · rw [if_pos h1, if_pos h1]
  rw [if_neg h1, if_neg h1, rcst_2 hl]
  generalize (((ztk l a1).2.1 : Nat) : Int) = a2
  by_cases h2 : (ztk l a2).2.2 ≠ 0
  · rw [if_pos h2, if_pos h2]
  rw [if_neg h2, if_neg h2]
  conv => lhs; unfold m_telltaleref26_Take_l3
  rw [decide_eq_false (by decide), cond_false, app_ok (by simp; omega), obind_some, w64 (by omega) (by omega)]
end
theorem rtk_l1 {l : List UInt8} {r : Int × Int × Int} {n : Nat} (hl : l.length ≤ 1000000) (hr : r.1 = (n : Int)) (hn : n ≤ 1000) : ∀ (k i fu : Nat) (cs : List GChange) (a : Int), i + k = n → cs.length = i → k < fu → m_telltaleref26_Take_l1 l r fu a cs (i : Int) = match chgT l k a cs with
    | .inl e => some ([], 0, (e : Int))
    | .inr (cs', b) => some (if chkP none cs' = true then (cs', b, 0) else ([], 0, 4))
  | _, _, 0, _, _, _, _, h => by omega
  | 0, i, fu + 1, cs, a, h1, h2, _ => by
    unfold m_telltaleref26_Take_l1
    rw [hr, w64 (by omega) (by omega), d_nlt (by omega), cond_false, rtk_l7 (by omega)]; rfl
  | k + 1, i, fu + 1, cs, a, h1, h2, h3 => by
    unfold m_telltaleref26_Take_l1
    rw [hr, w64 (by omega) (by omega), d_lt (by omega), cond_true, rchange_ok hl a (by omega) (by omega), chgT]
    cases ht : tk3 l a with
    | inl e => rfl
    | inr q =>
      obtain ⟨c, b⟩ := q
      exact rtk_l1 hl hr hn k (i + 1) fu _ _ (by omega) (by simp [h2]) (by omega)
theorem rttake_ok {l : List UInt8} (a : Int) (hl : l.length ≤ 1000000) : m_telltaleref26_Take l a = some (ttk l a) := by
  unfold m_telltaleref26_Take ttk
  rw [rtake_ok hl, obind_some]
  unfold ztkI
  by_cases h0 : (ztk l a).2.2 ≠ 0
  · rw [decide_eq_true (by simpa using h0), if_pos h0]; rfl
  rw [decide_eq_false (by simpa using h0), if_neg h0, cond_false]
  by_cases h1 : 1000 < (ztk l a).1
  · rw [decide_eq_true (by simp only; omega), if_pos h1]; rfl
  rw [decide_eq_false (by simp only; omega), if_neg h1, cond_false]
  have := rtk_l1 (l := l) (r := ztkI (ztk l a)) (n := (ztk l a).1) hl rfl (by omega) (ztk l a).1 0 1152921504606846976 [] (((ztk l a).2.1 : Nat) : Int) (by omega) rfl (by omega)
  refine Eq.trans this ?_
  cases chgT l (ztk l a).1 (((ztk l a).2.1 : Nat) : Int) [] with
  | inl e => rfl
  | inr q => rfl
theorem chgT_len {l : List UInt8} : ∀ (k : Nat) (a : Int) (cs cs' : List GChange) (b : Int), chgT l k a cs = .inr (cs', b) → cs'.length = cs.length + k
  | 0, a, cs, cs', b, h => by rw [chgT] at h; cases h; rfl
  | k + 1, a, cs, cs', b, h => by
    rw [chgT] at h
    cases ht : tk3 l a with
    | inl e => rw [ht] at h; cases h
    | inr q =>
      obtain ⟨c, d⟩ := q
      rw [ht] at h
      have := chgT_len k _ _ _ _ h
      rw [this]; simp; omega
theorem ttk_len {l : List UInt8} {a : Int} : (ttk l a).1.length ≤ 1000 := by
  unfold ttk
  split
  · simp
  · split
    · simp
    · rename_i h1
      cases hc : chgT l (ztk l a).1 (((ztk l a).2.1 : Nat) : Int) [] with
      | inl e => simp
      | inr q =>
        obtain ⟨cs, b⟩ := q
        have := chgT_len _ _ _ _ _ hc
        simp only
        split
        · simp only; rw [this]; simp; omega
        · simp
/-! ### put, so taken -/
theorem ztk_put {pre r : List UInt8} {u : Nat} (hu : u < 18446744073709551616) : ztk (pre ++ (zb u ++ r)) (pre.length : Int) = (u, pre.length + zn u, 0) := by
  rw [ztk_at rfl, tk_put u hu]
  unfold zgo
  simp
theorem tk3_put {pre r : List UInt8} {x : GChange} (h : ch64 x) : tk3 (pre ++ (chgB x ++ r)) (pre.length : Int) = .inr (x, pre.length + (chgB x).length) := by
  have f1 := zfold_lt _ h.L.1 h.L.2; have f2 := zfold_lt _ h.T.1 h.T.2; have f3 := zfold_lt _ h.N.1 h.N.2
  have e0 := ztk_put (pre := pre) (r := zb (zfold x.Time) ++ (zb (zfold x.N) ++ r)) f1
  have e1 := ztk_put (pre := pre ++ zb (zfold x.Loc)) (r := zb (zfold x.N) ++ r) f2
  have e2 := ztk_put (pre := pre ++ zb (zfold x.Loc) ++ zb (zfold x.Time)) (r := r) f3
  unfold chgB
  simp only [List.append_assoc, List.length_append, zb_length] at e0 e1 e2 ⊢
  unfold tk3
  rw [← Nat.add_assoc] at e2
  simp only [e0, e1, e2, ne_eq, not_true_eq_false, if_false, zback_fold]
  congr 2; omega
theorem chgT_put : ∀ (l : List GChange) (pre r : List UInt8) (ac : List GChange), (∀ x ∈ l, ch64 x) → chgT (pre ++ (chgsB l ++ r)) l.length (pre.length : Int) ac = .inr (ac ++ l, ((pre.length + (chgsB l).length : Nat) : Int))
  | [], pre, r, ac, _ => by simp [chgT, chgsB]
  | x :: l, pre, r, ac, h => by
    have e : chgsB (x :: l) = chgB x ++ chgsB l := by unfold chgsB; rw [List.flatMap_cons]
    have e1 := tk3_put (pre := pre) (r := chgsB l ++ r) (h x (by simp))
    have ih := chgT_put l (pre ++ chgB x) r (ac ++ [x]) fun y hy => h y (by simp [hy])
    rw [List.length_cons, chgT, e, List.append_assoc, e1]
    simp only
    rw [List.append_assoc, List.length_append] at ih
    rw [ih, List.append_assoc, List.length_append, Nat.add_assoc]; rfl
theorem chkP_norm : ∀ {l : List GChange} (q : Option GChange), l.Pairwise ltT → (∀ x ∈ l, x.N ≠ 0) → (∀ p, q = some p → ∀ x ∈ l, ltT p x) → chkP q l = true
  | [], q, _, _, _ => by cases q <;> rfl
  | x :: l, q, h, hn, hq => by
    have h' := List.pairwise_cons.1 h
    rw [chkP_cons, decide_eq_true (hn x (by simp)), Bool.true_and, chkP_norm (some x) h'.2 (fun y hy => hn y (by simp [hy])) (fun p hp y hy => by cases hp; exact h'.1 y hy), Bool.and_true]
    cases q with
    | none => rfl
    | some p => exact decide_eq_true (hq p rfl x (by simp))
theorem ttk_put {l : List GChange} (r : List UInt8) (hl : l.length ≤ 1000) (h : ∀ x ∈ l, ch64 x) (hn : Norm l) : ttk (zb l.length ++ chgsB l ++ r) 0 = (l, (((zb l.length ++ chgsB l).length : Nat) : Int), 0) := by
  have e0 := ztk_put (pre := []) (r := chgsB l ++ r) (u := l.length) (by omega)
  have e1 := chgT_put l (zb l.length) r [] h
  simp only [List.nil_append, List.length_nil, Int.natCast_zero, Nat.zero_add] at e0
  unfold ttk
  rw [List.append_assoc, e0]
  simp only
  rw [if_neg (by simp), if_neg (by omega)]
  rw [zb_length] at e1
  rw [e1]
  simp only [List.nil_append]
  rw [chkP_norm none hn.1 hn.2 (fun p hp => by cases hp), if_pos rfl, List.length_append, zb_length]
end Go.Proofs.Ytkpfagmlohcdjaa.K
