/- Events taken off bytes: plain. -/
import Derived.Test.YtbgioanegbipgaaMsc
import Derived.Test.YtbgioanegbipgaaMva
namespace Go.Proofs.Ytbgioanegbipgaa.K
open Go.RowKit Go.Lib
set_option linter.unusedVariables false
set_option linter.unusedSimpArgs false
abbrev zeroE : GEvent := GEvent.mk 0 0 0 [] []
/-- Four numbers, one behind the other. -/
def tk4 (l : List UInt8) (a : Int) : Nat ⊕ (Nat × Nat × Nat × Nat × Nat) :=
  if (ztk l a).2.2 ≠ 0 then .inl (ztk l a).2.2 else
  if (ztk l ((ztk l a).2.1 : Int)).2.2 ≠ 0 then .inl (ztk l ((ztk l a).2.1 : Int)).2.2 else
  if (ztk l ((ztk l ((ztk l a).2.1 : Int)).2.1 : Int)).2.2 ≠ 0 then .inl (ztk l ((ztk l ((ztk l a).2.1 : Int)).2.1 : Int)).2.2 else
  if (ztk l ((ztk l ((ztk l ((ztk l a).2.1 : Int)).2.1 : Int)).2.1 : Int)).2.2 ≠ 0 then .inl (ztk l ((ztk l ((ztk l ((ztk l a).2.1 : Int)).2.1 : Int)).2.1 : Int)).2.2 else
  .inr ((ztk l a).1, (ztk l ((ztk l a).2.1 : Int)).1, (ztk l ((ztk l ((ztk l a).2.1 : Int)).2.1 : Int)).1, (ztk l ((ztk l ((ztk l ((ztk l a).2.1 : Int)).2.1 : Int)).2.1 : Int)).1, (ztk l ((ztk l ((ztk l ((ztk l a).2.1 : Int)).2.1 : Int)).2.1 : Int)).2.1)
section
variable {l : List UInt8} (hl : l.length ≤ 1000000)
include hl
theorem nst_0 (fu : Nat) (a : Int) (A : GArr4_Int_) : m_event_numbers_l0 l (fu + 1) a A 0 = if (ztk l a).2.2 ≠ 0 then some (A, 0, (((ztk l a).2.2 : Nat) : Int)) else m_event_numbers_l0 l fu (((ztk l a).2.1 : Nat) : Int) (GArr4_Int_.mk (((ztk l a).1 : Nat) : Int) A.a1 A.a2 A.a3) 1 := by
  conv => lhs; unfold m_event_numbers_l0
  rw [decide_eq_true (by decide), cond_true, take_ok hl, obind_some]
  unfold ztkI
  by_cases h : (ztk l a).2.2 ≠ 0
  · rw [decide_eq_true (by simpa using h), if_pos h]; rfl
  · rw [decide_eq_false (by simpa using h), if_neg h]; rfl
theorem nst_1 (fu : Nat) (a : Int) (A : GArr4_Int_) : m_event_numbers_l0 l (fu + 1) a A 1 = if (ztk l a).2.2 ≠ 0 then some (A, 0, (((ztk l a).2.2 : Nat) : Int)) else m_event_numbers_l0 l fu (((ztk l a).2.1 : Nat) : Int) (GArr4_Int_.mk A.a0 (((ztk l a).1 : Nat) : Int) A.a2 A.a3) 2 := by
  conv => lhs; unfold m_event_numbers_l0
  rw [decide_eq_true (by decide), cond_true, take_ok hl, obind_some]
  unfold ztkI
  by_cases h : (ztk l a).2.2 ≠ 0
  · rw [decide_eq_true (by simpa using h), if_pos h]; rfl
  · rw [decide_eq_false (by simpa using h), if_neg h]; rfl
theorem nst_2 (fu : Nat) (a : Int) (A : GArr4_Int_) : m_event_numbers_l0 l (fu + 1) a A 2 = if (ztk l a).2.2 ≠ 0 then some (A, 0, (((ztk l a).2.2 : Nat) : Int)) else m_event_numbers_l0 l fu (((ztk l a).2.1 : Nat) : Int) (GArr4_Int_.mk A.a0 A.a1 (((ztk l a).1 : Nat) : Int) A.a3) 3 := by
  conv => lhs; unfold m_event_numbers_l0
  rw [decide_eq_true (by decide), cond_true, take_ok hl, obind_some]
  unfold ztkI
  by_cases h : (ztk l a).2.2 ≠ 0
  · rw [decide_eq_true (by simpa using h), if_pos h]; rfl
  · rw [decide_eq_false (by simpa using h), if_neg h]; rfl
theorem nst_3 (fu : Nat) (a : Int) (A : GArr4_Int_) : m_event_numbers_l0 l (fu + 1) a A 3 = if (ztk l a).2.2 ≠ 0 then some (A, 0, (((ztk l a).2.2 : Nat) : Int)) else m_event_numbers_l0 l fu (((ztk l a).2.1 : Nat) : Int) (GArr4_Int_.mk A.a0 A.a1 A.a2 (((ztk l a).1 : Nat) : Int)) 4 := by
  conv => lhs; unfold m_event_numbers_l0
  rw [decide_eq_true (by decide), cond_true, take_ok hl, obind_some]
  unfold ztkI
  by_cases h : (ztk l a).2.2 ≠ 0
  · rw [decide_eq_true (by simpa using h), if_pos h]; rfl
  · rw [decide_eq_false (by simpa using h), if_neg h]; rfl
omit hl in
theorem nst_4 (fu : Nat) (a : Int) (A : GArr4_Int_) : m_event_numbers_l0 l (fu + 1) a A 4 = some (A, a, 0) := by
  unfold m_event_numbers_l0; rfl
theorem numbers_ok (a : Int) : match tk4 l a with
    | .inl e => ∃ A, m_event_numbers l a = some (A, 0, (e : Int)) ∧ e ≠ 0
    | .inr (n0, n1, n2, n3, b) => m_event_numbers l a = some (GArr4_Int_.mk n0 n1 n2 n3, (b : Int), 0) := by
  unfold m_event_numbers tk4
  rw [show (1152921504606846976 : Nat) = 1152921504606846971 + 1 + 1 + 1 + 1 + 1 from rfl, nst_0 hl]
  by_cases h0 : (ztk l a).2.2 ≠ 0
  · rw [if_pos h0, if_pos h0]; exact ⟨_, rfl, h0⟩
  rw [if_neg h0, if_neg h0, nst_1 hl]
  generalize (((ztk l a).2.1 : Nat) : Int) = a1
  by_cases h1 : (ztk l a1).2.2 ≠ 0
  · rw [if_pos h1, if_pos h1]; exact ⟨_, rfl, h1⟩
  rw [if_neg h1, if_neg h1, nst_2 hl]
  generalize (((ztk l a1).2.1 : Nat) : Int) = a2
  by_cases h2 : (ztk l a2).2.2 ≠ 0
  · rw [if_pos h2, if_pos h2]; exact ⟨_, rfl, h2⟩
  rw [if_neg h2, if_neg h2, nst_3 hl]
  generalize (((ztk l a2).2.1 : Nat) : Int) = a3
  by_cases h3 : (ztk l a3).2.2 ≠ 0
  · rw [if_pos h3, if_pos h3]; exact ⟨_, rfl, h3⟩
  rw [if_neg h3, if_neg h3, nst_4]
end
/-- Values, one behind the other. -/
def valsT (l : List UInt8) : Nat → Int → List GValue → Int ⊕ (List GValue × Int)
  | 0, a, vs => .inr (vs, a)
  | k + 1, a, vs => if (vtk l a).2.2 ≠ 0 then .inl (vtk l a).2.2 else valsT l k (vtk l a).2.1 (vs ++ [(vtk l a).1])
theorem vals_loop {R : Type} {l : List UInt8} {L : Nat → List GValue → Int → Int → Option R} {n : Nat} {E : Int → Option R} {K : List GValue → Int → Option R}
    (hend : ∀ fu vs a, L (fu + 1) vs a (n : Int) = K vs a)
    (hstep : ∀ fu vs a (i : Nat), i < n → vs.length ≤ n → L (fu + 1) vs a (i : Int) = if (vtk l a).2.2 ≠ 0 then E (vtk l a).2.2 else L fu (vs ++ [(vtk l a).1]) (vtk l a).2.1 ((i + 1 : Nat) : Int)) :
    ∀ (k i fu : Nat) (vs : List GValue) (a : Int), i + k = n → vs.length = i → k < fu → L fu vs a (i : Int) = match valsT l k a vs with | .inl e => E e | .inr (vs', b) => K vs' b
  | _, _, 0, _, _, _, _, h => by omega
  | 0, i, fu + 1, vs, a, h1, _, _ => by
    obtain rfl : i = n := by omega
    rw [hend]; rfl
  | k + 1, i, fu + 1, vs, a, h1, h2, h3 => by
    rw [hstep fu vs a i (by omega) (by omega), valsT]
    by_cases h : (vtk l a).2.2 ≠ 0
    · rw [if_pos h, if_pos h]
    · rw [if_neg h, if_neg h, vals_loop hend hstep k (i + 1) fu _ _ (by omega) (by simp [h2]) (by omega)]
def num40 (n : Nat) : Int := if 1099511627776 < n then -1 else (n : Int)
def num15 (n : Nat) : Int := if 15 < n then -1 else (n : Int)
def etk (p : List GType) (l : List UInt8) (a : Int) : GEvent × Int × Int :=
  if schC p ≠ 0 ∨ a < 0 ∨ (l.length : Int) < a then (zeroE, 0, 2) else match tk4 l a with
    | .inl e => (zeroE, 0, (e : Int))
    | .inr (n0, n1, n2, n3, b) => match p[n3]? with
      | none => (zeroE, 0, 6)
      | some t => match valsT l t.Fields.length (b : Int) [] with
        | .inl e => (zeroE, 0, e)
        | .inr (vs, c) => if evC p (GEvent.mk (num40 n0) (num15 n1) (num40 n2) t.Name vs) ≠ 0 then (zeroE, 0, evC p (GEvent.mk (num40 n0) (num15 n1) (num40 n2) t.Name vs)) else (GEvent.mk (num40 n0) (num15 n1) (num40 n2) t.Name vs, c, 0)
theorem vtk_good {l : List UInt8} {a : Int} (hl : l.length ≤ 1000) (h : (vtk l a).2.2 = 0) : okB (vtk l a).1 ∧ chkV (vtk l a).1 = 0 ∧ ∃ m k : Nat, a = m ∧ m + k ≤ l.length ∧ (vtk l a).2.1 = ((m + k : Nat) : Int) ∧ (vtk l a).1.Kind :: bytesV (vtk l a).1 = (l.drop m).take k := by
  by_cases ha : a < 0 ∨ (l.length : Int) < a
  · exfalso; unfold vtk at h; rw [if_pos ha] at h; simp at h
  · obtain ⟨m, rfl⟩ : ∃ m : Nat, a = m := ⟨a.toNat, by omega⟩
    have e := vtk_drop (l := l) (a := m) (by omega)
    rw [e] at h ⊢
    simp only at h ⊢
    generalize hx : vtk (l.drop m) 0 = x at h e ⊢
    obtain ⟨x, n, er⟩ := x
    simp only at h ⊢
    subst h
    obtain ⟨c, ok, k, rfl, hk, hb⟩ := take_put (by rw [List.length_drop]; omega) hx
    rw [List.length_drop] at hk
    exact ⟨ok, c, m, k, rfl, by omega, by rw [if_pos rfl]; omega, hb⟩
theorem valsT_good {l : List UInt8} (hl : l.length ≤ 1000) : ∀ (k : Nat) (a : Int) (vs vs' : List GValue) (b : Int), valsT l k a vs = .inr (vs', b) → (∀ v ∈ vs, okB v ∧ chkV v = 0) → vs'.length = vs.length + k ∧ ∀ v ∈ vs', okB v ∧ chkV v = 0
  | 0, a, vs, vs', b, h, hv => by
    rw [valsT] at h; cases h; exact ⟨rfl, hv⟩
  | k + 1, a, vs, vs', b, h, hv => by
    rw [valsT] at h
    by_cases h0 : (vtk l a).2.2 ≠ 0
    · rw [if_pos h0] at h; cases h
    · rw [if_neg h0] at h
      obtain ⟨o, c, _⟩ := vtk_good hl (by omega : (vtk l a).2.2 = 0)
      obtain ⟨q1, q2⟩ := valsT_good hl k _ _ vs' b h fun v hv' => by
        rcases List.mem_append.1 hv' with h1 | h1
        · exact hv v h1
        · simp only [List.mem_singleton] at h1; subst h1; exact ⟨o, c⟩
      exact ⟨by rw [q1]; simp; omega, q2⟩
theorem valsT_err {l : List UInt8} : ∀ (k : Nat) (a : Int) (vs : List GValue), valsT l k a vs ≠ .inl 0
  | 0, a, vs => by rw [valsT]; exact fun h => by cases h
  | k + 1, a, vs => by
    rw [valsT]
    split
    · rename_i h; exact fun q => h (Sum.inl.inj q)
    · exact valsT_err k _ _
theorem tk4_lt {l : List UInt8} {a : Int} {n0 n1 n2 n3 b : Nat} (h : tk4 l a = .inr (n0, n1, n2, n3, b)) : n0 < 18446744073709551616 ∧ n1 < 18446744073709551616 ∧ n2 < 18446744073709551616 ∧ n3 < 18446744073709551616 := by
  unfold tk4 at h
  split at h
  · cases h
  split at h
  · cases h
  split at h
  · cases h
  split at h
  · cases h
  cases h
  exact ⟨ztk_lt _ _, ztk_lt _ _, ztk_lt _ _, ztk_lt _ _⟩
theorem num40_r (n : Nat) : -1 ≤ num40 n ∧ num40 n ≤ 1099511627776 := by unfold num40; split <;> omega
theorem num15_r (n : Nat) : -1 ≤ num15 n ∧ num15 n ≤ 15 := by unfold num15; split <;> omega
theorem tk_evO {n0 n1 n2 : Nat} {t : List UInt8} {vs : List GValue} (h1 : vs.length ≤ 12) (h2 : ∀ v ∈ vs, okB v) : evO (GEvent.mk (num40 n0) (num15 n1) (num40 n2) t vs) := by
  have := num40_r n0; have := num15_r n1; have := num40_r n2
  exact ⟨by simp only; omega, by simp only; omega, by simp only; omega, h1, h2⟩
theorem number_ok {n : Nat} (h : n < 18446744073709551616) : m_event_number (n : Int) 1099511627776 = some (num40 n) ∧ m_event_number (n : Int) 15 = some (num15 n) := by
  unfold m_event_number num40 num15
  rw [wu64, wu64]
  refine ⟨?_, ?_⟩
  · by_cases c : 1099511627776 < n
    · rw [decide_eq_true (by omega), if_pos c]; rfl
    · rw [decide_eq_false (by omega), if_neg c, cond_false, w64 (by omega) (by omega)]
  · by_cases c : 15 < n
    · rw [decide_eq_true (by omega), if_pos c]; rfl
    · rw [decide_eq_false (by omega), if_neg c, cond_false, w64 (by omega) (by omega)]
theorem etk_vals {p : List GType} {l : List UInt8} {a : Int} (hl : l.length ≤ 1000) (hp : scB p) : (etk p l a).1.Vals.length ≤ 12 := by
  unfold etk
  split
  · simp
  · split
    · simp
    · split
      · simp
      · rename_i t ht
        have hF := (hp.T t (List.mem_of_getElem? ht)).F
        split
        · simp
        · rename_i vs c hv
          have g := (valsT_good hl _ _ _ _ _ hv (by simp)).1
          split
          · simp
          · simp only at g ⊢; rw [g]; simpa using hF
theorem etake_ok {p : List GType} {l : List UInt8} (a : Int) (hl : l.length ≤ 1000) (hp : scB p) : m_event_Take p l a = some (etk p l a) := by
  unfold m_event_Take m_event_Take_j1 etk
  have hL := hp.L
  rw [scheck_ok hp.L' hp.F, obind_some]
  by_cases h1 : schC p ≠ 0
  · rw [decide_eq_true h1, if_pos (.inl h1)]; rfl
  rw [decide_eq_false h1, cond_false]
  by_cases h2 : a < 0
  · rw [decide_eq_true h2, if_pos (.inr (.inl h2))]; rfl
  rw [decide_eq_false h2, cond_false]
  by_cases h3 : (l.length : Int) < a
  · rw [decide_eq_true h3, if_pos (.inr (.inr h3))]; rfl
  rw [decide_eq_false h3, cond_false, if_neg (by omega)]
  have hn := numbers_ok (l := l) (by omega) a
  cases ht : tk4 l a with
  | inl e =>
    rw [ht] at hn
    obtain ⟨A, e1, e2⟩ := hn
    rw [e1, obind_some, decide_eq_true (by simp only; omega)]; rfl
  | inr q =>
    obtain ⟨n0, n1, n2, n3, b⟩ := q
    rw [ht] at hn
    obtain ⟨b0, b1, b2, b3⟩ := tk4_lt ht
    simp only at hn ⊢
    rw [hn, obind_some, decide_eq_false (by simp), cond_false]
    simp only
    rw [wu64, Int.emod_eq_of_lt (by omega) (by omega)]
    by_cases h4 : p.length ≤ n3
    · rw [decide_eq_true (by omega), List.getElem?_eq_none h4]; rfl
    have h4 : n3 < p.length := by omega
    have hF := (hp.T _ (List.getElem_mem h4)).F
    rw [decide_eq_false (by omega), cond_false, List.getElem?_eq_getElem h4, geti_lt h4, obind_some, (number_ok b0).1, obind_some, (number_ok b1).2, obind_some, (number_ok b2).1, obind_some]
    simp only
    have hvl := vals_loop (l := l) (L := fun fu vs a i => m_event_Take_l7 p l (num40 n0) (num15 n1) (num40 n2) p[n3] fu vs a i) (n := p[n3].Fields.length) (E := fun e => some (zeroE, 0, e))
      (K := fun vs c => Option.bind (m_event_Check p (GEvent.mk (num40 n0) (num15 n1) (num40 n2) p[n3].Name vs)) fun r => cond (decide (r ≠ 0)) (some (zeroE, 0, r)) (some (GEvent.mk (num40 n0) (num15 n1) (num40 n2) p[n3].Name vs, c, 0)))
      (fun fu vs a => by unfold m_event_Take_l7; rw [d_nlt (by omega)]; rfl)
      (fun fu vs a i hi hvs => by
        conv => lhs; unfold m_event_Take_l7
        rw [d_lt (by omega), cond_true, vtake_ok (by omega), obind_some, app_ok (by simp; omega), obind_some, inc_ok (by omega)]
        by_cases h : (vtk l a).2.2 ≠ 0
        · rw [decide_eq_true h, if_pos h]; rfl
        · rw [decide_eq_false h, if_neg h]; rfl) p[n3].Fields.length 0 1152921504606846976 [] (b : Int) (by omega) rfl (by omega)
    refine Eq.trans hvl ?_
    cases hv : valsT l p[n3].Fields.length (b : Int) [] with
    | inl e => rfl
    | inr q =>
      obtain ⟨vs, c⟩ := q
      obtain ⟨g1, g2⟩ := valsT_good hl _ _ _ _ _ hv (by simp)
      simp only at g1 ⊢
      rw [echeck_ok hp (tk_evO (by rw [g1]; simp; omega) fun v hv => (g2 v hv).1), obind_some]
      split
      · rename_i h; rw [decide_eq_true h]; rfl
      · rename_i h; rw [decide_eq_false h]; rfl
/-! ### the mirror -/
theorem rst {p : List GType} {l : List UInt8} (hl : l.length ≤ 1000000) (fu i : Nat) (a : Int) (ns : List Int) (hi : i < 4) (hns : ns.length ≤ 4) : m_telltaleref07_Take_l2 p l (fu + 1) a ns (i : Int) =
    if (ztk l a).2.2 ≠ 0 then some (zeroE, 0, (((ztk l a).2.2 : Nat) : Int)) else m_telltaleref07_Take_l2 p l fu (((ztk l a).2.1 : Nat) : Int) (ns ++ [(((ztk l a).1 : Nat) : Int)]) ((i + 1 : Nat) : Int) := by
  conv => lhs; unfold m_telltaleref07_Take_l2
  rw [decide_eq_true (by omega), cond_true, rtake_ok hl, obind_some, app_ok (by simp; omega), obind_some, inc_ok (by omega)]
  unfold ztkI
  by_cases h : (ztk l a).2.2 ≠ 0
  · rw [decide_eq_true (by simpa using h), if_pos h]; rfl
  · rw [decide_eq_false (by simpa using h), if_neg h]; rfl
theorem rend_ok {p : List GType} {n0 n1 n2 : Nat} {t : GType} {vs : List GValue} {c : Int} (hp : scB p) (hs : schC p = 0) (h1 : vs.length ≤ 12) (h2 : ∀ v ∈ vs, okB v) (b0 : n0 < 18446744073709551616) (b1 : n1 < 18446744073709551616) (b2 : n2 < 18446744073709551616) {ns : List Int} (g0 : geti ns 0 = some (n0 : Int)) (g1 : geti ns 1 = some (n1 : Int)) (g2 : geti ns 2 = some (n2 : Int)) :
    (Option.bind (geti ns 0) fun x99_11 =>
    cond (decide (x99_11 ≤ 1099511627776))
    (Option.bind (geti ns 1) fun x104_11 =>
    cond (decide (x104_11 < 16))
    (Option.bind (geti ns 2) fun x110_11 =>
    cond (decide (x110_11 ≤ 1099511627776))
    (Option.bind (geti ns 0) fun x115_13 =>
    Option.bind (geti ns 1) fun x119_13 =>
    Option.bind (geti ns 2) fun x123_13 =>
    m_telltaleref07_Take_j14 p t vs c (IntKind.i64.wrap x115_13) (IntKind.i64.wrap x119_13) (IntKind.i64.wrap x123_13))
    (m_telltaleref07_Take_j14 p t vs c (-1) (-1) (-1)))
    (m_telltaleref07_Take_j12 p t vs c))
    (m_telltaleref07_Take_j12 p t vs c)) = some (if evC p (GEvent.mk (num40 n0) (num15 n1) (num40 n2) t.Name vs) ≠ 0 then (zeroE, 0, evC p (GEvent.mk (num40 n0) (num15 n1) (num40 n2) t.Name vs)) else (GEvent.mk (num40 n0) (num15 n1) (num40 n2) t.Name vs, c, 0)) := by
  have bad : ∀ e : GEvent, ¬ mayB e → evC p e = 8 := fun e he => by unfold evC; rw [if_neg (by simp [hs]), if_pos he]
  have j14 : ∀ x y z : Int, (-1 ≤ x ∧ x ≤ 1099511627776) → (-1 ≤ y ∧ y ≤ 15) → (-1 ≤ z ∧ z ≤ 1099511627776) → m_telltaleref07_Take_j14 p t vs c x y z = some (if evC p (GEvent.mk x y z t.Name vs) ≠ 0 then (zeroE, 0, evC p (GEvent.mk x y z t.Name vs)) else (GEvent.mk x y z t.Name vs, c, 0)) := by
    intro x y z hx hy hz
    unfold m_telltaleref07_Take_j14
    rw [recheck_ok hp ⟨by simp only; omega, by simp only; omega, by simp only; omega, h1, h2⟩, obind_some]
    split
    · rename_i h; rw [decide_eq_true h]; rfl
    · rename_i h; rw [decide_eq_false h]; rfl
  have hbad : m_telltaleref07_Take_j14 p t vs c (-1) (-1) (-1) = some (zeroE, 0, 8) := by
    rw [j14 _ _ _ (by omega) (by omega) (by omega), bad _ (fun h => by have := h.T; simp only at this; omega)]; rfl
  have n40 : ∀ n : Nat, ¬ n ≤ 1099511627776 → num40 n = -1 := fun n h => by unfold num40; rw [if_pos (by omega)]
  have n40' : ∀ n : Nat, n ≤ 1099511627776 → num40 n = n := fun n h => by unfold num40; rw [if_neg (by omega)]
  rw [g0, g1, g2, obind_some]
  simp only [obind_some]
  unfold m_telltaleref07_Take_j12
  rw [hbad]
  by_cases c0 : n0 ≤ 1099511627776
  · rw [decide_eq_true (by omega), cond_true]
    by_cases c1 : n1 < 16
    · rw [decide_eq_true (by omega), cond_true]
      by_cases c2 : n2 ≤ 1099511627776
      · rw [decide_eq_true (by omega), cond_true, w64 (by omega) (by omega), w64 (by omega) (by omega), w64 (by omega) (by omega), j14 _ _ _ (by omega) (by omega) (by omega), n40' _ c0, n40' _ c2, show num15 n1 = n1 by unfold num15; rw [if_neg (by omega)]]
      · rw [decide_eq_false (by omega), cond_false, n40 _ c2, bad _ (fun h => by have := h.Q; simp only at this; omega)]; rfl
    · rw [decide_eq_false (by omega), cond_false, show num15 n1 = -1 by unfold num15; rw [if_pos (by omega)], bad _ (fun h => by have := h.S; simp only at this; omega)]; rfl
  · rw [decide_eq_false (by omega), cond_false, n40 _ c0, bad _ (fun h => by have := h.T; simp only at this; omega)]; rfl
theorem retake_ok {p : List GType} {l : List UInt8} (a : Int) (hl : l.length ≤ 1000) (hp : scB p) : m_telltaleref07_Take p l a = some (etk p l a) := by
  unfold m_telltaleref07_Take m_telltaleref07_Take_j1 etk
  have hL := hp.L
  rw [rscheck_ok hp.L' hp.F, obind_some]
  by_cases h1 : schC p ≠ 0
  · rw [decide_eq_true h1, if_pos (.inl h1)]; rfl
  rw [decide_eq_false h1, cond_false]
  by_cases h2 : a < 0
  · rw [decide_eq_true h2, if_pos (.inr (.inl h2))]; rfl
  rw [decide_eq_false h2, cond_false]
  by_cases h3 : (l.length : Int) < a
  · rw [decide_eq_true h3, if_pos (.inr (.inr h3))]; rfl
  rw [decide_eq_false h3, cond_false, if_neg (by omega)]
  rw [show (1152921504606846976 : Nat) = 1152921504606846971 + 1 + 1 + 1 + 1 + 1 from rfl]
  have s0 := rst (p := p) (l := l) (by omega) 1152921504606846975 0 a [] (by omega) (by simp)
  refine Eq.trans s0 ?_
  cases ht : tk4 l a with
  | inl e =>
    unfold tk4 at ht
    by_cases c0 : (ztk l a).2.2 ≠ 0
    · rw [if_pos c0] at ht ⊢; cases ht; rfl
    rw [if_neg c0] at ht ⊢
    refine Eq.trans (rst (p := p) (l := l) (by omega) 1152921504606846974 1 _ _ (by omega) (by simp)) ?_
    generalize (((ztk l a).2.1 : Nat) : Int) = a1 at ht ⊢
    by_cases c1 : (ztk l a1).2.2 ≠ 0
    · rw [if_pos c1] at ht ⊢; cases ht; rfl
    rw [if_neg c1] at ht ⊢
    refine Eq.trans (rst (p := p) (l := l) (by omega) 1152921504606846973 2 _ _ (by omega) (by simp)) ?_
    generalize (((ztk l a1).2.1 : Nat) : Int) = a2 at ht ⊢
    by_cases c2 : (ztk l a2).2.2 ≠ 0
    · rw [if_pos c2] at ht ⊢; cases ht; rfl
    rw [if_neg c2] at ht ⊢
    refine Eq.trans (rst (p := p) (l := l) (by omega) 1152921504606846972 3 _ _ (by omega) (by simp)) ?_
    generalize (((ztk l a2).2.1 : Nat) : Int) = a3 at ht ⊢
    by_cases c3 : (ztk l a3).2.2 ≠ 0
    · rw [if_pos c3] at ht ⊢; cases ht; rfl
    rw [if_neg c3] at ht
    cases ht
  | inr q =>
    obtain ⟨n0, n1, n2, n3, b⟩ := q
    obtain ⟨b0, b1, b2, b3⟩ := tk4_lt ht
    unfold tk4 at ht
    by_cases c0 : (ztk l a).2.2 ≠ 0
    · rw [if_pos c0] at ht; cases ht
    rw [if_neg c0] at ht ⊢
    refine Eq.trans (rst (p := p) (l := l) (by omega) 1152921504606846974 1 _ _ (by omega) (by simp)) ?_
    generalize (ztk l a).1 = m0 at ht ⊢
    generalize (((ztk l a).2.1 : Nat) : Int) = a1 at ht ⊢
    by_cases c1 : (ztk l a1).2.2 ≠ 0
    · rw [if_pos c1] at ht; cases ht
    rw [if_neg c1] at ht ⊢
    refine Eq.trans (rst (p := p) (l := l) (by omega) 1152921504606846973 2 _ _ (by omega) (by simp)) ?_
    generalize (ztk l a1).1 = m1 at ht ⊢
    generalize (((ztk l a1).2.1 : Nat) : Int) = a2 at ht ⊢
    by_cases c2 : (ztk l a2).2.2 ≠ 0
    · rw [if_pos c2] at ht; cases ht
    rw [if_neg c2] at ht ⊢
    refine Eq.trans (rst (p := p) (l := l) (by omega) 1152921504606846972 3 _ _ (by omega) (by simp)) ?_
    generalize (ztk l a2).1 = m2 at ht ⊢
    generalize (((ztk l a2).2.1 : Nat) : Int) = a3 at ht ⊢
    by_cases c3 : (ztk l a3).2.2 ≠ 0
    · rw [if_pos c3] at ht; cases ht
    rw [if_neg c3] at ht ⊢
    generalize (ztk l a3).1 = m3 at ht ⊢
    generalize (ztk l a3).2.1 = bb at ht ⊢
    cases ht
    conv => lhs; unfold m_telltaleref07_Take_l2
    rw [decide_eq_false (by omega), cond_false]
    simp only [List.nil_append, List.cons_append]
    rw [show geti ([(n0 : Int), (n1 : Int), (n2 : Int), (n3 : Int)] : List Int) 3 = some (n3 : Int) from rfl, obind_some, wu64, Int.emod_eq_of_lt (by omega) (by omega)]
    by_cases h4 : p.length ≤ n3
    · rw [decide_eq_true (by omega), List.getElem?_eq_none h4]; rfl
    have h4 : n3 < p.length := by omega
    have hF := (hp.T _ (List.getElem_mem h4)).F
    rw [decide_eq_false (by omega), cond_false, obind_some, w64 (by omega) (by omega), List.getElem?_eq_getElem h4, geti_lt h4, obind_some]
    simp only
    have hvl := vals_loop (l := l) (L := fun fu vs a i => m_telltaleref07_Take_l7 p l p[n3] [(n0 : Int), (n1 : Int), (n2 : Int), (n3 : Int)] fu a vs i) (n := p[n3].Fields.length) (E := fun e => some (zeroE, 0, e))
      (K := fun vs c => m_telltaleref07_Take_l7 p l p[n3] [(n0 : Int), (n1 : Int), (n2 : Int), (n3 : Int)] 1 c vs (p[n3].Fields.length : Int))
      (fun fu vs a => by unfold m_telltaleref07_Take_l7; rw [d_nlt (by omega)]; rfl)
      (fun fu vs a i hi hvs => by
        conv => lhs; unfold m_telltaleref07_Take_l7
        rw [d_lt (by omega), cond_true, rvtake_ok (by omega), obind_some, app_ok (by simp; omega), obind_some, inc_ok (by omega)]
        by_cases h : (vtk l a).2.2 ≠ 0
        · rw [decide_eq_true h, if_pos h]; rfl
        · rw [decide_eq_false h, if_neg h]; rfl) p[n3].Fields.length 0 1152921504606846976 [] (b : Int) (by omega) rfl (by omega)
    refine Eq.trans hvl ?_
    cases hv : valsT l p[n3].Fields.length (b : Int) [] with
    | inl e => rfl
    | inr q =>
      obtain ⟨vs, c⟩ := q
      obtain ⟨g1, g2⟩ := valsT_good hl _ _ _ _ _ hv (by simp)
      simp only at g1 ⊢
      unfold m_telltaleref07_Take_l7
      rw [d_nlt (by omega), cond_false]
      exact rend_ok hp (by omega) (by rw [g1]; simp; omega) (fun v hv => (g2 v hv).1) b0 b1 b2 rfl rfl rfl
end Go.Proofs.Ytbgioanegbipgaa.K
