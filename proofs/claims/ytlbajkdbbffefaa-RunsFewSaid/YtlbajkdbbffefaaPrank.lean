/- Which list of pairs is ahead: the program's way and the document's. -/
import Derived.Test.YtlbajkdbbffefaaPev
namespace Go.Proofs.Ytlbajkdbbffefaa.K
open Go.RowKit Go.Lib
set_option linter.unusedVariables false
set_option linter.unusedSimpArgs false
/-- -1, 0, 1. -/
def cmpI (x y : Int) : Int := if x < y then -1 else if y < x then 1 else 0
def cmpS (x y : List UInt8) : Int := if ltS x y = true then -1 else if x = y then 0 else 1
theorem u8_lt {a b : UInt8} : (a < b) ↔ a.toNat < b.toNat := UInt8.lt_iff_toNat_lt
theorem u8_eq {a b : UInt8} : a = b ↔ a.toNat = b.toNat := UInt8.toNat_inj.symm
theorem ltS_cons {a b : UInt8} {x y : List UInt8} : ltS (a :: x) (b :: y) = true ↔ a.toNat < b.toNat ∨ a.toNat = b.toNat ∧ ltS x y = true := by
  simp only [ltS, Op.bytesLess, Bool.or_eq_true, Bool.and_eq_true, decide_eq_true_eq, beq_iff_eq, u8_lt, u8_eq]
theorem ltS_nil {x : List UInt8} : ltS x [] = false := by cases x <;> rfl
theorem ltS_irr (x : List UInt8) : ¬ ltS x x = true := by
  induction x with
  | nil => simp [ltS_nil]
  | cons a x ih => rw [ltS_cons]; rintro (h | h) <;> simp_all
theorem ltS_asym {x y : List UInt8} (h : ltS x y = true) : ¬ ltS y x = true := by
  induction x generalizing y with
  | nil => simp [ltS_nil]
  | cons a x ih =>
    cases y with
    | nil => simp [ltS_nil] at h
    | cons b y =>
      rw [ltS_cons] at h ⊢
      rintro (k | k)
      · rcases h with h | h <;> omega
      · rcases h with h | h
        · omega
        · exact ih h.2 k.2
theorem ltS_tot {x y : List UInt8} : ltS x y = true ∨ x = y ∨ ltS y x = true := by
  induction x generalizing y with
  | nil => cases y <;> simp [ltS, Op.bytesLess]
  | cons a x ih =>
    cases y with
    | nil => exact .inr (.inr rfl)
    | cons b y =>
      rw [ltS_cons, ltS_cons]
      rcases Nat.lt_trichotomy a.toNat b.toNat with h | h | h
      · exact .inl (.inl h)
      · rcases ih (y := y) with k | k | k
        · exact .inl (.inr ⟨h, k⟩)
        · exact .inr (.inl (by rw [u8_eq.2 h, k]))
        · exact .inr (.inr (.inr ⟨h.symm, k⟩))
      · exact .inr (.inr (.inl h))
theorem ltS_trans {x y z : List UInt8} (h : ltS x y = true) (k : ltS y z = true) : ltS x z = true := by
  induction x generalizing y z with
  | nil =>
    cases z with
    | nil => rw [ltS_nil] at k; cases k
    | cons c z => rfl
  | cons a x ih =>
    cases y with
    | nil => rw [ltS_nil] at h; cases h
    | cons b y =>
      cases z with
      | nil => rw [ltS_nil] at k; cases k
      | cons c z =>
        rw [ltS_cons] at h k ⊢
        rcases h with h | h <;> rcases k with k | k
        · exact .inl (by omega)
        · exact .inl (by omega)
        · exact .inl (by omega)
        · exact .inr ⟨by omega, ih h.2 k.2⟩
theorem gtS_iff {x y : List UInt8} : gtS x y = ltS y x := by
  have h1 := ltS_tot (x := x) (y := y)
  have h2 := @ltS_asym x y
  have h3 := @ltS_asym y x
  by_cases e : x = y
  · subst e
    have := ltS_irr x
    simp [gtS, Bool.eq_false_iff.2 this]
  · unfold gtS
    rw [show (Op.bytesLess x y) = ltS x y from rfl]
    cases hx : ltS x y <;> cases hy : ltS y x <;> simp_all
/-- A pair's order: -1, 0, 1. -/
def lexI (a b : Int) : Int := if a ≠ 0 then a else b
def ordE (a b : GEvent) : Int := lexI (cmpI a.Time b.Time) (lexI (cmpI a.Source b.Source) (cmpI a.Seq b.Seq))
def ordP (a b : GPair) : Int := lexI (ordE a.E b.E) (cmpS a.Var b.Var)
def rk : List GPair → List GPair → Int
  | [], [] => 0
  | [], _ :: _ => -1
  | _ :: _, [] => 1
  | a :: l, b :: r => lexI (ordP a b) (rk l r)
theorem cmpI_neg (a b : Int) : cmpI b a = -cmpI a b := by unfold cmpI; split <;> split <;> omega
theorem cmpI_zero {a b : Int} : cmpI a b = 0 ↔ a = b := by unfold cmpI; split <;> (try split) <;> omega
theorem cmpS_zero {a b : List UInt8} : cmpS a b = 0 ↔ a = b := by
  unfold cmpS
  split
  · rename_i h
    constructor
    · intro h; omega
    · intro e; subst e; exact absurd h (ltS_irr a)
  · split <;> simp_all
theorem cmpS_neg (a b : List UInt8) : cmpS b a = -cmpS a b := by
  unfold cmpS
  have h1 := ltS_tot (x := a) (y := b)
  have h2 := @ltS_asym a b
  by_cases e : a = b
  · subst e; have := ltS_irr a; simp [this]
  · have e' : ¬ b = a := fun h => e h.symm
    by_cases k : ltS a b = true
    · simp [k, h2 k, e, e']
    · have : ltS b a = true := by rcases h1 with h | h | h <;> first | exact absurd h k | exact absurd h e | exact h
      simp [k, this, e]
theorem lexI_neg (a b : Int) : lexI (-a) (-b) = -lexI a b := by unfold lexI; split <;> split <;> omega
theorem lexI_zero {a b : Int} : lexI a b = 0 ↔ a = 0 ∧ b = 0 := by unfold lexI; split <;> simp_all
theorem ordE_neg (a b : GEvent) : ordE b a = -ordE a b := by unfold ordE; rw [cmpI_neg a.Time, cmpI_neg a.Source, cmpI_neg a.Seq, lexI_neg, lexI_neg]
theorem ordP_neg (a b : GPair) : ordP b a = -ordP a b := by unfold ordP; rw [ordE_neg, cmpS_neg a.Var, lexI_neg]
theorem rk_neg : ∀ (l r : List GPair), rk r l = -rk l r
  | [], [] => rfl
  | [], _ :: _ => rfl
  | _ :: _, [] => rfl
  | a :: l, b :: r => by rw [rk, rk, ordP_neg, rk_neg l r, lexI_neg]
theorem ordP_self (a : GPair) : ordP a a = 0 := by have := ordP_neg a a; omega
theorem rk_self (l : List GPair) : rk l l = 0 := by have := rk_neg l l; omega
theorem cmpI_set (a b : Int) : cmpI a b = -1 ∨ cmpI a b = 0 ∨ cmpI a b = 1 := by unfold cmpI; split <;> (try split) <;> simp
theorem cmpS_set (a b : List UInt8) : cmpS a b = -1 ∨ cmpS a b = 0 ∨ cmpS a b = 1 := by unfold cmpS; split <;> (try split) <;> simp
theorem lexI_set {a b : Int} (ha : a = -1 ∨ a = 0 ∨ a = 1) (hb : b = -1 ∨ b = 0 ∨ b = 1) : lexI a b = -1 ∨ lexI a b = 0 ∨ lexI a b = 1 := by unfold lexI; split <;> assumption
theorem ordE_set (a b : GEvent) : ordE a b = -1 ∨ ordE a b = 0 ∨ ordE a b = 1 := lexI_set (cmpI_set _ _) (lexI_set (cmpI_set _ _) (cmpI_set _ _))
theorem ordP_set (a b : GPair) : ordP a b = -1 ∨ ordP a b = 0 ∨ ordP a b = 1 := lexI_set (ordE_set _ _) (cmpS_set _ _)
theorem rk_set : ∀ (l r : List GPair), rk l r = -1 ∨ rk l r = 0 ∨ rk l r = 1
  | [], [] => .inr (.inl rfl)
  | [], _ :: _ => .inl rfl
  | _ :: _, [] => .inr (.inr rfl)
  | a :: l, b :: r => lexI_set (ordP_set a b) (rk_set l r)
/-! ### the models -/
theorem compI_ok (a b : Int) : m_cmp_Compare_int a b = some (cmpI a b) := by
  unfold m_cmp_Compare_int m_cmp_isNaN_int cmpI
  simp only [obind_some, ne_eq, not_true, decide_false, cond_false]
  by_cases h : a < b
  · simp [h]
  · by_cases k : b < a <;> simp [h, k]
theorem compS_ok (a b : List UInt8) : m_cmp_Compare_string a b = some (cmpS a b) := by
  unfold m_cmp_Compare_string m_cmp_isNaN_string cmpS
  simp only [obind_some, ne_eq, not_true, decide_false, cond_false, gtS_iff]
  by_cases h : ltS a b = true
  · simp [h]
  · by_cases e : a = b
    · subst e; simp [Bool.eq_false_iff.2 h]
    · have : ltS b a = true := by rcases ltS_tot (x := a) (y := b) with k | k | k <;> first | exact absurd k h | exact absurd k e | exact k
      simp [Bool.eq_false_iff.2 h, this, e]
theorem or_ok (a b c d : Int) : m_cmp_Or_int [a, b, c, d] = some (lexI a (lexI b (lexI c d))) := by
  have step : ∀ (l : List Int) (fu i : Nat), l.length ≤ 100 → i < l.length → m_cmp_Or_int_l1 l (fu + 1) (i : Int) = if l.getD i 0 ≠ 0 then some (l.getD i 0) else m_cmp_Or_int_l1 l fu ((i + 1 : Nat) : Int) := fun l fu i hl hi => by
    conv => lhs; unfold m_cmp_Or_int_l1
    rw [d_lt (by omega), cond_true, geti_lt hi, obind_some, inc_ok (by omega)]
    simp only [List.getD_eq_getElem?_getD, List.getElem?_eq_getElem hi, Option.getD_some]
    by_cases h : l[i] = 0 <;> simp [h]
  have e : m_cmp_Or_int [a, b, c, d] = m_cmp_Or_int_l1 [a, b, c, d] (1152921504606846971 + 1 + 1 + 1 + 1 + 1) ((0 : Nat) : Int) := rfl
  rw [e, step _ _ 0 (by simp) (by simp), step _ _ 1 (by simp) (by simp), step _ _ 2 (by simp) (by simp), step _ _ 3 (by simp) (by simp)]
  have last : ∀ fu, m_cmp_Or_int_l1 [a, b, c, d] (fu + 1) ((4 : Nat) : Int) = some 0 := fun fu => by
    unfold m_cmp_Or_int_l1; rw [d_nlt (by simp), cond_false]
  rw [last]
  simp only [List.getD_cons_zero, List.getD_cons_succ, lexI]
  by_cases ha : a = 0 <;> by_cases hb : b = 0 <;> by_cases hc : c = 0 <;> by_cases hd : d = 0 <;> simp [ha, hb, hc, hd]
theorem lexI_assoc (a b c : Int) : lexI (lexI a b) c = lexI a (lexI b c) := by unfold lexI; by_cases ha : a = 0 <;> simp [ha]
theorem order_ok (a b : GPair) : m_bind_order a b = some (ordP a b) := by
  unfold m_bind_order m_event_Event_ID
  simp only [obind_some, compI_ok, compS_ok, or_ok, ordP, ordE, lexI_assoc]
theorem less_ok (a b : GEvent) : m_telltaleref07_Less a b = some (decide (ordE a b < 0)) := by
  unfold m_telltaleref07_Less ordE lexI cmpI
  by_cases h1 : a.Time = b.Time
  · by_cases h2 : a.Source = b.Source
    · simp [h1, h2]; by_cases h3 : a.Seq < b.Seq
      · simp [h3]
      · by_cases h4 : b.Seq < a.Seq <;> simp [h3, h4]
    · by_cases h3 : a.Source < b.Source
      · simp [h1, h2, h3]
      · have : b.Source < a.Source := by omega
        simp [h1, h2, h3, this]
  · by_cases h3 : a.Time < b.Time
    · simp [h1, h3]
    · have : b.Time < a.Time := by omega
      simp [h1, h3, this]
theorem ahead_ok (a b : GPair) : m_telltaleref19_ahead a b = some (decide (ordP a b < 0)) := by
  unfold m_telltaleref19_ahead
  rw [less_ok, less_ok, obind_some, obind_some, obind_some]
  have h1 := ordE_neg a.E b.E
  have h2 := ordE_set a.E b.E
  unfold ordP lexI
  by_cases h : ordE a.E b.E < 0
  · simp [h]; omega
  · by_cases k : ordE b.E a.E < 0
    · have e : ordE a.E b.E ≠ 0 := by omega
      simp [h, k, e]
    · have e : ordE a.E b.E = 0 := by omega
      simp only [e, decide_eq_false h, decide_eq_false k, cond_false, ne_eq, not_true, if_false]
      unfold cmpS
      cases hx : ltS a.Var b.Var
      · by_cases q : a.Var = b.Var <;> simp [q]
      · simp
theorem rank_ok (l r : List GPair) (hl : l.length ≤ 400000000) : m_bind_Rank l r = some (rk l r) := by
  unfold m_bind_Rank m_slices_CompareFunc_Pairbind_Pair_bind_Pair_bind_Pair__bind_order
  rw [bind_of (x := rk l r)]
  have := loop1_0 (L := fun fu i => m_slices_CompareFunc_Pairbind_Pair_bind_Pair_bind_Pair__bind_order_l1 l r fu i) (n := l.length) (P := fun i o => i ≤ r.length → o = some (rk (l.drop i) (r.drop i))) (by omega)
    (fun fu hr => by
      unfold m_slices_CompareFunc_Pairbind_Pair_bind_Pair_bind_Pair__bind_order_l1
      rw [d_nlt (by omega), cond_false, List.drop_of_length_le (Nat.le_refl _)]
      by_cases h : l.length < r.length
      · rw [d_lt (by omega), drop_cons h]; rfl
      · rw [d_nlt (by omega), List.drop_of_length_le (by omega)]; rfl)
    (fun fu i hi ih hr => by
      unfold m_slices_CompareFunc_Pairbind_Pair_bind_Pair_bind_Pair__bind_order_l1
      rw [d_lt (by omega), cond_true, geti_lt hi, obind_some, drop_cons hi]
      by_cases h : i < r.length
      · rw [decide_eq_false (show ¬ ((r.length : Int) ≤ (i : Int)) by omega), cond_false, geti_lt h, obind_some, order_ok, obind_some, drop_cons h, rk, lexI, inc_ok (by omega), ih (by omega)]
        by_cases q : ordP l[i] r[i] = 0 <;> simp [q]
      · rw [decide_eq_true (show ((r.length : Int) ≤ (i : Int)) by omega), cond_true, List.drop_of_length_le (show r.length ≤ i by omega)]; rfl)
  simpa using this (Nat.zero_le _)
theorem rrank_ok (l r : List GPair) (hl : l.length ≤ 400000000) (hr : r.length ≤ 400000000) : m_telltaleref19_Rank l r = some (rk l r) := by
  unfold m_telltaleref19_Rank
  have j4 : ∀ i, (l.drop i = [] ∨ r.drop i = []) → i ≤ l.length → i ≤ r.length → m_telltaleref19_Rank_j4 l r = some (rk (l.drop i) (r.drop i)) := fun i h h1 h2 => by
    unfold m_telltaleref19_Rank_j4
    rw [w64 (by omega) (by omega)]
    have e1 : (l.drop i).length = l.length - i := List.length_drop
    have e2 : (r.drop i).length = r.length - i := List.length_drop
    cases hx : l.drop i with
    | nil =>
      cases hy : r.drop i with
      | nil =>
        rw [hx] at e1; rw [hy] at e2
        simp only [List.length_nil] at e1 e2
        rw [d_nlt (by omega), cond_false, rk, show min (1 : Int) ((l.length : Int) - (r.length : Int)) = 0 by omega]
      | cons b y =>
        rw [hx] at e1; rw [hy] at e2
        simp only [List.length_nil, List.length_cons] at e1 e2
        rw [d_lt (by omega), cond_true, rk]
    | cons a x =>
      cases hy : r.drop i with
      | nil =>
        rw [hx] at e1; rw [hy] at e2
        simp only [List.length_nil, List.length_cons] at e1 e2
        rw [d_nlt (by omega), cond_false, rk, show min (1 : Int) ((l.length : Int) - (r.length : Int)) = 1 by omega]
      | cons b y => rw [hx, hy] at h; rcases h with h | h <;> cases h
  have := loop1_0 (L := fun fu i => m_telltaleref19_Rank_l0 l r fu i) (n := l.length) (P := fun i o => i ≤ r.length → o = some (rk (l.drop i) (r.drop i))) (by omega)
    (fun fu hi => by
      unfold m_telltaleref19_Rank_l0
      rw [d_nlt (by omega), cond_false]
      exact j4 _ (.inl (List.drop_of_length_le (Nat.le_refl _))) (Nat.le_refl _) hi)
    (fun fu i hi ih hq => by
      unfold m_telltaleref19_Rank_l0
      rw [d_lt (by omega), cond_true]
      by_cases h : i < r.length
      · rw [d_lt (by omega), cond_true, geti_lt hi, obind_some, geti_lt h, obind_some, ahead_ok, obind_some, obind_some, obind_some, ahead_ok, obind_some, inc_ok (by omega), ih (by omega), drop_cons hi, drop_cons h, rk, lexI]
        have h1 := ordP_neg l[i] r[i]
        have h2 := ordP_set l[i] r[i]
        by_cases q : ordP l[i] r[i] < 0
        · have q2 : ordP l[i] r[i] ≠ 0 := by omega
          simp [q, q2]; omega
        · by_cases q3 : ordP r[i] l[i] < 0
          · have q2 : ordP l[i] r[i] ≠ 0 := by omega
            simp [q, q2, q3]; omega
          · have q2 : ordP l[i] r[i] = 0 := by omega
            simp [q, q2, q3]
      · rw [d_nlt (by omega), cond_false]
        exact j4 _ (.inr (List.drop_of_length_le (by omega))) (by omega) hq)
  simpa using this (Nat.zero_le _)
end Go.Proofs.Ytlbajkdbbffefaa.K
