/- Merged: Pev Prank Peq Pesm Pbd Pcmt. -/
import Derived.Test.YtkagljfmfjaleaaLM
import Derived.Test.YtkagljfmfjaleaaLp
import Derived.Test.YtkagljfmfjaleaaLO
namespace Go.Proofs.Ytkagljfmfjaleaa.K
open Go.RowKit Go.Lib
set_option linter.unusedVariables false
set_option linter.unusedSimpArgs false
theorem vals_ok {l : List GValue} (hl : l.length ≤ 400000000) : m_telltalelaw06_Vals l = some l := by
  have := map_loop (L := fun fu s i => m_telltalelaw06_Vals_l0 l fu s i) (l := l) (f := id) (e := id) hl (fun fu s => by unfold m_telltalelaw06_Vals_l0; rw [d_nlt (by omega)]; rfl)
    (fun fu s i h hs => by
      conv => lhs; unfold m_telltalelaw06_Vals_l0
      rw [d_lt (by omega), cond_true, geti_lt h, obind_some, app_ok (by simp; omega), obind_some, inc_ok (by omega)]; rfl)
  rw [List.map_id] at this; exact this
theorem own_ok {e : GEvent} (h : e.Vals.length ≤ 400000000) : m_telltalelaw07_Own e = some e := by unfold m_telltalelaw07_Own; rw [vals_ok h]; rfl
theorem back_ok {e : GEvent} (h : e.Vals.length ≤ 400000000) : m_telltalelaw07_Back e = some e := by
  have := map_loop (L := fun fu s i => m_telltalelaw07_Back_l0 e fu s i) (l := e.Vals) (f := id) (e := fun s => GEvent.mk e.Time e.Source e.Seq e.Type_ s) h (fun fu s => by unfold m_telltalelaw07_Back_l0; rw [d_nlt (by omega)]; rfl)
    (fun fu s i h hs => by
      conv => lhs; unfold m_telltalelaw07_Back_l0
      rw [d_lt (by omega), cond_true, geti_lt h, obind_some, app_ok (by simp; omega), obind_some, inc_ok (by omega)]; rfl)
  rw [List.map_id] at this; exact this
/-- Short enough. -/
def evB (e : GEvent) : Prop := e.Type_.length ≤ 40 ∧ e.Vals.length ≤ 12 ∧ ∀ v ∈ e.Vals, v.Text.length ≤ 100
theorem small_ok {v : GValue} (h : v.Text.length ≤ maxLen) : m_telltalelaw04_Small v = some (max 0 ((v.Text.length : Int) - 100)) := by
  unfold m_telltalelaw04_Small
  have := maxLen_le h
  rw [w64 (by omega) (by omega)]
/-- Lengths that memory allows. -/
def evM (e : GEvent) : Prop := e.Type_.length ≤ maxLen ∧ e.Vals.length ≤ maxLen ∧ ∀ v ∈ e.Vals, v.Text.length ≤ maxLen
theorem over_ok {l : List GEvent} {k : Int} (hk : k ≤ 1000000) (hm : ∀ e ∈ l, evM e) : ∃ r, m_telltalelaw07_Over l k = some r ∧ (r = 1 ∨ r = 0 ∧ (l.length : Int) ≤ k ∧ ∀ e ∈ l, evB e) := by
  unfold m_telltalelaw07_Over
  by_cases h : k < (l.length : Int)
  · rw [d_lt h]; exact ⟨1, rfl, .inl rfl⟩
  · rw [d_nlt h, cond_false]
    have := loop1_0 (L := fun fu i => m_telltalelaw07_Over_l1 l fu i) (n := l.length) (P := fun i o => ∃ r, o = some r ∧ (r = 1 ∨ r = 0 ∧ ∀ e ∈ l.drop i, evB e)) (by omega)
      (fun fu => by unfold m_telltalelaw07_Over_l1; rw [d_nlt (by omega)]; exact ⟨0, rfl, .inr ⟨rfl, by simp⟩⟩)
      (fun fu i hi ih => by
        have hmi := hm l[i] (List.getElem_mem hi)
        have h1 := maxLen_le hmi.1
        have h2 := maxLen_le hmi.2.1
        unfold m_telltalelaw07_Over_l1
        rw [d_lt (by omega), cond_true, geti_lt hi, obind_some]
        by_cases ht : 40 < l[i].Type_.length
        · rw [d_lt (by omega)]; exact ⟨1, rfl, .inl rfl⟩
        · rw [d_nlt (by omega), cond_false, obind_some]
          by_cases hv : 12 < l[i].Vals.length
          · rw [d_lt (by omega)]; exact ⟨1, rfl, .inl rfl⟩
          · rw [d_nlt (by omega), cond_false]
            have := loop1_0 (L := fun fu2 j => m_telltalelaw07_Over_l4 l (i : Int) (fun y5_1 => m_telltalelaw07_Over_l1 l fu y5_1) fu2 j) (n := l[i].Vals.length) (P := fun j o => (∀ v ∈ l[i].Vals.take j, v.Text.length ≤ 100) → ∃ r, o = some r ∧ (r = 1 ∨ r = 0 ∧ ∀ e ∈ l.drop i, evB e)) (by omega)
              (fun fu2 hj => by
                unfold m_telltalelaw07_Over_l4
                rw [geti_lt hi, obind_some, d_nlt (by omega), cond_false, inc_ok (by omega)]
                obtain ⟨r, e, q⟩ := ih
                refine ⟨r, e, q.imp id fun ⟨q1, q2⟩ => ⟨q1, ?_⟩⟩
                rw [drop_cons hi]
                intro e he
                rcases List.mem_cons.1 he with rfl | he
                · exact ⟨by omega, by omega, by rw [List.take_of_length_le (Nat.le_refl _)] at hj; exact hj⟩
                · exact q2 e he)
              (fun fu2 j hj ih2 hq => by
                unfold m_telltalelaw07_Over_l4
                have hvm := hmi.2.2 _ (List.getElem_mem hj)
                have hvl := maxLen_le hvm
                rw [geti_lt hi, obind_some, d_lt (by omega), cond_true, obind_some, geti_lt hj, obind_some, small_ok hvm, obind_some]
                by_cases hs : 100 < l[i].Vals[j].Text.length
                · rw [d_lt (by omega)]; exact ⟨1, rfl, .inl rfl⟩
                · rw [d_nlt (by omega), cond_false, inc_ok (by omega)]
                  refine ih2 fun v hv => ?_
                  rw [take_snoc hj] at hv
                  rcases List.mem_append.1 hv with hv | hv
                  · exact hq v hv
                  · simp only [List.mem_singleton] at hv; subst hv; omega)
            exact this (by simp))
    obtain ⟨r, e, q⟩ := this
    exact ⟨r, e, q.imp id fun ⟨q1, q2⟩ => ⟨q1, by omega, by simpa using q2⟩⟩
end Go.Proofs.Ytkagljfmfjaleaa.K
namespace Go.Proofs.Ytkagljfmfjaleaa.K
open Go.RowKit Go.Lib
set_option linter.unusedVariables false
set_option linter.unusedSimpArgs false
/-- -1, 0, 1. -/
def cmpI (x y : Int) : Int := if x < y then -1 else if y < x then 1 else 0
def cmpS (x y : List UInt8) : Int := if ltS x y = true then -1 else if x = y then 0 else 1
theorem u8_lt {a b : UInt8} : (a < b) ↔ a.toNat < b.toNat := UInt8.lt_iff_toNat_lt
theorem u8_eq {a b : UInt8} : a = b ↔ a.toNat = b.toNat := UInt8.toNat_inj.symm
theorem ltS_cons {a b : UInt8} {x y : List UInt8} : ltS (a :: x) (b :: y) = true ↔ a.toNat < b.toNat ∨ a.toNat = b.toNat ∧ ltS x y = true := by
  simp only [ltS, Op.bytesLess, Bool.or_eq_true, Bool.and_eq_true, decide_eq_true_eq, beq_iff_eq, u8_lt, u8_eq]
theorem ltS_nil {x : List UInt8} : ltS x [] = false := by cases x <;> rfl
theorem ltS_irr (x : List UInt8) : ¬ ltS x x = true := by
  induction x with
  | nil => simp [ltS_nil]
  | cons a x ih => rw [ltS_cons]; rintro (h | h) <;> simp_all
theorem ltS_asym {x y : List UInt8} (h : ltS x y = true) : ¬ ltS y x = true := by
  induction x generalizing y with
  | nil => simp [ltS_nil]
  | cons a x ih =>
    cases y with
    | nil => simp [ltS_nil] at h
    | cons b y =>
      rw [ltS_cons] at h ⊢
      rintro (k | k)
      · rcases h with h | h <;> omega
      · rcases h with h | h
        · omega
        · exact ih h.2 k.2
theorem ltS_tot {x y : List UInt8} : ltS x y = true ∨ x = y ∨ ltS y x = true := by
  induction x generalizing y with
  | nil => cases y <;> simp [ltS, Op.bytesLess]
  | cons a x ih =>
    cases y with
    | nil => exact .inr (.inr rfl)
    | cons b y =>
      rw [ltS_cons, ltS_cons]
      rcases Nat.lt_trichotomy a.toNat b.toNat with h | h | h
      · exact .inl (.inl h)
      · rcases ih (y := y) with k | k | k
        · exact .inl (.inr ⟨h, k⟩)
        · exact .inr (.inl (by rw [u8_eq.2 h, k]))
        · exact .inr (.inr (.inr ⟨h.symm, k⟩))
      · exact .inr (.inr (.inl h))
theorem ltS_trans {x y z : List UInt8} (h : ltS x y = true) (k : ltS y z = true) : ltS x z = true := by
  induction x generalizing y z with
  | nil =>
    cases z with
    | nil => rw [ltS_nil] at k; cases k
    | cons c z => rfl
  | cons a x ih =>
    cases y with
    | nil => rw [ltS_nil] at h; cases h
    | cons b y =>
      cases z with
      | nil => rw [ltS_nil] at k; cases k
      | cons c z =>
        rw [ltS_cons] at h k ⊢
        rcases h with h | h <;> rcases k with k | k
        · exact .inl (by omega)
        · exact .inl (by omega)
        · exact .inl (by omega)
        · exact .inr ⟨by omega, ih h.2 k.2⟩
theorem gtS_iff {x y : List UInt8} : gtS x y = ltS y x := by
  have h1 := ltS_tot (x := x) (y := y)
  have h2 := @ltS_asym x y
  have h3 := @ltS_asym y x
  by_cases e : x = y
  · subst e
    have := ltS_irr x
    simp [gtS, Bool.eq_false_iff.2 this]
  · unfold gtS
    rw [show (Op.bytesLess x y) = ltS x y from rfl]
    cases hx : ltS x y <;> cases hy : ltS y x <;> simp_all
/-- A pair's order: -1, 0, 1. -/
def lexI (a b : Int) : Int := if a ≠ 0 then a else b
def ordE (a b : GEvent) : Int := lexI (cmpI a.Time b.Time) (lexI (cmpI a.Source b.Source) (cmpI a.Seq b.Seq))
def ordP (a b : GPair) : Int := lexI (ordE a.E b.E) (cmpS a.Var b.Var)
def rk : List GPair → List GPair → Int
  | [], [] => 0
  | [], _ :: _ => -1
  | _ :: _, [] => 1
  | a :: l, b :: r => lexI (ordP a b) (rk l r)
theorem cmpI_neg (a b : Int) : cmpI b a = -cmpI a b := by unfold cmpI; split <;> split <;> omega
theorem cmpI_zero {a b : Int} : cmpI a b = 0 ↔ a = b := by unfold cmpI; split <;> (try split) <;> omega
theorem cmpS_zero {a b : List UInt8} : cmpS a b = 0 ↔ a = b := by
  unfold cmpS
  split
  · rename_i h
    constructor
    · intro h; omega
    · intro e; subst e; exact absurd h (ltS_irr a)
  · split <;> simp_all
theorem cmpS_neg (a b : List UInt8) : cmpS b a = -cmpS a b := by
  unfold cmpS
  have h1 := ltS_tot (x := a) (y := b)
  have h2 := @ltS_asym a b
  by_cases e : a = b
  · subst e; have := ltS_irr a; simp [this]
  · have e' : ¬ b = a := fun h => e h.symm
    by_cases k : ltS a b = true
    · simp [k, h2 k, e, e']
    · have : ltS b a = true := by rcases h1 with h | h | h <;> first | exact absurd h k | exact absurd h e | exact h
      simp [k, this, e]
theorem lexI_neg (a b : Int) : lexI (-a) (-b) = -lexI a b := by unfold lexI; split <;> split <;> omega
theorem lexI_zero {a b : Int} : lexI a b = 0 ↔ a = 0 ∧ b = 0 := by unfold lexI; split <;> simp_all
theorem ordE_neg (a b : GEvent) : ordE b a = -ordE a b := by unfold ordE; rw [cmpI_neg a.Time, cmpI_neg a.Source, cmpI_neg a.Seq, lexI_neg, lexI_neg]
theorem ordP_neg (a b : GPair) : ordP b a = -ordP a b := by unfold ordP; rw [ordE_neg, cmpS_neg a.Var, lexI_neg]
theorem rk_neg : ∀ (l r : List GPair), rk r l = -rk l r
  | [], [] => rfl
  | [], _ :: _ => rfl
  | _ :: _, [] => rfl
  | a :: l, b :: r => by rw [rk, rk, ordP_neg, rk_neg l r, lexI_neg]
theorem ordP_self (a : GPair) : ordP a a = 0 := by have := ordP_neg a a; omega
theorem rk_self (l : List GPair) : rk l l = 0 := by have := rk_neg l l; omega
theorem cmpI_set (a b : Int) : cmpI a b = -1 ∨ cmpI a b = 0 ∨ cmpI a b = 1 := by unfold cmpI; split <;> (try split) <;> simp
theorem cmpS_set (a b : List UInt8) : cmpS a b = -1 ∨ cmpS a b = 0 ∨ cmpS a b = 1 := by unfold cmpS; split <;> (try split) <;> simp
theorem lexI_set {a b : Int} (ha : a = -1 ∨ a = 0 ∨ a = 1) (hb : b = -1 ∨ b = 0 ∨ b = 1) : lexI a b = -1 ∨ lexI a b = 0 ∨ lexI a b = 1 := by unfold lexI; split <;> assumption
theorem ordE_set (a b : GEvent) : ordE a b = -1 ∨ ordE a b = 0 ∨ ordE a b = 1 := lexI_set (cmpI_set _ _) (lexI_set (cmpI_set _ _) (cmpI_set _ _))
theorem ordP_set (a b : GPair) : ordP a b = -1 ∨ ordP a b = 0 ∨ ordP a b = 1 := lexI_set (ordE_set _ _) (cmpS_set _ _)
theorem rk_set : ∀ (l r : List GPair), rk l r = -1 ∨ rk l r = 0 ∨ rk l r = 1
  | [], [] => .inr (.inl rfl)
  | [], _ :: _ => .inl rfl
  | _ :: _, [] => .inr (.inr rfl)
  | a :: l, b :: r => lexI_set (ordP_set a b) (rk_set l r)
/-! ### the models -/
theorem compI_ok (a b : Int) : m_cmp_Compare_int a b = some (cmpI a b) := by
  unfold m_cmp_Compare_int m_cmp_isNaN_int cmpI
  simp only [obind_some, ne_eq, not_true, decide_false, cond_false]
  by_cases h : a < b
  · simp [h]
  · by_cases k : b < a <;> simp [h, k]
theorem compS_ok (a b : List UInt8) : m_cmp_Compare_string a b = some (cmpS a b) := by
  unfold m_cmp_Compare_string m_cmp_isNaN_string cmpS
  simp only [obind_some, ne_eq, not_true, decide_false, cond_false, gtS_iff]
  by_cases h : ltS a b = true
  · simp [h]
  · by_cases e : a = b
    · subst e; simp [Bool.eq_false_iff.2 h]
    · have : ltS b a = true := by rcases ltS_tot (x := a) (y := b) with k | k | k <;> first | exact absurd k h | exact absurd k e | exact k
      simp [Bool.eq_false_iff.2 h, this, e]
theorem or_ok (a b c d : Int) : m_cmp_Or_int [a, b, c, d] = some (lexI a (lexI b (lexI c d))) := by
  have step : ∀ (l : List Int) (fu i : Nat), l.length ≤ 100 → i < l.length → m_cmp_Or_int_l1 l (fu + 1) (i : Int) = if l.getD i 0 ≠ 0 then some (l.getD i 0) else m_cmp_Or_int_l1 l fu ((i + 1 : Nat) : Int) := fun l fu i hl hi => by
    conv => lhs; unfold m_cmp_Or_int_l1
    rw [d_lt (by omega), cond_true, geti_lt hi, obind_some, inc_ok (by omega)]
    simp only [List.getD_eq_getElem?_getD, List.getElem?_eq_getElem hi, Option.getD_some]
    by_cases h : l[i] = 0 <;> simp [h]
  have e : m_cmp_Or_int [a, b, c, d] = m_cmp_Or_int_l1 [a, b, c, d] (1152921504606846971 + 1 + 1 + 1 + 1 + 1) ((0 : Nat) : Int) := rfl
  rw [e, step _ _ 0 (by simp) (by simp), step _ _ 1 (by simp) (by simp), step _ _ 2 (by simp) (by simp), step _ _ 3 (by simp) (by simp)]
  have last : ∀ fu, m_cmp_Or_int_l1 [a, b, c, d] (fu + 1) ((4 : Nat) : Int) = some 0 := fun fu => by
    unfold m_cmp_Or_int_l1; rw [d_nlt (by simp), cond_false]
  rw [last]
  simp only [List.getD_cons_zero, List.getD_cons_succ, lexI]
  by_cases ha : a = 0 <;> by_cases hb : b = 0 <;> by_cases hc : c = 0 <;> by_cases hd : d = 0 <;> simp [ha, hb, hc, hd]
theorem lexI_assoc (a b c : Int) : lexI (lexI a b) c = lexI a (lexI b c) := by unfold lexI; by_cases ha : a = 0 <;> simp [ha]
theorem order_ok (a b : GPair) : m_bind_order a b = some (ordP a b) := by
  unfold m_bind_order m_event_Event_ID
  simp only [obind_some, compI_ok, compS_ok, or_ok, ordP, ordE, lexI_assoc]
theorem less_ok (a b : GEvent) : m_telltaleref07_Less a b = some (decide (ordE a b < 0)) := by
  unfold m_telltaleref07_Less ordE lexI cmpI
  by_cases h1 : a.Time = b.Time
  · by_cases h2 : a.Source = b.Source
    · simp [h1, h2]; by_cases h3 : a.Seq < b.Seq
      · simp [h3]
      · by_cases h4 : b.Seq < a.Seq <;> simp [h3, h4]
    · by_cases h3 : a.Source < b.Source
      · simp [h1, h2, h3]
      · have : b.Source < a.Source := by omega
        simp [h1, h2, h3, this]
  · by_cases h3 : a.Time < b.Time
    · simp [h1, h3]
    · have : b.Time < a.Time := by omega
      simp [h1, h3, this]
theorem ahead_ok (a b : GPair) : m_telltaleref19_ahead a b = some (decide (ordP a b < 0)) := by
  unfold m_telltaleref19_ahead
  rw [less_ok, less_ok, obind_some, obind_some, obind_some]
  have h1 := ordE_neg a.E b.E
  have h2 := ordE_set a.E b.E
  unfold ordP lexI
  by_cases h : ordE a.E b.E < 0
  · simp [h]; omega
  · by_cases k : ordE b.E a.E < 0
    · have e : ordE a.E b.E ≠ 0 := by omega
      simp [h, k, e]
    · have e : ordE a.E b.E = 0 := by omega
      simp only [e, decide_eq_false h, decide_eq_false k, cond_false, ne_eq, not_true, if_false]
      unfold cmpS
      cases hx : ltS a.Var b.Var
      · by_cases q : a.Var = b.Var <;> simp [q]
      · simp
theorem rank_ok (l r : List GPair) (hl : l.length ≤ 400000000) : m_bind_Rank l r = some (rk l r) := by
  unfold m_bind_Rank m_slices_CompareFunc_Pairbind_Pair_bind_Pair_bind_Pair__bind_order
  rw [bind_of (x := rk l r)]
  have := loop1_0 (L := fun fu i => m_slices_CompareFunc_Pairbind_Pair_bind_Pair_bind_Pair__bind_order_l1 l r fu i) (n := l.length) (P := fun i o => i ≤ r.length → o = some (rk (l.drop i) (r.drop i))) (by omega)
    (fun fu hr => by
      unfold m_slices_CompareFunc_Pairbind_Pair_bind_Pair_bind_Pair__bind_order_l1
      rw [d_nlt (by omega), cond_false, List.drop_of_length_le (Nat.le_refl _)]
      by_cases h : l.length < r.length
      · rw [d_lt (by omega), drop_cons h]; rfl
      · rw [d_nlt (by omega), List.drop_of_length_le (by omega)]; rfl)
    (fun fu i hi ih hr => by
      unfold m_slices_CompareFunc_Pairbind_Pair_bind_Pair_bind_Pair__bind_order_l1
      rw [d_lt (by omega), cond_true, geti_lt hi, obind_some, drop_cons hi]
      by_cases h : i < r.length
      · rw [decide_eq_false (show ¬ ((r.length : Int) ≤ (i : Int)) by omega), cond_false, geti_lt h, obind_some, order_ok, obind_some, drop_cons h, rk, lexI, inc_ok (by omega), ih (by omega)]
        by_cases q : ordP l[i] r[i] = 0 <;> simp [q]
      · rw [decide_eq_true (show ((r.length : Int) ≤ (i : Int)) by omega), cond_true, List.drop_of_length_le (show r.length ≤ i by omega)]; rfl)
  simpa using this (Nat.zero_le _)
theorem rrank_ok (l r : List GPair) (hl : l.length ≤ 400000000) (hr : r.length ≤ 400000000) : m_telltaleref19_Rank l r = some (rk l r) := by
  unfold m_telltaleref19_Rank
  have j4 : ∀ i, (l.drop i = [] ∨ r.drop i = []) → i ≤ l.length → i ≤ r.length → m_telltaleref19_Rank_j4 l r = some (rk (l.drop i) (r.drop i)) := fun i h h1 h2 => by
    unfold m_telltaleref19_Rank_j4
    rw [w64 (by omega) (by omega)]
    have e1 : (l.drop i).length = l.length - i := List.length_drop
    have e2 : (r.drop i).length = r.length - i := List.length_drop
    cases hx : l.drop i with
    | nil =>
      cases hy : r.drop i with
      | nil =>
        rw [hx] at e1; rw [hy] at e2
        simp only [List.length_nil] at e1 e2
        rw [d_nlt (by omega), cond_false, rk, show min (1 : Int) ((l.length : Int) - (r.length : Int)) = 0 by omega]
      | cons b y =>
        rw [hx] at e1; rw [hy] at e2
        simp only [List.length_nil, List.length_cons] at e1 e2
        rw [d_lt (by omega), cond_true, rk]
    | cons a x =>
      cases hy : r.drop i with
      | nil =>
        rw [hx] at e1; rw [hy] at e2
        simp only [List.length_nil, List.length_cons] at e1 e2
        rw [d_nlt (by omega), cond_false, rk, show min (1 : Int) ((l.length : Int) - (r.length : Int)) = 1 by omega]
      | cons b y => rw [hx, hy] at h; rcases h with h | h <;> cases h
  have := loop1_0 (L := fun fu i => m_telltaleref19_Rank_l0 l r fu i) (n := l.length) (P := fun i o => i ≤ r.length → o = some (rk (l.drop i) (r.drop i))) (by omega)
    (fun fu hi => by
      unfold m_telltaleref19_Rank_l0
      rw [d_nlt (by omega), cond_false]
      exact j4 _ (.inl (List.drop_of_length_le (Nat.le_refl _))) (Nat.le_refl _) hi)
    (fun fu i hi ih hq => by
      unfold m_telltaleref19_Rank_l0
      rw [d_lt (by omega), cond_true]
      by_cases h : i < r.length
      · rw [d_lt (by omega), cond_true, geti_lt hi, obind_some, geti_lt h, obind_some, ahead_ok, obind_some, obind_some, obind_some, ahead_ok, obind_some, inc_ok (by omega), ih (by omega), drop_cons hi, drop_cons h, rk, lexI]
        have h1 := ordP_neg l[i] r[i]
        have h2 := ordP_set l[i] r[i]
        by_cases q : ordP l[i] r[i] < 0
        · have q2 : ordP l[i] r[i] ≠ 0 := by omega
          simp [q, q2]; omega
        · by_cases q3 : ordP r[i] l[i] < 0
          · have q2 : ordP l[i] r[i] ≠ 0 := by omega
            simp [q, q2, q3]; omega
          · have q2 : ordP l[i] r[i] = 0 := by omega
            simp [q, q2, q3]
      · rw [d_nlt (by omega), cond_false]
        exact j4 _ (.inr (List.drop_of_length_le (by omega))) (by omega) hq)
  simpa using this (Nat.zero_le _)
end Go.Proofs.Ytkagljfmfjaleaa.K
namespace Go.Proofs.Ytkagljfmfjaleaa.K
open Go.RowKit Go.Lib
set_option linter.unusedVariables false
theorem eq_loop {α : Type} [DecidableEq α] {L : Nat → Int → Option Bool} {a b : List α} (hl : a.length = b.length) (hb : a.length ≤ 1000000000) (hend : ∀ fu, L (fu + 1) (a.length : Int) = some true)
    (hstep : ∀ (fu i : Nat) (h1 : i < a.length) (h2 : i < b.length), L (fu + 1) (i : Int) = if a[i] = b[i] then L fu ((i + 1 : Nat) : Int) else some false) : L 1152921504606846976 0 = some (decide (a = b)) := by
  have := loop1_0 (L := L) (n := a.length) (P := fun i o => o = some (decide (a.drop i = b.drop i))) (by omega)
    (fun fu => by
      rw [hend, List.drop_eq_nil_of_le (Nat.le_refl _), List.drop_eq_nil_of_le (by omega)]; rfl)
    (fun fu i hi ih => by
      rw [hstep fu i hi (by omega), drop_cons hi, drop_cons (l := b) (by omega)]
      by_cases h : a[i] = b[i]'(by omega)
      · rw [if_pos h, ih]
        congr 1
        exact decide_eq_decide.2 ⟨fun e => by rw [h, e], fun e => (List.cons.inj e).2⟩
      · rw [if_neg h]
        congr 1
        exact (decide_eq_false fun e => h (List.cons.inj e).1).symm)
  simpa using this
end Go.Proofs.Ytkagljfmfjaleaa.K
namespace Go.Proofs.Ytkagljfmfjaleaa.K
open Go.RowKit Go.Lib
set_option linter.unusedVariables false
set_option linter.unusedSimpArgs false
theorem same4 (v w : GValue) : (decide (((v.Kind.toNat : Nat) : Int) = ((w.Kind.toNat : Nat) : Int)) && (decide (v.N = w.N) && (decide (v.Bits = w.Bits) && (decide (v.Text = w.Text) && true)))) = decide (v = w) := by
  rw [Bool.eq_iff_iff]
  obtain ⟨k, n, b, t⟩ := v
  obtain ⟨k', n', b', t'⟩ := w
  simp only [Bool.and_eq_true, decide_eq_true_eq, and_true, GValue.mk.injEq]
  constructor
  · rintro ⟨h1, h2, h3, h4⟩
    exact ⟨UInt8.toNat_inj.1 (by omega), h2, h3, h4⟩
  · rintro ⟨h1, h2, h3, h4⟩
    exact ⟨by rw [h1], h2, h3, h4⟩
theorem evEq {a b : GEvent} (h1 : a.Time = b.Time) (h2 : a.Source = b.Source) (h3 : a.Seq = b.Seq) (h4 : a.Type_ = b.Type_) (h5 : a.Vals = b.Vals) : a = b := by
  cases a; cases b; simp_all
theorem rsame_ok {a b : GEvent} (ha : a.Vals.length ≤ 1000000) (hb : b.Vals.length ≤ 1000000) : m_telltaleref07_Same a b = some (decide (a = b)) := by
  unfold m_telltaleref07_Same m_telltaleref07_Same_j1
  by_cases h1 : a.Time = b.Time
  · rw [decide_eq_false (by simp [h1]), cond_false]
    by_cases h2 : a.Source = b.Source
    · rw [decide_eq_false (by simp [h2]), cond_false]
      by_cases h3 : a.Seq = b.Seq
      · rw [decide_eq_false (by simp [h3]), cond_false]
        by_cases h4 : a.Type_ = b.Type_
        · rw [decide_eq_false (by simp [h4]), cond_false]
          by_cases h5 : a.Vals.length = b.Vals.length
          · rw [decide_eq_false (by simp [h5]), cond_false]
            have := eq_loop (L := fun fu i => m_telltaleref07_Same_l2 a b fu i) (a := a.Vals) (b := b.Vals) h5 (by omega)
              (fun fu => by unfold m_telltaleref07_Same_l2; rw [d_nlt (by omega)]; rfl)
              (fun fu i i1 i2 => by
                conv => lhs; unfold m_telltaleref07_Same_l2
                rw [d_lt (by omega), cond_true, geti_lt i1, obind_some, geti_lt i2, obind_some, same4, obind_some, inc_ok (by omega)]
                by_cases h : a.Vals[i] = b.Vals[i]
                · rw [decide_eq_true h, if_pos h]; rfl
                · rw [decide_eq_false h, if_neg h]; rfl)
            refine this.trans ?_
            congr 1
            exact decide_eq_decide.2 ⟨fun h => evEq h1 h2 h3 h4 h, fun h => by rw [h]⟩
          · rw [decide_eq_true (by omega), decide_eq_false (fun h : a = b => h5 (by rw [h]))]; rfl
        · rw [decide_eq_true h4, decide_eq_false (fun h : a = b => h4 (by rw [h]))]; rfl
      · rw [decide_eq_true h3, decide_eq_false (fun h : a = b => h3 (by rw [h]))]; rfl
    · rw [decide_eq_true h2, decide_eq_false (fun h : a = b => h2 (by rw [h]))]; rfl
  · rw [decide_eq_true h1, decide_eq_false (fun h : a = b => h1 (by rw [h]))]; rfl
end Go.Proofs.Ytkagljfmfjaleaa.K
namespace Go.Proofs.Ytkagljfmfjaleaa.K
open Go.RowKit Go.Lib
set_option linter.unusedVariables false
set_option linter.unusedSimpArgs false
def prB (p : GPair) : Prop := p.Var.length ≤ 40 ∧ evB p.E
def bdB (l : List GPair) : Prop := l.length ≤ 20 ∧ ∀ p ∈ l, prB p
theorem wf_evM {e : GEvent} (h : wf_GEvent e) : evM e := ⟨h.Type_, h.Vals.1, fun v hv => (h.Vals.2 v hv).Text⟩
theorem long_ok {l : List GPair} (hw : ∀ p ∈ l, wf_GPair p) : ∃ r, m_telltalelaw19_Long l = some r ∧ (r = 1 ∨ r = 0 ∧ bdB l) := by
  unfold m_telltalelaw19_Long
  by_cases h : 20 < l.length
  · rw [d_lt (by omega)]; exact ⟨1, rfl, .inl rfl⟩
  · rw [d_nlt (by omega), cond_false]
    have := loop1_0 (L := fun fu i => m_telltalelaw19_Long_l1 l fu i) (n := l.length) (P := fun i o => ∃ r, o = some r ∧ (r = 1 ∨ r = 0 ∧ ∀ p ∈ l.drop i, prB p)) (by omega)
      (fun fu => by unfold m_telltalelaw19_Long_l1; rw [d_nlt (by omega)]; exact ⟨0, rfl, .inr ⟨rfl, by simp⟩⟩)
      (fun fu i hi ih => by
        unfold m_telltalelaw19_Long_l1
        have hwi := hw l[i] (List.getElem_mem hi)
        have hv := maxLen_le hwi.Var
        rw [d_lt (by omega), cond_true, geti_lt hi, obind_some]
        by_cases ht : 40 < l[i].Var.length
        · rw [d_lt (by omega)]; exact ⟨1, rfl, .inl rfl⟩
        · rw [d_nlt (by omega), cond_false, obind_some]
          obtain ⟨q, e, hq⟩ := over_ok (l := [l[i].E]) (k := 1) (by decide) (by simpa using wf_evM hwi.E)
          rw [e, obind_some]
          rcases hq with rfl | ⟨rfl, _, hq⟩
          · exact ⟨1, rfl, .inl rfl⟩
          · rw [d_nlt (by decide), cond_false, inc_ok (by omega)]
            obtain ⟨r, e, k⟩ := ih
            refine ⟨r, e, k.imp id fun ⟨k1, k2⟩ => ⟨k1, ?_⟩⟩
            rw [drop_cons hi]
            intro p hp
            rcases List.mem_cons.1 hp with rfl | hp
            · exact ⟨by omega, hq _ (by simp)⟩
            · exact k2 p hp)
    obtain ⟨r, e, q⟩ := this
    exact ⟨r, e, q.imp id fun ⟨q1, q2⟩ => ⟨q1, by omega, by simpa using q2⟩⟩
theorem pairs_ok {l : List GPair} (hb : bdB l) : m_telltalelaw19_Pairs l = some l := by
  have := map_loop (L := fun fu s i => m_telltalelaw19_Pairs_l0 l fu s i) (l := l) (f := id) (e := id) (by have := hb.1; omega) (fun fu s => by unfold m_telltalelaw19_Pairs_l0; rw [d_nlt (by omega)]; rfl)
    (fun fu s i h hs => by
      have hi := (hb.2 _ (List.getElem_mem h)).2.2.1
      conv => lhs; unfold m_telltalelaw19_Pairs_l0
      rw [d_lt (by omega), cond_true, geti_lt h, obind_some, obind_some, own_ok (by omega), obind_some, app_ok (by simp; omega), obind_some, inc_ok (by have := hb.1; omega)]; rfl)
  rw [List.map_id] at this; exact this
theorem bpairs_ok {l : List GPair} (hb : bdB l) : m_telltalelaw19_BackPairs l = some l := by
  have := map_loop (L := fun fu s i => m_telltalelaw19_BackPairs_l0 l fu s i) (l := l) (f := id) (e := id) (by have := hb.1; omega) (fun fu s => by unfold m_telltalelaw19_BackPairs_l0; rw [d_nlt (by omega)]; rfl)
    (fun fu s i h hs => by
      have hi := (hb.2 _ (List.getElem_mem h)).2.2.1
      conv => lhs; unfold m_telltalelaw19_BackPairs_l0
      rw [d_lt (by omega), cond_true, geti_lt h, obind_some, obind_some, back_ok (by omega), obind_some, app_ok (by simp; omega), obind_some, inc_ok (by have := hb.1; omega)]; rfl)
  rw [List.map_id] at this; exact this
theorem span_ok {l : List GPair} (hl : l.length ≤ 400000000) : ∃ a b, m_bind_Span l = some (a, b, !l.isEmpty) ∧ ∀ p r, l = p :: r → a = p.E.Time ∧ b = ((p :: r).getLast (by simp)).E.Time := by
  unfold m_bind_Span
  cases l with
  | nil => exact ⟨0, 0, rfl, fun p r h => by cases h⟩
  | cons p r =>
    rw [decide_eq_false (by simp; omega), cond_false, geti_0, obind_some, w64 (by omega) (by omega)]
    have e : geti (p :: r) (((p :: r).length : Int) - 1) = some ((p :: r).getLast (by simp)) := by
      refine geti_of (k := r.length) (by simp) ?_
      rw [List.getLast_eq_getElem]; simp
    rw [e]
    exact ⟨_, _, rfl, fun q s h => by cases h; exact ⟨rfl, rfl⟩⟩
theorem esame_ok {a b : GEvent} (ha : a.Vals.length ≤ 1000000) (hb : b.Vals.length ≤ 1000000) : m_event_Same a b = some (decide (a = b)) := by
  unfold m_event_Same m_event_Event_ID
  rw [obind_some, obind_some, obind_some]
  simp only
  by_cases h1 : a.Time = b.Time ∧ a.Source = b.Source ∧ a.Seq = b.Seq
  · rw [decide_eq_true h1.1, decide_eq_true h1.2.1, decide_eq_true h1.2.2]
    by_cases h4 : a.Type_ = b.Type_
    · rw [decide_eq_true h4]
      show Option.bind (m_slices_Equal_Value a.Vals b.Vals) (fun r => some r) = _
      unfold m_slices_Equal_Value
      by_cases h5 : a.Vals.length = b.Vals.length
      · rw [decide_eq_false (by simp [h5]), cond_false]
        have := eq_loop (L := fun fu i => m_slices_Equal_Value_l2 a.Vals b.Vals fu i) (a := a.Vals) (b := b.Vals) h5 (by omega)
          (fun fu => by unfold m_slices_Equal_Value_l2; rw [d_nlt (by omega)]; rfl)
          (fun fu i i1 i2 => by
            conv => lhs; unfold m_slices_Equal_Value_l2
            rw [d_lt (by omega), cond_true, geti_lt i1, obind_some, geti_lt i2, obind_some, same4, obind_some, inc_ok (by omega)]
            by_cases h : a.Vals[i] = b.Vals[i]
            · rw [decide_eq_true h, if_pos h]; rfl
            · rw [decide_eq_false h, if_neg h]; rfl)
        rw [show m_slices_Equal_Value_l2 a.Vals b.Vals 1152921504606846976 0 = some (decide (a.Vals = b.Vals)) from this, obind_some]
        congr 1
        exact decide_eq_decide.2 ⟨fun h => evEq h1.1 h1.2.1 h1.2.2 h4 h, fun h => by rw [h]⟩
      · rw [decide_eq_true (by omega), decide_eq_false (fun h : a = b => h5 (by rw [h]))]; rfl
    · rw [decide_eq_false h4, decide_eq_false (fun h : a = b => h4 (by rw [h]))]; rfl
  · rw [show (decide (a.Time = b.Time) && (decide (a.Source = b.Source) && (decide (a.Seq = b.Seq) && true))) = false by
      rw [Bool.eq_false_iff]; intro q; apply h1; simpa using q, decide_eq_false (fun h : a = b => h1 (by rw [h]; exact ⟨rfl, rfl, rfl⟩))]; rfl
end Go.Proofs.Ytkagljfmfjaleaa.K
namespace Go.Proofs.Ytkagljfmfjaleaa.K
open Go.RowKit Go.Lib
set_option linter.unusedVariables false
set_option linter.unusedSimpArgs false
structure Cmp {α : Type} (c : α → α → Int) : Prop where
  neg : ∀ x y, c y x = -c x y
  tr : ∀ x y z, c x y ≤ 0 → c y z ≤ 0 → c x z ≤ 0
section
variable {α β : Type} {c c1 c2 : α → α → Int}
theorem Cmp.self (h : Cmp c) (x : α) : c x x = 0 := by have := h.neg x x; omega
theorem Cmp.lt1 (h : Cmp c) {x y z : α} (h1 : c x y ≤ 0) (h2 : c y z < 0) : c x z < 0 := by
  rcases Int.lt_or_le (c x z) 0 with k | k
  · exact k
  · have e1 := h.neg x z
    have e2 := h.neg y z
    have := h.tr z x y (by omega) h1
    omega
theorem Cmp.lt2 (h : Cmp c) {x y z : α} (h1 : c x y < 0) (h2 : c y z ≤ 0) : c x z < 0 := by
  rcases Int.lt_or_le (c x z) 0 with k | k
  · exact k
  · have e1 := h.neg x z
    have e2 := h.neg x y
    have := h.tr y z x h2 (by omega)
    omega
theorem Cmp.eq1 (h : Cmp c) {x y z : α} (h1 : c x y = 0) (h2 : c y z = 0) : c x z = 0 := by
  have a := h.tr x y z (by omega) (by omega)
  have e1 := h.neg x y
  have e2 := h.neg y z
  have e3 := h.neg x z
  have b := h.tr z y x (by omega) (by omega)
  omega
theorem Cmp.comap (h : Cmp c) (f : β → α) : Cmp (fun x y => c (f x) (f y)) := ⟨fun x y => h.neg _ _, fun x y z => h.tr _ _ _⟩
theorem Cmp.lex (h1 : Cmp c1) (h2 : Cmp c2) : Cmp (fun x y => lexI (c1 x y) (c2 x y)) := by
  refine ⟨fun x y => ?_, fun x y z a b => ?_⟩
  · show lexI (c1 y x) (c2 y x) = -lexI (c1 x y) (c2 x y)
    rw [h1.neg x y, h2.neg x y, lexI_neg]
  · simp only [lexI] at a b ⊢
    have e1 := h1.neg x y
    have e2 := h1.neg y z
    by_cases p : c1 x y = 0
    · by_cases q : c1 y z = 0
      · rw [if_neg (by simpa using p)] at a
        rw [if_neg (by simpa using q)] at b
        rw [if_neg (by simpa using h1.eq1 p q)]
        exact h2.tr x y z a b
      · rw [if_pos q] at b
        have := h1.lt1 (x := x) (y := y) (z := z) (by omega) (by omega)
        rw [if_pos (by omega)]; omega
    · rw [if_pos p] at a
      have hb : c1 y z ≤ 0 := by
        by_cases q : c1 y z = 0
        · omega
        · rw [if_pos q] at b; exact b
      have := h1.lt2 (x := x) (y := y) (z := z) (by omega) hb
      rw [if_pos (by omega)]; omega
end
theorem cmpI_c : Cmp cmpI := ⟨fun x y => cmpI_neg x y, fun x y z => by unfold cmpI; split <;> split <;> (try split) <;> (try split) <;> (try split) <;> omega⟩
theorem cmpS_le {a b : List UInt8} : cmpS a b ≤ 0 ↔ ¬ ltS b a = true := by
  rcases cmpS_set a b with h | h | h
  · have : ltS a b = true := by unfold cmpS at h; split at h <;> (try split at h) <;> first | assumption | omega
    simp [h, ltS_asym this]
  · have := cmpS_zero.1 h; subst this; simp [h, ltS_irr a]
  · have hn := cmpS_neg a b
    have : ltS b a = true := by
      have hb : cmpS b a = -1 := by omega
      unfold cmpS at hb; split at hb <;> (try split at hb) <;> first | assumption | omega
    simp [h, this]
theorem cmpS_c : Cmp cmpS := ⟨fun x y => cmpS_neg x y, fun x y z a b => by
  rw [cmpS_le] at a b ⊢
  intro k
  rcases ltS_tot (x := x) (y := y) with h | h | h
  · rcases ltS_tot (x := y) (y := z) with h' | h' | h'
    · exact ltS_asym (ltS_trans h h') k
    · subst h'; exact ltS_asym h k
    · exact b h'
  · subst h; exact b k
  · exact a h⟩
theorem ordE_c : Cmp ordE := (cmpI_c.comap GEvent.Time).lex ((cmpI_c.comap GEvent.Source).lex (cmpI_c.comap GEvent.Seq))
theorem ordP_c : Cmp ordP := (ordE_c.comap GPair.E).lex (cmpS_c.comap GPair.Var)
theorem rk_tr : ∀ (x y z : List GPair), rk x y ≤ 0 → rk y z ≤ 0 → rk x z ≤ 0
  | [], _, [], _, _ => by simp [rk]
  | [], _, _ :: _, _, _ => by simp [rk]
  | _ :: _, [], _, h, _ => by simp [rk] at h
  | _ :: _, _ :: _, [], _, h => by simp [rk] at h
  | a :: x, b :: y, d :: z, h1, h2 => by
    simp only [rk, lexI] at h1 h2 ⊢
    by_cases p : ordP a b = 0
    · by_cases q : ordP b d = 0
      · rw [if_neg (by simpa using p)] at h1
        rw [if_neg (by simpa using q)] at h2
        rw [if_neg (by simpa using ordP_c.eq1 p q)]
        exact rk_tr x y z h1 h2
      · rw [if_pos q] at h2
        have := ordP_c.lt1 (x := a) (y := b) (z := d) (by omega) (by have := ordP_set b d; omega)
        rw [if_pos (by omega)]; omega
    · rw [if_pos p] at h1
      have hb : ordP b d ≤ 0 := by
        by_cases q : ordP b d = 0
        · omega
        · rw [if_pos q] at h2; exact h2
      have := ordP_c.lt2 (x := a) (y := b) (z := d) (by omega) hb
      rw [if_pos (by omega)]; omega
theorem rk_c : Cmp rk := ⟨fun x y => rk_neg x y, rk_tr⟩
end Go.Proofs.Ytkagljfmfjaleaa.K
