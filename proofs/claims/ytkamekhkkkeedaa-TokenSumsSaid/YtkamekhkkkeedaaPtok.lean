/- Books of leaves: plain. -/
import Derived.Test.YtkamekhkkkeedaaPfro
import Derived.Test.YtkamekhkkkeedaaPeq
namespace Go.Proofs.Ytkamekhkkkeedaa.K
open Go.RowKit Go.Lib
set_option linter.unusedVariables false
set_option linter.unusedSimpArgs false
def up (x : GLeave) : GLeave_ := ⟨⟨x.Loc, x.Time⟩, x.Held⟩
def dn (x : GLeave_) : GLeave := ⟨x.Point.Loc, x.Point.Time, x.Held⟩
def ownB (l : List GLeave) : GBook := ⟨l.map up⟩
theorem up_inj {x y : GLeave} : up x = up y ↔ x = y := by cases x; cases y; simp [up, and_assoc]
theorem ownB_len (l : List GLeave) : (ownB l).L.length = l.length := by simp [ownB]
theorem ownB_get {l : List GLeave} {i : Nat} (h : i < l.length) : geti (ownB l).L (i : Int) = some (up l[i]) := by
  rw [geti_nat]; simp [ownB, List.getElem?_eq_getElem h]
def held (x : GLeave) : GChange := ⟨x.Loc, x.Time, 1⟩
/-- What is held. -/
def heldc : List GLeave → List GChange
  | [] => []
  | x :: l => if x.Held then held x :: heldc l else heldc l
theorem heldc_cons (x : GLeave) (l : List GLeave) : heldc (x :: l) = if x.Held then held x :: heldc l else heldc l := rfl
theorem heldc_app : ∀ a b : List GLeave, heldc (a ++ b) = heldc a ++ heldc b
  | [], b => rfl
  | x :: a, b => by
    simp only [List.cons_append, heldc, heldc_app a b]
    split <;> rfl
theorem heldc_len : ∀ l : List GLeave, (heldc l).length ≤ l.length
  | [] => Nat.le_refl _
  | x :: l => by have := heldc_len l; unfold heldc; split <;> simp <;> omega
theorem heldc_abs : ∀ l : List GLeave, absum (heldc l) ≤ l.length
  | [] => Nat.le_refl _
  | x :: l => by have := heldc_abs l; unfold heldc; split <;> simp [absum, held] <;> omega
theorem heldc_small {l : List GLeave} (h : l.length ≤ 500000) : small (heldc l) := ⟨by have := heldc_len l; omega, by have := heldc_abs l; omega⟩
theorem heldc_nn : ∀ {l : List GLeave} (a b : Int), 0 ≤ atp (heldc l) a b
  | [], _, _ => Int.le_refl _
  | x :: l, a, b => by
    have := heldc_nn (l := l) a b
    unfold heldc
    split
    · unfold atp
      by_cases h : (held x).Loc = a ∧ (held x).Time = b
      · rw [if_pos h]
        have : (held x).N = 1 := rfl
        omega
      · rw [if_neg h]; omega
    · exact this
/-- One leave is another one now. -/
theorem heldc_set {l : List GLeave} {i : Nat} (h : i < l.length) (y : GLeave) (a b : Int) : atp (heldc (l.set i y)) a b = atp (heldc l) a b - atp (heldc [l[i]]) a b + atp (heldc [y]) a b := by
  have e : l = l.take i ++ ([l[i]] ++ l.drop (i + 1)) := by
    have : l.take i ++ l[i] :: l.drop (i + 1) = l := by rw [← List.drop_eq_getElem_cons h, List.take_append_drop]
    exact this.symm
  have e2 : l.set i y = l.take i ++ ([y] ++ l.drop (i + 1)) := by rw [List.set_eq_take_append_cons_drop, if_pos h]; rfl
  have k := congrArg (fun l => atp (heldc l) a b) e
  simp only [heldc_app, atp_app] at k
  rw [e2, heldc_app, heldc_app, atp_app, atp_app, k]; omega
theorem change_ok (p : GPoint) (n : Int) : m_token_Point_change p n = some ⟨p.Loc, p.Time, n⟩ := rfl
theorem clone_ok {l : List GLeave_} (h : l.length ≤ 1000000) : m_slices_Clone_Leave l = some l := by
  unfold m_slices_Clone_Leave
  rw [app_ok (by simp; omega), obind_some, List.nil_append]
/-- A leave that may be. -/
def mayP (A B : Int) : Bool := leads A 3 && (decide (0 ≤ B) && decide (B ≤ 1099511627776))
theorem may_ok (A B : Int) : m_token_Point_may ⟨A, B⟩ = some (mayP A B) := by
  unfold m_token_Point_may mayP
  rw [leads_ok, obind_some]
  cases leads A 3
  · rfl
  · rw [cond_true]
    by_cases h : 0 ≤ B
    · rw [decide_eq_true h, cond_true]; rfl
    · rw [decide_eq_false h, cond_false]; rfl
/-- What a turn makes: the book, the changes, the error. -/
def holdL (l : List GLeave) (A B : Int) : List GLeave × Int × List GChange × Int :=
  if mayP A B = true then (if 100 ≤ l.length then (l, -1, [], 7) else (l ++ [⟨A, B, true⟩], l.length, [⟨A, B, 1⟩], 0)) else (l, -1, [], 8)
theorem hold_ok {l : List GLeave} (hl : l.length ≤ 1000) (A B : Int) : m_token_Book_Hold (ownB l) ⟨A, B⟩ = some (ownB (holdL l A B).1, (holdL l A B).2) := by
  unfold m_token_Book_Hold holdL
  rw [may_ok, obind_some]
  by_cases h : mayP A B = true
  · rw [h, Bool.not_true, cond_false, if_pos rfl, ownB_len]
    by_cases h2 : 100 ≤ l.length
    · rw [decide_eq_true (by omega), cond_true, if_pos h2]
    · rw [decide_eq_false (by omega), cond_false, if_neg h2, clone_ok (by rw [ownB_len]; omega), obind_some, app_ok (by rw [ownB_len]; simp; omega), obind_some, change_ok, obind_some]
      simp [ownB, up]
  · have h' : mayP A B = false := by simpa using h
    rw [h', Bool.not_false, cond_true, if_neg (by simp)]
/-- Why a leave can't be turned. -/
def whyL (l : List GLeave) (A : Int) : Int := if A < 0 ∨ (l.length : Int) ≤ A then 6 else match l[A.toNat]? with | some x => if x.Held then 0 else 20 | none => 6
theorem get_in {l : List GLeave} {A : Int} (h : 0 ≤ A ∧ A < l.length) : ∃ i : Nat, A = (i : Int) ∧ ∃ hi : i < l.length, l[A.toNat]? = some l[i] := by
  refine ⟨A.toNat, by omega, by omega, ?_⟩
  rw [List.getElem?_eq_getElem]
theorem getb_in {l : List GLeave} {i : Nat} (h : i < l.length) : m_token_Book_Get (ownB l) (i : Int) = some (up l[i], true) := by
  unfold m_token_Book_Get
  rw [d_nlt (by omega), cond_false, ownB_len, decide_eq_false (by omega), cond_false, ownB_get h, obind_some]
theorem getb_out {l : List GLeave} {A : Int} (h : A < 0 ∨ (l.length : Int) ≤ A) : m_token_Book_Get (ownB l) A = some (⟨⟨0, 0⟩, false⟩, false) := by
  unfold m_token_Book_Get
  by_cases h0 : A < 0
  · rw [d_lt h0, cond_true]
  · rw [d_nlt h0, cond_false, ownB_len, decide_eq_true (by omega), cond_true]
theorem held_in {l : List GLeave} {i : Nat} (h : i < l.length) : m_token_Book_held (ownB l) (i : Int) = some (if l[i].Held then (up l[i], 0) else (⟨⟨0, 0⟩, false⟩, 20)) := by
  unfold m_token_Book_held
  rw [getb_in h, obind_some, Bool.not_true, cond_false]
  show cond (!l[i].Held) _ _ = _
  cases hh : l[i].Held <;> simp
theorem held_out {l : List GLeave} {A : Int} (h : A < 0 ∨ (l.length : Int) ≤ A) : m_token_Book_held (ownB l) A = some (⟨⟨0, 0⟩, false⟩, 6) := by
  unfold m_token_Book_held
  rw [getb_out h, obind_some, Bool.not_false, cond_true]
theorem with_ok {l : List GLeave} (hl : l.length ≤ 1000000) {i : Nat} (h : i < l.length) (y : GLeave) : m_token_Book_with (ownB l) (i : Int) (up y) = some (ownB (l.set i y)) := by
  unfold m_token_Book_with
  rw [clone_ok (by rw [ownB_len]; omega), obind_some, ownB_get h, obind_some, Int.toNat_natCast]
  simp [ownB, List.map_set]
def lowerL (l : List GLeave) (A B : Int) : List GLeave × List GChange × Int :=
  if A < 0 ∨ (l.length : Int) ≤ A then (l, [], 6) else match l[A.toNat]? with
    | none => (l, [], 6)
    | some x => if x.Held = false then (l, [], 20) else if 1099511627776 < B ∨ B < x.Time then (l, [], 8) else (l.set A.toNat ⟨x.Loc, B, true⟩, nrm [⟨x.Loc, x.Time, -1⟩, ⟨x.Loc, B, 1⟩], 0)
def dropL (l : List GLeave) (A : Int) : List GLeave × List GChange × Int :=
  if A < 0 ∨ (l.length : Int) ≤ A then (l, [], 6) else match l[A.toNat]? with
    | none => (l, [], 6)
    | some x => if x.Held = false then (l, [], 20) else (l.set A.toNat ⟨x.Loc, x.Time, false⟩, [⟨x.Loc, x.Time, -1⟩], 0)
theorem two_small {a b t : Int} : small [(⟨a, b, -1⟩ : GChange), ⟨a, t, 1⟩] := ⟨by simp, by simp [absum]⟩
theorem lower_ok {l : List GLeave} (hl : l.length ≤ 1000) (A B : Int) : m_token_Book_Lower (ownB l) A B = some (ownB (lowerL l A B).1, (lowerL l A B).2) := by
  unfold m_token_Book_Lower lowerL
  by_cases h : A < 0 ∨ (l.length : Int) ≤ A
  · rw [held_out h, obind_some, decide_eq_true (by omega), cond_true, if_pos h]
  · obtain ⟨i, rfl, hi, hg⟩ := get_in (l := l) (A := A) (by omega)
    rw [if_neg h, hg, held_in hi, obind_some]
    cases hh : l[i].Held
    · simp [hh]
    · simp only [hh, if_true]
      rw [decide_eq_false (by omega), cond_false]
      by_cases h1 : 1099511627776 < B
      · rw [d_lt h1, cond_true]; simp [hh, h1]
      · rw [d_nlt h1, cond_false]
        by_cases h2 : B < l[i].Time
        · have : B < (up l[i]).Point.Time := h2
          rw [d_lt this, cond_true]; simp [hh, h2]
        · have : ¬ B < (up l[i]).Point.Time := h2
          have e : (⟨⟨(up l[i]).Point.Loc, B⟩, (up l[i]).Held⟩ : GLeave_) = up ⟨l[i].Loc, B, true⟩ := by simp [up, hh]
          rw [d_nlt this, cond_false, change_ok, obind_some, e, with_ok (by omega) hi, obind_some, change_ok, obind_some]
          have n := normal_ok (two_small (a := l[i].Loc) (b := l[i].Time) (t := B))
          show Option.bind (m_tally_Normal [⟨l[i].Loc, l[i].Time, -1⟩, ⟨l[i].Loc, B, 1⟩]) _ = _
          rw [n, obind_some]
          simp [hh, h1, h2]
theorem drop_ok {l : List GLeave} (hl : l.length ≤ 1000) (A : Int) : m_token_Book_Drop (ownB l) A = some (ownB (dropL l A).1, (dropL l A).2) := by
  unfold m_token_Book_Drop dropL
  by_cases h : A < 0 ∨ (l.length : Int) ≤ A
  · rw [held_out h, obind_some, decide_eq_true (by omega), cond_true, if_pos h]
  · obtain ⟨i, rfl, hi, hg⟩ := get_in (l := l) (A := A) (by omega)
    rw [if_neg h, hg, held_in hi, obind_some]
    cases hh : l[i].Held
    · simp [hh]
    · simp only [hh, if_true]
      have e : (⟨(up l[i]).Point, false⟩ : GLeave_) = up ⟨l[i].Loc, l[i].Time, false⟩ := by simp [up]
      rw [decide_eq_false (by omega), cond_false, e, with_ok (by omega) hi, obind_some, change_ok, obind_some]
      simp [hh, up]
/-! ### what is told of a book -/
def mayL (l : List GLeave) (A B : Int) : Bool := l.any fun x => x.Held && (decide (x.Loc = A) && decide (x.Time ≤ B))
theorem mayb_ok {l : List GLeave} (hl : l.length ≤ 1000000) (A B : Int) : m_token_Book_May (ownB l) A B = some (mayL l A B) := by
  unfold m_token_Book_May m_slices_ContainsFunc_Leave__token_Book_May_1 m_slices_IndexFunc_Leave__token_Book_May_1
  have key := loop1_0 (L := fun fu i => m_slices_IndexFunc_Leave__token_Book_May_1_l1 (ownB l).L A B fu i) (n := l.length) (P := fun i o => ∃ k, o = some k ∧ decide (0 ≤ k) = (mayL (l.drop i) A B)) (by omega)
    (fun fu => by
      unfold m_slices_IndexFunc_Leave__token_Book_May_1_l1
      rw [ownB_len, d_nlt (by omega), cond_false]; exact ⟨-1, rfl, by simp [mayL]⟩)
    (fun fu i hi ih => by
      unfold m_slices_IndexFunc_Leave__token_Book_May_1_l1 m_token_Book_May_1
      rw [ownB_len, d_lt (by omega), cond_true, ownB_get hi, obind_some, drop_cons hi]
      have e : (cond (up l[i]).Held (cond (decide ((up l[i]).Point.Loc = A)) (some (decide ((up l[i]).Point.Time ≤ B))) (some false)) (some false)) = some (l[i].Held && (decide (l[i].Loc = A) && decide (l[i].Time ≤ B))) := by
        show cond l[i].Held (cond (decide (l[i].Loc = A)) (some (decide (l[i].Time ≤ B))) (some false)) (some false) = _
        cases l[i].Held
        · rfl
        · by_cases h : l[i].Loc = A
          · rw [decide_eq_true h]; rfl
          · rw [decide_eq_false h]; rfl
      rw [e, obind_some]
      unfold mayL
      rw [List.any_cons]
      cases hq : (l[i].Held && (decide (l[i].Loc = A) && decide (l[i].Time ≤ B)))
      · rw [cond_false, inc_ok (by omega), Bool.false_or]; exact ih
      · rw [cond_true]; exact ⟨_, rfl, by simp⟩)
  obtain ⟨k, e, q⟩ := key
  rw [e, obind_some, obind_some, q]; rfl
theorem tallyb_ok {l : List GLeave} (hl : l.length ≤ 500000) : m_token_Book_Tally (ownB l) = some (nrm (heldc l)) := by
  unfold m_token_Book_Tally
  have key := loopG_0 (L := fun fu s i => m_token_Book_Tally_l1 (ownB l) fu s i) (n := l.length) (P := fun i s o => s.length ≤ i → s ++ heldc (l.drop i) = heldc l → o = some (nrm (heldc l))) (by omega)
    (fun fu s hs e => by
      unfold m_token_Book_Tally_l1
      simp [heldc] at e
      rw [ownB_len, d_nlt (by omega), cond_false, e, normal_ok (heldc_small hl), obind_some])
    (fun fu s i hi ih hs e => by
      unfold m_token_Book_Tally_l1
      rw [ownB_len, d_lt (by omega), cond_true, ownB_get hi, obind_some]
      rw [drop_cons hi, heldc_cons] at e
      show cond l[i].Held _ _ = _
      cases hh : l[i].Held
      · rw [hh] at e
        rw [cond_false, inc_ok (by omega)]
        exact ih s (by omega) (by simpa using e)
      · rw [hh] at e
        rw [cond_true, change_ok, obind_some, app_ok (by simp; omega), obind_some, inc_ok (by omega)]
        exact ih _ (by simp; omega) (by simpa [held, up] using e)) []
  exact key (Nat.le_refl _) rfl
theorem lv_eq (x y : GLeave_) : ((decide (x.Point.Loc = y.Point.Loc) && (decide (x.Point.Time = y.Point.Time) && true)) && (decide (x.Held = y.Held) && true)) = decide (x = y) := by
  rw [Bool.eq_iff_iff]
  simp only [Bool.and_eq_true, decide_eq_true_eq, and_true]
  constructor
  · rintro ⟨⟨h1, h2⟩, h3⟩; cases x with | mk p h => cases y with | mk q k => cases p; cases q; simp_all
  · rintro rfl; exact ⟨⟨rfl, rfl⟩, rfl⟩
theorem bsame_ok {a b : List GLeave} (ha : a.length ≤ 1000000) (hb : b.length ≤ 1000000) : m_token_Same (ownB a) (ownB b) = some (decide (a = b)) := by
  unfold m_token_Same m_slices_Equal_Leave
  have inj : ((ownB a).L = (ownB b).L) ↔ a = b := by
    unfold ownB
    exact ⟨fun h => (List.map_inj_right (fun x y => up_inj.1)).1 h, fun h => by rw [h]⟩
  by_cases hl : a.length = b.length
  · rw [decide_eq_false (by rw [ownB_len, ownB_len]; omega), cond_false, eq_loop (L := fun fu i => m_slices_Equal_Leave_l2 (ownB a).L (ownB b).L fu i) (a := (ownB a).L) (b := (ownB b).L) (by rw [ownB_len, ownB_len]; exact hl) (by rw [ownB_len]; omega) (fun fu => by unfold m_slices_Equal_Leave_l2; rw [d_nlt (by omega), cond_false]) (fun fu i h1 h2 => by
      have hb := h1
      rw [ownB_len] at hb
      conv => lhs; unfold m_slices_Equal_Leave_l2
      rw [d_lt (by omega), cond_true, geti_lt h1, obind_some, geti_lt h2, obind_some, obind_some, lv_eq, inc_ok (by omega)]
      by_cases h : (ownB a).L[i] = (ownB b).L[i]
      · rw [decide_eq_true h, if_pos h]; rfl
      · rw [decide_eq_false h, if_neg h]; rfl), obind_some]
    congr 1
    exact decide_eq_decide.2 inj
  · rw [decide_eq_true (by rw [ownB_len, ownB_len]; omega), cond_true, obind_some, decide_eq_false (fun e => hl (by rw [e]))]
end Go.Proofs.Ytkamekhkkkeedaa.K
