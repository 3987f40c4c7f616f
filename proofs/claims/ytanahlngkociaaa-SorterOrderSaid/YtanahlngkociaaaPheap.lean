/- Heaps: plain. -/
import Derived.Test.YtanahlngkociaaaLp
namespace Go.Proofs.Ytanahlngkociaaa.K
open Go.RowKit Go.Lib
set_option linter.unusedVariables false
set_option linter.unusedSimpArgs false
section
variable {α : Type}
/-- Two places' things change places. -/
def sw (l : List α) (i j : Nat) : List α := match l[i]?, l[j]? with
  | some a, some b => (l.set i b).set j a
  | _, _ => l
theorem sw_eq {l : List α} {i j : Nat} (hi : i < l.length) (hj : j < l.length) : sw l i j = (l.set i l[j]).set j l[i] := by
  unfold sw; rw [List.getElem?_eq_getElem hi, List.getElem?_eq_getElem hj]
theorem sw_len (l : List α) (i j : Nat) : (sw l i j).length = l.length := by unfold sw; split <;> simp
theorem sw_get {l : List α} {i j k : Nat} (hi : i < l.length) (hj : j < l.length) (hk : k < l.length) : (sw l i j)[k]'(by rw [sw_len]; exact hk) = if k = j then l[i] else if k = i then l[j] else l[k] := by
  simp only [sw_eq hi hj, List.getElem_set]
  by_cases h1 : j = k
  · simp [h1]
  · by_cases h2 : i = k
    · simp [h1, h2, Ne.symm h1]
    · simp [h1, h2, Ne.symm h1, Ne.symm h2]
theorem sw_perm {l : List α} {i j : Nat} (hi : i < l.length) (hj : j < l.length) : (sw l i j).Perm l := by
  have key : ∀ (i j : Nat) (l : List α) (hi : i < l.length) (hj : j < l.length), i < j → ((l.set i l[j]).set j l[i]).Perm l := by
    intro i
    induction i with
    | zero =>
      intro j l hi hj hij
      cases l with
      | nil => simp at hi
      | cons a l =>
        obtain ⟨j, rfl⟩ : ∃ k, j = k + 1 := ⟨j - 1, by omega⟩
        have hj' : j < l.length := by simpa using hj
        simp only [List.getElem_cons_succ, List.set_cons_zero, List.getElem_cons_zero, List.set_cons_succ]
        have e : l = l.take j ++ (l[j] :: l.drop (j + 1)) := by rw [← List.drop_eq_getElem_cons hj', List.take_append_drop]
        have e2 : l.set j a = l.take j ++ (a :: l.drop (j + 1)) := by rw [List.set_eq_take_append_cons_drop, if_pos hj']
        rw [e2]
        conv => rhs; rw [e]
        have p1 : (l[j] :: (l.take j ++ (a :: l.drop (j + 1)))).Perm (l[j] :: a :: (l.take j ++ l.drop (j + 1))) := List.Perm.cons _ List.perm_middle
        have p2 : (a :: (l.take j ++ (l[j] :: l.drop (j + 1)))).Perm (a :: l[j] :: (l.take j ++ l.drop (j + 1))) := List.Perm.cons _ List.perm_middle
        exact p1.trans ((List.Perm.swap _ _ _).trans p2.symm)
    | succ i ih =>
      intro j l hi hj hij
      cases l with
      | nil => simp at hi
      | cons a l =>
        obtain ⟨j, rfl⟩ : ∃ k, j = k + 1 := ⟨j - 1, by omega⟩
        simp only [List.getElem_cons_succ, List.set_cons_succ]
        exact List.Perm.cons _ (ih j l (by simpa using hi) (by simpa using hj) (by omega))
  rw [sw_eq hi hj]
  rcases Nat.lt_trichotomy i j with h | h | h
  · exact key i j l hi hj h
  · subst h; simp
  · rw [List.set_comm _ _ (by omega)]
    exact key j i l hj hi h
/-- An order: what is less; a thing is not less than itself; not being less goes on. -/
structure Ord (lt : α → α → Bool) : Prop where
  irr : ∀ a, lt a a = false
  asym : ∀ a b, lt a b = true → lt b a = false
  neg : ∀ a b c, lt a b = false → lt b c = false → lt a c = false
def ltO (lt : α → α → Bool) : Option α → Option α → Bool
  | some a, some b => lt a b
  | _, _ => false
/-- Is the thing at place i less than that at place j? -/
def la (lt : α → α → Bool) (l : List α) (i j : Nat) : Bool := ltO lt l[i]? l[j]?
theorem la_eq {lt : α → α → Bool} {l : List α} {i j : Nat} (hi : i < l.length) (hj : j < l.length) : la lt l i j = lt l[i] l[j] := by
  unfold la; rw [List.getElem?_eq_getElem hi, List.getElem?_eq_getElem hj]; rfl
theorem sw_get? {l : List α} {i j k : Nat} (hi : i < l.length) (hj : j < l.length) : (sw l i j)[k]? = if k = j then l[i]? else if k = i then l[j]? else l[k]? := by
  rw [sw_eq hi hj, List.getElem?_set, List.getElem?_set]
  simp only [List.length_set]
  by_cases h1 : j = k
  · subst h1; simp [hj, List.getElem?_eq_getElem hi]
  · by_cases h2 : i = k
    · subst h2; simp [h1, Ne.symm h1, hi, List.getElem?_eq_getElem hj]
    · simp [h1, h2, Ne.symm h1, Ne.symm h2]
variable {lt : α → α → Bool}
theorem la_neg (o : Ord lt) {l : List α} {a b c : Nat} (hb : b < l.length) (h1 : la lt l a b = false) (h2 : la lt l b c = false) : la lt l a c = false := by
  unfold la at *
  rw [List.getElem?_eq_getElem hb] at h1 h2
  cases ha : l[a]? with
  | none => rfl
  | some x =>
    cases hc : l[c]? with
    | none => rfl
    | some z => rw [ha] at h1; rw [hc] at h2; exact o.neg _ _ _ h1 h2
theorem la_asym (o : Ord lt) {l : List α} {a b : Nat} (h : la lt l a b = true) : la lt l b a = false := by
  unfold la at *
  cases ha : l[a]? with
  | none => rw [ha] at h; cases h
  | some x =>
    cases hb : l[b]? with
    | none => rfl
    | some y => rw [ha, hb] at h; exact o.asym _ _ h
def Hp (lt : α → α → Bool) (l : List α) : Prop := ∀ j, 0 < j → j < l.length → la lt l j ((j - 1) / 2) = false
def up (lt : α → α → Bool) : Nat → List α → Nat → List α
  | 0, l, _ => l
  | f + 1, l, i => if i = 0 then l else if la lt l i ((i - 1) / 2) = true then up lt f (sw l i ((i - 1) / 2)) ((i - 1) / 2) else l
def HU (lt : α → α → Bool) (l : List α) (i : Nat) : Prop := (∀ j, 0 < j → j < l.length → j ≠ i → la lt l j ((j - 1) / 2) = false) ∧ (∀ j, 0 < j → j < l.length → (j - 1) / 2 = i → 0 < i → la lt l j ((i - 1) / 2) = false)
theorem up_perm : ∀ (f : Nat) (l : List α) (i : Nat), i < l.length → (up lt f l i).Perm l
  | 0, l, i, _ => .refl _
  | f + 1, l, i, hi => by
    unfold up
    split
    · exact .refl _
    · split
      · have := up_perm f (sw l i ((i - 1) / 2)) ((i - 1) / 2) (by rw [sw_len]; omega)
        exact this.trans (sw_perm hi (by omega))
      · exact .refl _
theorem la_sw {l : List α} {i j a b : Nat} (hi : i < l.length) (hj : j < l.length) : la lt (sw l i j) a b = la lt l (if a = j then i else if a = i then j else a) (if b = j then i else if b = i then j else b) := by
  unfold la
  rw [sw_get? hi hj, sw_get? hi hj]
  congr 1 <;> (split <;> (try split) <;> rfl)
theorem up_heap (o : Ord lt) : ∀ (f : Nat) (l : List α) (i : Nat), i ≤ f → i < l.length → HU lt l i → Hp lt (up lt f l i)
  | 0, l, i, h0, hi, h => by
    obtain rfl : i = 0 := by omega
    unfold up
    exact fun j h1 h2 => h.1 j h1 h2 (by omega)
  | f + 1, l, i, h0, hi, h => by
    unfold up
    split
    · rename_i h1; subst h1
      exact fun j h1 h2 => h.1 j h1 h2 (by omega)
    · rename_i hi0
      have hp : (i - 1) / 2 < l.length := by omega
      split
      · rename_i hlt
        have has := la_asym o hlt
        refine up_heap o f _ _ (by omega) (by rw [sw_len]; omega) ⟨fun j h1 h2 h3 => ?_, fun j h1 h2 h3 h4 => ?_⟩
        · rw [sw_len] at h2
          rw [la_sw hi hp]
          by_cases e1 : j = i
          · subst e1
            rw [if_neg (by omega), if_pos rfl, if_pos rfl]; exact has
          · rw [if_neg h3, if_neg e1]
            by_cases e2 : (j - 1) / 2 = (i - 1) / 2
            · rw [e2, if_pos rfl]
              have k1 := h.1 j h1 h2 e1
              rw [e2] at k1
              exact la_neg o hp k1 has
            · rw [if_neg e2]
              by_cases e3 : (j - 1) / 2 = i
              · rw [if_pos e3]; exact h.2 j h1 h2 e3 (by omega)
              · rw [if_neg e3]; exact h.1 j h1 h2 e1
        · rw [sw_len] at h2
          rw [la_sw hi hp]
          rw [if_neg (show ¬ ((i - 1) / 2 - 1) / 2 = (i - 1) / 2 by omega), if_neg (show ¬ ((i - 1) / 2 - 1) / 2 = i by omega), if_neg (show ¬ j = (i - 1) / 2 by omega)]
          have k0 := h.1 ((i - 1) / 2) h4 hp (by omega)
          by_cases e1 : j = i
          · rw [if_pos e1]; exact k0
          · rw [if_neg e1]
            have k1 := h.1 j h1 h2 e1
            rw [h3] at k1
            exact la_neg o hp k1 k0
      · rename_i hlt
        intro j h1 h2
        by_cases e : j = i
        · subst e; exact Bool.eq_false_iff.2 hlt
        · exact h.1 j h1 h2 e
/-- The place of the least of one and the two below. -/
def ls (lt : α → α → Bool) (l : List α) (i : Nat) : Nat :=
  let a := if 2 * i + 1 < l.length ∧ la lt l (2 * i + 1) i = true then 2 * i + 1 else i
  if 2 * i + 2 < l.length ∧ la lt l (2 * i + 2) a = true then 2 * i + 2 else a
theorem ls_spec (o : Ord lt) {l : List α} {i : Nat} (hi : i < l.length) : ls lt l i < l.length ∧ (ls lt l i = i ∨ (0 < ls lt l i ∧ (ls lt l i - 1) / 2 = i ∧ la lt l (ls lt l i) i = true)) ∧ ∀ j, 0 < j → j < l.length → (j - 1) / 2 = i → la lt l j (ls lt l i) = false := by
  have irr : ∀ a, la lt l a a = false := fun a => by
    unfold la
    cases l[a]? with
    | none => rfl
    | some x => exact o.irr x
  unfold ls
  simp only
  by_cases h1 : 2 * i + 1 < l.length ∧ la lt l (2 * i + 1) i = true
  · rw [if_pos h1]
    by_cases h2 : 2 * i + 2 < l.length ∧ la lt l (2 * i + 2) (2 * i + 1) = true
    · rw [if_pos h2]
      refine ⟨h2.1, .inr ⟨by omega, by omega, ?_⟩, fun j k1 k2 k3 => ?_⟩
      · cases q : la lt l (2 * i + 2) i with
        | true => rfl
        | false =>
          have := la_neg o hi q (la_asym o h1.2)
          rw [h2.2] at this; cases this
      · have : j = 2 * i + 1 ∨ j = 2 * i + 2 := by omega
        rcases this with rfl | rfl
        · exact la_asym o h2.2
        · exact irr _
    · rw [if_neg h2]
      refine ⟨h1.1, .inr ⟨by omega, by omega, h1.2⟩, fun j k1 k2 k3 => ?_⟩
      have : j = 2 * i + 1 ∨ j = 2 * i + 2 := by omega
      rcases this with rfl | rfl
      · exact irr _
      · cases q : la lt l (2 * i + 2) (2 * i + 1) with
        | false => rfl
        | true => exact absurd ⟨k2, q⟩ h2
  · rw [if_neg h1]
    by_cases h2 : 2 * i + 2 < l.length ∧ la lt l (2 * i + 2) i = true
    · rw [if_pos h2]
      refine ⟨h2.1, .inr ⟨by omega, by omega, h2.2⟩, fun j k1 k2 k3 => ?_⟩
      have : j = 2 * i + 1 ∨ j = 2 * i + 2 := by omega
      rcases this with rfl | rfl
      · have q : la lt l (2 * i + 1) i = false := by
          cases q : la lt l (2 * i + 1) i with
          | false => rfl
          | true => exact absurd ⟨k2, q⟩ h1
        exact la_neg o hi q (la_asym o h2.2)
      · exact irr _
    · rw [if_neg h2]
      refine ⟨hi, .inl rfl, fun j k1 k2 k3 => ?_⟩
      have : j = 2 * i + 1 ∨ j = 2 * i + 2 := by omega
      rcases this with rfl | rfl
      · cases q : la lt l (2 * i + 1) i with
        | false => rfl
        | true => exact absurd ⟨k2, q⟩ h1
      · cases q : la lt l (2 * i + 2) i with
        | false => rfl
        | true => exact absurd ⟨k2, q⟩ h2
def down (lt : α → α → Bool) : Nat → List α → Nat → List α
  | 0, l, _ => l
  | f + 1, l, i => if ls lt l i = i then l else down lt f (sw l i (ls lt l i)) (ls lt l i)
def HD (lt : α → α → Bool) (l : List α) (i : Nat) : Prop := (∀ j, 0 < j → j < l.length → (j - 1) / 2 ≠ i → la lt l j ((j - 1) / 2) = false) ∧ (∀ j, 0 < j → j < l.length → (j - 1) / 2 = i → 0 < i → la lt l j ((i - 1) / 2) = false)
theorem down_perm (o : Ord lt) : ∀ (f : Nat) (l : List α) (i : Nat), i < l.length → (down lt f l i).Perm l
  | 0, l, i, _ => .refl _
  | f + 1, l, i, hi => by
    unfold down
    split
    · exact .refl _
    · have hk := (ls_spec o hi).1
      exact (down_perm o f _ _ (by rw [sw_len]; exact hk)).trans (sw_perm hi hk)
theorem down_heap (o : Ord lt) : ∀ (f : Nat) (l : List α) (i : Nat), l.length - i ≤ f → i < l.length → HD lt l i → Hp lt (down lt f l i)
  | 0, l, i, h0, hi, h => by omega
  | f + 1, l, i, h0, hi, h => by
    obtain ⟨hk, hs, hc⟩ := ls_spec o hi
    unfold down
    split
    · rename_i e
      intro j h1 h2
      by_cases q : (j - 1) / 2 = i
      · have := hc j h1 h2 q; rw [e] at this; rw [q]; exact this
      · exact h.1 j h1 h2 q
    · rename_i hne
      rcases hs with hs | ⟨s1, s2, s3⟩
      · exact absurd hs hne
      · generalize ls lt l i = k at *
        refine down_heap o f _ _ (by rw [sw_len]; omega) (by rw [sw_len]; exact hk) ⟨fun j h1 h2 h3 => ?_, fun j h1 h2 h3 h4 => ?_⟩
        · rw [sw_len] at h2
          rw [la_sw hi hk]
          by_cases e1 : j = k
          · subst e1
            rw [if_pos rfl, s2, if_neg (by omega), if_pos rfl]; exact la_asym o s3
          · rw [if_neg e1, if_neg h3]
            by_cases e2 : j = i
            · subst e2
              rw [if_pos rfl, if_neg (show ¬ (j - 1) / 2 = j by omega)]
              exact h.2 k s1 hk s2 h1
            · rw [if_neg e2]
              by_cases e3 : (j - 1) / 2 = i
              · rw [if_pos e3]; exact hc j h1 h2 e3
              · rw [if_neg e3]; exact h.1 j h1 h2 e3
        · rw [sw_len] at h2
          rw [la_sw hi hk, s2, if_neg (show ¬ i = k by omega), if_pos rfl, if_neg (show ¬ j = k by omega), if_neg (show ¬ j = i by omega)]
          have := h.1 j h1 h2 (by omega)
          rw [h3] at this; exact this
theorem heap_min (o : Ord lt) {l : List α} (h : Hp lt l) : ∀ j, j < l.length → la lt l j 0 = false := by
  intro j
  induction j using Nat.strongRecOn with
  | ind j ih =>
    intro hj
    rcases Nat.eq_zero_or_pos j with rfl | hp
    · unfold la
      cases l[0]? with
      | none => rfl
      | some x => exact o.irr x
    · exact la_neg o (show (j - 1) / 2 < l.length by omega) (h j hp hj) (ih _ (by omega) (by omega))
/-- With one more. -/
def push (lt : α → α → Bool) (l : List α) (x : α) : List α := up lt l.length (l ++ [x]) l.length
theorem push_perm {l : List α} {x : α} : (push lt l x).Perm (x :: l) := (up_perm _ _ _ (by simp)).trans (by simp)
theorem la_app {l r : List α} {i j : Nat} (hi : i < l.length) (hj : j < l.length) : la lt (l ++ r) i j = la lt l i j := by
  unfold la; rw [List.getElem?_append_left hi, List.getElem?_append_left hj]
theorem push_heap (o : Ord lt) {l : List α} {x : α} (h : Hp lt l) : Hp lt (push lt l x) := by
  refine up_heap o _ _ _ (Nat.le_refl _) (by simp) ⟨fun j h1 h2 h3 => ?_, fun j h1 h2 h3 h4 => ?_⟩
  · simp only [List.length_append, List.length_singleton] at h2
    rw [la_app (by omega) (by omega)]; exact h j h1 (by omega)
  · simp only [List.length_append, List.length_singleton] at h2; omega
/-- What is left behind the least. -/
def rest (lt : α → α → Bool) (l : List α) : List α := match l with
  | [] => []
  | a :: r => (let s := (sw (a :: r) 0 r.length).take r.length; if r = [] then [] else down lt r.length s 0)
theorem sw_last {a : α} {r : List α} : ((sw (a :: r) 0 r.length).take r.length ++ [a]) = sw (a :: r) 0 r.length := by
  have h0 : 0 < (a :: r).length := by simp
  have hn : r.length < (a :: r).length := by simp
  have hl := sw_len (a :: r) 0 r.length
  apply List.ext_getElem?
  intro k
  rw [List.getElem?_append]
  have htl : ((sw (a :: r) 0 r.length).take r.length).length = r.length := by rw [List.length_take, hl]; simp
  rw [htl]
  split
  · rename_i hk; rw [List.getElem?_take, if_pos hk]
  · rename_i hk
    rw [sw_get? h0 hn]
    by_cases e : k = r.length
    · subst e; simp
    · rw [if_neg e, List.getElem?_eq_none (by simp; omega), if_neg (by omega), List.getElem?_eq_none (by simp; omega)]
theorem rest_perm (o : Ord lt) {a : α} {r : List α} : (a :: rest lt (a :: r)).Perm (a :: r) := by
  unfold rest
  simp only
  split
  · rename_i h; subst h; exact .refl _
  · rename_i h
    have hr : 0 < r.length := List.length_pos_iff.2 h
    have hl : ((sw (a :: r) 0 r.length).take r.length).length = r.length := by rw [List.length_take, sw_len]; simp
    have h1 := down_perm o r.length ((sw (a :: r) 0 r.length).take r.length) 0 (by omega)
    have h2 : (a :: (sw (a :: r) 0 r.length).take r.length).Perm (sw (a :: r) 0 r.length) := by
      conv => rhs; rw [← sw_last]
      exact (List.perm_append_comm (l₁ := [a]) (l₂ := _))
    exact ((List.Perm.cons a h1).trans h2).trans (sw_perm (by simp) (by simp))
theorem rest_len (o : Ord lt) {a : α} {r : List α} : (rest lt (a :: r)).length = r.length := by
  have := (rest_perm o (a := a) (r := r)).length_eq
  simpa using this
theorem rest_heap (o : Ord lt) {a : α} {r : List α} (h : Hp lt (a :: r)) : Hp lt (rest lt (a :: r)) := by
  unfold rest
  simp only
  split
  · intro j _ hj; simp at hj
  · rename_i hne
    have hr : 0 < r.length := List.length_pos_iff.2 hne
    have hl : ((sw (a :: r) 0 r.length).take r.length).length = r.length := by rw [List.length_take, sw_len]; simp
    have hlt : ∀ i j, i < r.length → j < r.length → la lt ((sw (a :: r) 0 r.length).take r.length) i j = la lt (sw (a :: r) 0 r.length) i j := fun i j hi hj => by
      unfold la; rw [List.getElem?_take, List.getElem?_take, if_pos hi, if_pos hj]
    refine down_heap o _ _ _ (by omega) (by omega) ⟨fun j h1 h2 h3 => ?_, fun j h1 h2 h3 h4 => by omega⟩
    rw [hl] at h2
    rw [hlt _ _ h2 (by omega), la_sw (by simp) (by simp), if_neg (by omega), if_neg (by omega), if_neg (by omega), if_neg h3]
    exact h j h1 (by simp; omega)
theorem head_min (o : Ord lt) {a : α} {r : List α} (h : Hp lt (a :: r)) : ∀ x ∈ a :: r, lt x a = false := fun x hx => by
  obtain ⟨j, hj, rfl⟩ := List.getElem_of_mem hx
  have := heap_min o h j hj
  rw [la_eq hj (by simp)] at this
  exact this
end
end Go.Proofs.Ytanahlngkociaaa.K
