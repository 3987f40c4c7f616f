/- Lists that are sorted by swaps: plain. -/
import Derived.Test.YtbgioanegbipgaaLp
namespace Go.Proofs.Ytbgioanegbipgaa.K
open Go.RowKit Go.Lib
set_option linter.unusedVariables false
section
variable {α : Type} {l p m q : List α} {x y : α} {i j : Int}
theorem geti_at (e : l = p ++ x :: q) (h : i = (p.length : Int)) : geti l i = some x := by
  subst e; subst h; rw [geti_nat]; simp
theorem set_at (e : l = p ++ x :: q) (h : i = (p.length : Int)) : l.set i.toNat y = p ++ y :: q := by
  subst e; subst h
  rw [Int.toNat_natCast, List.set_append_right _ _ (Nat.le_refl _), Nat.sub_self, List.set_cons_zero]
/-- Two elements are swapped: the first place is written first. -/
theorem swp (e : l = p ++ x :: (m ++ y :: q)) (hi : i = (p.length : Int)) (hj : j = (p.length : Int) + 1 + (m.length : Int)) :
    geti l i = some x ∧ geti l j = some y ∧ geti (l.set i.toNat y) j = some y ∧ (l.set i.toNat y).set j.toNat x = p ++ y :: (m ++ x :: q) := by
  have h1 := set_at (y := y) e hi
  have h2 : l = (p ++ x :: m) ++ y :: q := by rw [e]; simp
  have h3 : p ++ y :: (m ++ y :: q) = (p ++ y :: m) ++ y :: q := by simp
  refine ⟨geti_at e hi, geti_at h2 (by simp; omega), ?_, ?_⟩
  · rw [h1]; exact geti_at h3 (by simp; omega)
  · rw [h1, set_at (y := x) h3 (by simp; omega)]; simp
/-- The same, the second place being written first. -/
theorem swp' (e : l = p ++ x :: (m ++ y :: q)) (hi : i = (p.length : Int)) (hj : j = (p.length : Int) + 1 + (m.length : Int)) :
    geti l i = some x ∧ geti l j = some y ∧ geti (l.set j.toNat x) i = some x ∧ (l.set j.toNat x).set i.toNat y = p ++ y :: (m ++ x :: q) := by
  have h2 : l = (p ++ x :: m) ++ y :: q := by rw [e]; simp
  have h1 := set_at (y := x) h2 (i := j) (by simp; omega)
  have h3 : (p ++ x :: m) ++ x :: q = p ++ x :: (m ++ x :: q) := by simp
  refine ⟨geti_at e hi, geti_at h2 (by simp; omega), ?_, ?_⟩
  · rw [h1]; exact geti_at h3 hi
  · rw [h1, set_at (y := y) h3 hi]
end
theorem half_ok {i j : Nat} (h : i + j ≤ 1000000000000) : IntKind.i64.wrap (Int.fdiv (IntKind.u64.wrap (IntKind.i64.wrap ((i : Int) + (j : Int)))) (2 ^ 1)) = (((i + j) / 2 : Nat) : Int) := by
  rw [w64 (n := (i : Int) + (j : Int)) (by omega) (by omega), wu64, Int.emod_eq_of_lt (by omega) (by omega), Int.fdiv_eq_ediv_of_nonneg _ (by decide), w64 (by omega) (by omega)]
  omega
/-- A search by halves. -/
theorem half_loop {R : Type} {L : Nat → Int → Int → Option R} {K : Int → Option R} {Pd : Nat → Prop} [DecidablePred Pd] {lo hi : Nat}
    (hend : ∀ fu (i : Nat), L (fu + 1) (i : Int) (i : Int) = K (i : Int))
    (hstep : ∀ fu (i j : Nat), lo ≤ i → i < j → j ≤ hi → L (fu + 1) (i : Int) (j : Int) = if Pd ((i + j) / 2) then L fu (((i + j) / 2 + 1 : Nat) : Int) (j : Int) else L fu (i : Int) (((i + j) / 2 : Nat) : Int))
    (mono : ∀ c d, lo ≤ c → c ≤ d → d < hi → Pd d → Pd c) : ∀ (fu i j : Nat), lo ≤ i → i ≤ j → j ≤ hi → j - i < fu → (∀ c, lo ≤ c → c < i → Pd c) → (∀ c, j ≤ c → c < hi → ¬ Pd c) →
      ∃ s : Nat, lo ≤ s ∧ s ≤ hi ∧ L fu (i : Int) (j : Int) = K (s : Int) ∧ (∀ c, lo ≤ c → c < s → Pd c) ∧ (∀ c, s ≤ c → c < hi → ¬ Pd c)
  | 0, i, j, _, _, _, h, _, _ => by omega
  | fu + 1, i, j, h1, h2, h3, h4, ha, hb => by
    by_cases hij : i = j
    · subst hij; exact ⟨i, h1, h3, hend fu i, ha, hb⟩
    · rw [hstep fu i j h1 (by omega) h3]
      by_cases hp : Pd ((i + j) / 2)
      · rw [if_pos hp]
        exact half_loop hend hstep mono fu _ j (by omega) (by omega) h3 (by omega) (fun c hc1 hc2 => mono c ((i + j) / 2) hc1 (by omega) (by omega) hp) hb
      · rw [if_neg hp]
        exact half_loop hend hstep mono fu i _ h1 (by omega) (by omega) (by omega) ha (fun c hc1 hc2 hc => hp (mono _ c (by omega) hc1 hc2 hc))
/-! ### order -/
/-- What tells an order: less is never both ways, and not less goes on from one to the next. -/
structure Ord {α : Type} (Q : α → Prop) (lt : α → α → Prop) : Prop where
  asym : ∀ x y, Q x → Q y → lt x y → ¬ lt y x
  trans : ∀ x y z, Q x → Q y → Q z → ¬ lt y x → ¬ lt z y → ¬ lt z x
section
variable {α : Type} {Q : α → Prop} {lt : α → α → Prop} (O : Ord Q lt)
/-- In order: none is less than one ahead of it. -/
def Srt (lt : α → α → Prop) (l : List α) : Prop := l.Pairwise fun x y => ¬ lt y x
theorem Srt.app {a b : List α} : Srt lt (a ++ b) ↔ Srt lt a ∧ Srt lt b ∧ ∀ x ∈ a, ∀ y ∈ b, ¬ lt y x := List.pairwise_append
theorem Srt.one (x : α) : Srt lt [x] := List.pairwise_singleton _ _
theorem Srt.nil : Srt lt ([] : List α) := List.Pairwise.nil
theorem Srt.at {l : List α} (h : Srt lt l) {i j : Nat} (hij : i < j) (hj : j < l.length) : ¬ lt l[j] l[i] := (List.pairwise_iff_getElem.1 h) i j _ _ hij
include O in
theorem Srt.at' {l : List α} (h : Srt lt l) (hq : ∀ x ∈ l, Q x) {i j : Nat} (hij : i ≤ j) (hj : j < l.length) : ¬ lt l[j] (l[i]'(by omega)) := by
  rcases Nat.lt_or_ge i j with h1 | h1
  · exact h.at h1 hj
  · have : i = j := by omega
    subst this
    intro hl
    exact O.asym _ _ (hq _ (List.getElem_mem _)) (hq _ (List.getElem_mem _)) hl hl
/-- In chunks of k, each in order. -/
inductive Chunks (lt : α → α → Prop) (k : Nat) : List α → Prop
  | last (l : List α) : l.length ≤ k → Srt lt l → Chunks lt k l
  | cons (c l : List α) : c.length = k → Srt lt c → Chunks lt k l → Chunks lt k (c ++ l)
theorem Chunks.split {k : Nat} {l : List α} (h : Chunks lt k l) (hk : k ≤ l.length) : ∃ c r, l = c ++ r ∧ c.length = k ∧ Srt lt c ∧ Chunks lt k r := by
  cases h with
  | last l h1 h2 => exact ⟨l, [], by simp, by omega, h2, .last _ (by simp) Srt.nil⟩
  | cons c l h1 h2 h3 => exact ⟨c, l, rfl, h1, h2, h3⟩
theorem Chunks.all {k : Nat} {l : List α} (h : Chunks lt k l) (hk : l.length ≤ k) : Srt lt l := by
  cases h with
  | last l h1 h2 => exact h2
  | cons c l h1 h2 h3 =>
    have : l = [] := List.eq_nil_of_length_eq_zero (by simp at hk; omega)
    subst this; rw [List.append_nil]; exact h2
/-- One more put into its place: behind all that it is not less than. -/
def insS (lt : α → α → Prop) [DecidableRel lt] (s : List α) (x : α) : List α := s.takeWhile (fun y => !decide (lt x y)) ++ x :: s.dropWhile (fun y => !decide (lt x y))
def isort (lt : α → α → Prop) [DecidableRel lt] (l : List α) : List α := l.foldl (insS lt) []
variable [DecidableRel lt]
theorem insS_perm (s : List α) (x : α) : (insS lt s x).Perm (s ++ [x]) := by
  have e : s = s.takeWhile (fun y => !decide (lt x y)) ++ s.dropWhile (fun y => !decide (lt x y)) := (List.takeWhile_append_dropWhile).symm
  unfold insS
  conv => rhs; rw [e, List.append_assoc]
  exact List.Perm.append_left _ (List.perm_append_singleton _ _).symm
theorem fold_perm : ∀ (l s : List α), (l.foldl (insS lt) s).Perm (s ++ l)
  | [], s => by simp
  | x :: l, s => by
    rw [List.foldl_cons]
    refine (fold_perm l _).trans ?_
    have := (insS_perm (lt := lt) s x).append_right l
    simpa using this
theorem isort_perm (l : List α) : (isort lt l).Perm l := by simpa [isort] using fold_perm (lt := lt) l []
theorem tw_all (s : List α) (x : α) : ∀ y ∈ s.takeWhile (fun y => !decide (lt x y)), ¬ lt x y := by
  induction s with
  | nil => simp
  | cons z s ih =>
    intro y hy
    rw [List.takeWhile_cons] at hy
    split at hy
    · rcases List.mem_cons.1 hy with rfl | hy
      · rename_i hz; simpa using hz
      · exact ih y hy
    · simp at hy
include O in
theorem dw_all {s : List α} {x : α} (hs : Srt lt s) (hq : ∀ y ∈ s, Q y) (hx : Q x) : ∀ y ∈ s.dropWhile (fun y => !decide (lt x y)), lt x y := by
  induction s with
  | nil => simp
  | cons z s ih =>
    intro y hy
    rw [List.dropWhile_cons] at hy
    have hs' := List.pairwise_cons.1 hs
    split at hy
    · exact ih hs'.2 (fun y h => hq y (by simp [h])) y hy
    · rename_i hz
      have hz : lt x z := by simpa using hz
      rcases List.mem_cons.1 hy with rfl | hy
      · exact hz
      · refine Classical.byContradiction fun hn => ?_
        exact O.trans z y x (hq z (by simp)) (hq y (by simp [hy])) hx (hs'.1 y hy) hn hz
include O in
theorem insS_srt {s : List α} {x : α} (hs : Srt lt s) (hq : ∀ y ∈ s, Q y) (hx : Q x) : Srt lt (insS lt s x) := by
  have e : s = s.takeWhile (fun y => !decide (lt x y)) ++ s.dropWhile (fun y => !decide (lt x y)) := (List.takeWhile_append_dropWhile).symm
  have h := hs
  rw [e, Srt.app] at h
  unfold insS
  rw [Srt.app]
  refine ⟨h.1, List.pairwise_cons.2 ⟨fun y hy => ?_, h.2.1⟩, fun a ha b hb => ?_⟩
  · have h1 := dw_all O hs hq hx y hy
    exact fun h2 => O.asym x y hx (hq y (List.dropWhile_sublist _ |>.subset hy)) h1 h2
  · rcases List.mem_cons.1 hb with rfl | hb
    · exact tw_all s b a ha
    · exact h.2.2 a ha b hb
include O in
theorem fold_srt : ∀ (l s : List α), Srt lt s → (∀ y ∈ s, Q y) → (∀ y ∈ l, Q y) → Srt lt (l.foldl (insS lt) s)
  | [], s, h, _, _ => h
  | x :: l, s, h, hs, hl => by
    rw [List.foldl_cons]
    refine fold_srt l _ (insS_srt O h hs (hl x (by simp))) (fun y hy => ?_) (fun y hy => hl y (by simp [hy]))
    have := (insS_perm (lt := lt) s x).mem_iff.1 hy
    rcases List.mem_append.1 this with h1 | h1
    · exact hs y h1
    · simp only [List.mem_singleton] at h1; subst h1; exact hl y (by simp)
include O in
theorem isort_srt {l : List α} (hl : ∀ y ∈ l, Q y) : Srt lt (isort lt l) := fold_srt O l [] Srt.nil (by simp) hl
end
section
variable {α : Type} {pd : α → Prop} {B : List α} {k : Nat} {d : α}
theorem take_pd (h : ∀ t, t < k → pd (B.getD t d)) (hk : k ≤ B.length) : ∀ z ∈ B.take k, pd z := fun z hz => by
  obtain ⟨t, ht, rfl⟩ := List.mem_iff_getElem.1 hz
  simp only [List.length_take] at ht
  have := h t (by omega)
  rw [List.getD_eq_getElem?_getD, List.getElem?_eq_getElem (by omega)] at this
  simpa using this
theorem drop_pd (h : ∀ t, k ≤ t → t < B.length → pd (B.getD t d)) : ∀ z ∈ B.drop k, pd z := fun z hz => by
  obtain ⟨t, ht, rfl⟩ := List.mem_iff_getElem.1 hz
  simp only [List.length_drop] at ht
  have := h (k + t) (by omega) (by omega)
  rw [List.getD_eq_getElem?_getD, List.getElem?_eq_getElem (by omega)] at this
  simpa using this
theorem getD_lt {t : Nat} (h : t < B.length) : B.getD t d = B[t] := by
  rw [List.getD_eq_getElem?_getD, List.getElem?_eq_getElem h]; rfl
/-- An element of the second list, by its place. -/
theorem geti_snd {P A R : List α} {i : Int} {t : Nat} (ht : t < A.length) (hi : i = (P.length : Int) + t) : geti (P ++ (A ++ R)) i = some (A.getD t d) := by
  rw [getD_lt ht]
  have e : P ++ (A ++ R) = (P ++ A.take t) ++ A[t] :: (A.drop (t + 1) ++ R) := by
    have e0 : A = A.take t ++ A[t] :: A.drop (t + 1) := by rw [← List.drop_eq_getElem_cons ht, List.take_append_drop]
    conv => lhs; rw [e0]
    simp only [List.append_assoc, List.cons_append]
  exact geti_at e (by simp; omega)
theorem geti_trd {P A B R : List α} {i : Int} {t : Nat} (ht : t < B.length) (hi : i = (P.length : Int) + A.length + t) : geti (P ++ (A ++ (B ++ R))) i = some (B.getD t d) := by
  have := geti_snd (P := P ++ A) (A := B) (R := R) (d := d) (i := i) ht (by simp; omega)
  rwa [List.append_assoc] at this
end
abbrev ltc {α : Type} (c : α → α → Int) : α → α → Prop := fun x y => c x y < 0
instance {α : Type} (c : α → α → Int) : DecidableRel (ltc c) := fun x y => inferInstanceAs (Decidable (c x y < 0))
theorem insS_snoc {α : Type} {lt : α → α → Prop} [DecidableRel lt] {s : List α} {x y : α} (h : lt x y) : insS lt (s ++ [y]) x = insS lt s x ++ [y] := by
  unfold insS
  rw [List.takeWhile_append, List.dropWhile_append]
  by_cases ha : (s.takeWhile fun y => !decide (lt x y)).length = s.length
  · have hd : s.dropWhile (fun y => !decide (lt x y)) = [] := by
      have e := congrArg List.length (List.takeWhile_append_dropWhile (p := fun y => !decide (lt x y)) (l := s))
      rw [List.length_append] at e
      exact List.eq_nil_of_length_eq_zero (by omega)
    have ht : s.takeWhile (fun y => !decide (lt x y)) = s := by
      have e := List.takeWhile_append_dropWhile (p := fun y => !decide (lt x y)) (l := s)
      rwa [hd, List.append_nil] at e
    rw [if_pos ha, hd, ht]
    simp [h]
  · have hd : (s.dropWhile fun y => !decide (lt x y)).isEmpty = false := by
      cases hq : s.dropWhile (fun y => !decide (lt x y)) with
      | nil =>
        exfalso; apply ha
        have e := List.takeWhile_append_dropWhile (p := fun y => !decide (lt x y)) (l := s)
        rw [hq, List.append_nil] at e
        rw [e]
      | cons a b => rfl
    rw [if_neg ha, hd]
    simp
theorem tw_self {α : Type} {p : α → Bool} : ∀ {s : List α}, (∀ z ∈ s, p z = true) → s.takeWhile p = s
  | [], _ => rfl
  | x :: s, h => by rw [List.takeWhile_cons, if_pos (h x (by simp)), tw_self fun z hz => h z (by simp [hz])]
theorem dw_nil {α : Type} {p : α → Bool} : ∀ {s : List α}, (∀ z ∈ s, p z = true) → s.dropWhile p = []
  | [], _ => rfl
  | x :: s, h => by rw [List.dropWhile_cons, if_pos (h x (by simp)), dw_nil fun z hz => h z (by simp [hz])]
theorem insS_end {α : Type} {lt : α → α → Prop} [DecidableRel lt] {s : List α} {x : α} (h : ∀ z ∈ s, ¬ lt x z) : insS lt s x = s ++ [x] := by
  unfold insS
  have ht : s.takeWhile (fun y => !decide (lt x y)) = s := by
    exact tw_self fun z hz => by simp [h z hz]
  have hd : s.dropWhile (fun y => !decide (lt x y)) = [] := by
    exact dw_nil fun z hz => by simp [h z hz]
  rw [ht, hd]
end Go.Proofs.Ytbgioanegbipgaa.K
