/- The order of texts. Plain. -/
import Derived.Test.YtgocnknbiipcfaaLp
namespace Go.Proofs.Ytgocnknbiipcfaa.K
open Go.RowKit Go.Lib
set_option linter.unusedVariables false
set_option linter.unusedSimpArgs false
theorem u8_lt {a b : UInt8} : (a < b) ↔ a.toNat < b.toNat := UInt8.lt_iff_toNat_lt
theorem u8_eq {a b : UInt8} : a = b ↔ a.toNat = b.toNat := UInt8.toNat_inj.symm
theorem ltS_cons {a b : UInt8} {x y : List UInt8} : ltS (a :: x) (b :: y) = true ↔ a.toNat < b.toNat ∨ a.toNat = b.toNat ∧ ltS x y = true := by
  simp only [ltS, Op.bytesLess, Bool.or_eq_true, Bool.and_eq_true, decide_eq_true_eq, beq_iff_eq, u8_lt, u8_eq]
theorem ltS_nil {x : List UInt8} : ltS x [] = false := by cases x <;> rfl
theorem ltS_irr (x : List UInt8) : ¬ ltS x x = true := by
  induction x with
  | nil => simp [ltS_nil]
  | cons a x ih => rw [ltS_cons]; rintro (h | h) <;> simp_all
theorem ltS_asym {x y : List UInt8} (h : ltS x y = true) : ¬ ltS y x = true := by
  induction x generalizing y with
  | nil => simp [ltS_nil]
  | cons a x ih =>
    cases y with
    | nil => simp [ltS_nil] at h
    | cons b y =>
      rw [ltS_cons] at h ⊢
      rintro (k | k)
      · rcases h with h | h <;> omega
      · rcases h with h | h
        · omega
        · exact ih h.2 k.2
theorem ltS_tot {x y : List UInt8} : ltS x y = true ∨ x = y ∨ ltS y x = true := by
  induction x generalizing y with
  | nil => cases y <;> simp [ltS, Op.bytesLess]
  | cons a x ih =>
    cases y with
    | nil => exact .inr (.inr rfl)
    | cons b y =>
      rw [ltS_cons, ltS_cons]
      rcases Nat.lt_trichotomy a.toNat b.toNat with h | h | h
      · exact .inl (.inl h)
      · rcases ih (y := y) with k | k | k
        · exact .inl (.inr ⟨h, k⟩)
        · exact .inr (.inl (by rw [u8_eq.2 h, k]))
        · exact .inr (.inr (.inr ⟨h.symm, k⟩))
      · exact .inr (.inr (.inl h))
theorem ltS_trans {x y z : List UInt8} (h : ltS x y = true) (k : ltS y z = true) : ltS x z = true := by
  induction x generalizing y z with
  | nil =>
    cases z with
    | nil => rw [ltS_nil] at k; cases k
    | cons c z => rfl
  | cons a x ih =>
    cases y with
    | nil => rw [ltS_nil] at h; cases h
    | cons b y =>
      cases z with
      | nil => rw [ltS_nil] at k; cases k
      | cons c z =>
        rw [ltS_cons] at h k ⊢
        rcases h with h | h <;> rcases k with k | k
        · exact .inl (by omega)
        · exact .inl (by omega)
        · exact .inl (by omega)
        · exact .inr ⟨by omega, ih h.2 k.2⟩
theorem gtS_iff {x y : List UInt8} : gtS x y = ltS y x := by
  have h1 := ltS_tot (x := x) (y := y)
  have h2 := @ltS_asym x y
  have h3 := @ltS_asym y x
  by_cases e : x = y
  · subst e
    have := ltS_irr x
    simp [gtS, Bool.eq_false_iff.2 this]
  · unfold gtS
    rw [show (Op.bytesLess x y) = ltS x y from rfl]
    cases hx : ltS x y <;> cases hy : ltS y x <;> simp_all
end Go.Proofs.Ytgocnknbiipcfaa.K
