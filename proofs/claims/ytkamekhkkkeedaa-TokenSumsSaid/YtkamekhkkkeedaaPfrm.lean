/- Frontiers of changes none of which is below 0: plain. -/
import Derived.Test.YtkamekhkkkeedaaPfro
namespace Go.Proofs.Ytkamekhkkkeedaa.K
open Go.RowKit Go.Lib
set_option linter.unusedVariables false
set_option linter.unusedSimpArgs false
theorem atp_nn : ∀ {l : List GChange}, (∀ x ∈ l, 0 ≤ x.N) → ∀ a b, 0 ≤ atp l a b
  | [], _, _, _ => Int.le_refl _
  | x :: l, h, a, b => by
    have := atp_nn (l := l) (fun y hy => h y (by simp [hy])) a b
    have := h x (by simp)
    unfold atp; split <;> omega
theorem frn_min {a b : List GChange} (ha : ∀ p t, 0 ≤ atp a p t) (hb : ∀ p t, 0 ≤ atp b p t) (loc : Int) : frn (a ++ b) loc = min (frn a loc) (frn b loc) := by
  obtain ⟨u1, u2, u3⟩ := frn_spec (a ++ b) loc
  obtain ⟨v1, v2, v3⟩ := frn_spec a loc
  obtain ⟨w1, w2, w3⟩ := frn_spec b loc
  have k1 : frn (a ++ b) loc ≤ frn a loc := by
    rcases v3 with e | ⟨p, t, hl, hp, e⟩
    · omega
    · have := hb p t
      have := u2 p t hl (by rw [atp_app]; omega)
      omega
  have k2 : frn (a ++ b) loc ≤ frn b loc := by
    rcases w3 with e | ⟨p, t, hl, hp, e⟩
    · omega
    · have := ha p t
      have := u2 p t hl (by rw [atp_app]; omega)
      omega
  rcases u3 with e | ⟨p, t, hl, hp, e⟩
  · omega
  · rw [atp_app] at hp
    by_cases h : 0 < atp a p t
    · have := v2 p t hl h; omega
    · have := w2 p t hl (by omega); omega
theorem frn_one {L T : Int} (h0 : 0 ≤ T) (h1 : T ≤ 1099511627777) (loc : Int) : frn [⟨L, T, 1⟩] loc = if leads L loc = true then T else 1099511627777 := by
  unfold frn fmin fmin there
  simp only [atp]
  by_cases h : leads L loc = true
  · rw [h]; simp; omega
  · have h : leads L loc = false := by simpa using h
    rw [h]; simp; omega
theorem frn_more {a : List GChange} (ha : ∀ p t, 0 ≤ atp a p t) {L T : Int} (h0 : 0 ≤ T) (h1 : T ≤ 1099511627777) (loc : Int) : frn (a ++ [⟨L, T, 1⟩]) loc = if leads L loc = true then min (frn a loc) T else frn a loc := by
  rw [frn_min ha (fun p t => by simp only [atp]; split <;> omega), frn_one h0 h1]
  have := (frn_spec a loc).1
  split <;> omega
theorem frn_mono (l : List GChange) {j k : Int} (h : j ≤ k) (hk : k ≤ 3) : frn l k ≤ frn l j := by
  obtain ⟨u1, u2, u3⟩ := frn_spec l j
  obtain ⟨v1, v2, v3⟩ := frn_spec l k
  rcases u3 with e | ⟨p, t, hl, hp, e⟩
  · omega
  · have : leads p k = true := by
      unfold leads at hl ⊢
      simp only [Bool.and_eq_true, decide_eq_true_eq] at hl ⊢
      omega
    have := v2 p t this hp
    omega
end Go.Proofs.Ytkamekhkkkeedaa.K
