/- ValueRanks: plain. -/
import Derived.Test.YtgocnknbiipcfaaPvrank
import Derived.Test.YtgocnknbiipcfaaPstr
import Derived.Test.YtgocnknbiipcfaaRO
namespace Go.Proofs.Ytgocnknbiipcfaa.K
open Go.RowKit Go.Lib
set_option linter.unusedVariables false
set_option linter.unusedSimpArgs false
theorem awk04k : m_telltalelaw04_awake = some true := by decide +kernel
theorem cI_set (a b : Int) : cmpI a b = -1 ∨ cmpI a b = 0 ∨ cmpI a b = 1 := by unfold cmpI; split <;> (try split) <;> simp
theorem cI_neg (a b : Int) : cmpI b a = -cmpI a b := by unfold cmpI; split <;> split <;> omega
theorem cI_le {a b : Int} : cmpI a b ≤ 0 ↔ a ≤ b := by unfold cmpI; split <;> (try split) <;> omega
theorem cI_zero {a b : Int} : cmpI a b = 0 ↔ a = b := by unfold cmpI; split <;> (try split) <;> omega
theorem cI_lt {a b : Int} (h : a < b) : cmpI a b = -1 := by unfold cmpI; rw [if_pos h]
theorem cS_set (a b : List UInt8) : cmpS a b = -1 ∨ cmpS a b = 0 ∨ cmpS a b = 1 := by unfold cmpS; split <;> (try split) <;> simp
theorem cS_le {a b : List UInt8} : cmpS a b ≤ 0 ↔ ¬ ltS b a = true := by
  unfold cmpS
  rw [gtS_iff]
  by_cases h1 : ltS a b = true
  · rw [if_pos h1]; exact ⟨fun _ => ltS_asym h1, fun _ => by decide⟩
  · rw [if_neg h1]
    by_cases h2 : ltS b a = true
    · rw [if_pos h2]; exact ⟨fun h => absurd h (by decide), fun h => absurd h2 h⟩
    · rw [if_neg h2]; exact ⟨fun _ => h2, fun _ => by decide⟩
theorem cS_neg (a b : List UInt8) : cmpS b a = -cmpS a b := by
  unfold cmpS
  rw [gtS_iff, gtS_iff]
  by_cases h1 : ltS a b = true
  · rw [if_neg (ltS_asym h1), if_pos h1, if_pos h1]; rfl
  · rw [if_neg h1, if_neg h1]
    by_cases h2 : ltS b a = true
    · rw [if_pos h2, if_pos h2]
    · rw [if_neg h2, if_neg h2]; rfl
theorem cS_trans {a b c : List UInt8} (h1 : cmpS a b ≤ 0) (h2 : cmpS b c ≤ 0) : cmpS a c ≤ 0 := by
  rw [cS_le] at *
  intro h
  rcases ltS_tot (x := a) (y := b) with k | k | k
  · exact h2 (ltS_trans h k)
  · subst k; exact h2 h
  · exact h1 k
/-- Of one kind. -/
def inK1 (k : Nat) (v w : GValue) : Int := if k = 1 ∨ k = 2 then cmpI v.N w.N else if k = 3 then cmpI (rnkR (clean v.Bits)) (rnkR (clean w.Bits)) else if k = 4 then cmpS v.Text w.Text else 0
theorem rk_eq {v w : GValue} (h : v.Kind.toNat = w.Kind.toNat) : rkV v w = inK1 v.Kind.toNat v w := by
  unfold rkV inK1
  rw [if_neg (by rw [h, cI_zero.2 rfl]; simp)]
theorem rk_ne {v w : GValue} (h : v.Kind.toNat ≠ w.Kind.toNat) : rkV v w = cmpI v.Kind.toNat w.Kind.toNat := by
  unfold rkV
  rw [if_pos (fun e => h (by have := cI_zero.1 e; omega))]
theorem k1_set (k : Nat) (v w : GValue) : inK1 k v w = -1 ∨ inK1 k v w = 0 ∨ inK1 k v w = 1 := by
  unfold inK1
  split
  · exact cI_set _ _
  · split
    · exact cI_set _ _
    · split
      · exact cS_set _ _
      · exact .inr (.inl rfl)
theorem k1_neg (k : Nat) (v w : GValue) : inK1 k w v = -inK1 k v w := by
  unfold inK1
  split
  · exact cI_neg _ _
  · split
    · exact cI_neg _ _
    · split
      · exact cS_neg _ _
      · rfl
theorem k1_trans {k : Nat} {a b c : GValue} (h1 : inK1 k a b ≤ 0) (h2 : inK1 k b c ≤ 0) : inK1 k a c ≤ 0 := by
  unfold inK1 at *
  split at h1
  · rename_i h
    rw [if_pos h] at h2 ⊢
    rw [cI_le] at *; omega
  · rename_i h
    rw [if_neg h] at h2 ⊢
    split at h1
    · rename_i h
      rw [if_pos h] at h2 ⊢
      rw [cI_le] at *; omega
    · rename_i h
      rw [if_neg h] at h2 ⊢
      split at h1
      · rename_i h
        rw [if_pos h] at h2 ⊢
        exact cS_trans h1 h2
      · rename_i h
        rw [if_neg h]
        decide
theorem rkV_set (v w : GValue) : rkV v w = -1 ∨ rkV v w = 0 ∨ rkV v w = 1 := by
  by_cases h : v.Kind.toNat = w.Kind.toNat
  · rw [rk_eq h]; exact k1_set _ _ _
  · rw [rk_ne h]; exact cI_set _ _
theorem rkV_neg (v w : GValue) : rkV w v = -rkV v w := by
  by_cases h : v.Kind.toNat = w.Kind.toNat
  · rw [rk_eq h, rk_eq h.symm, ← h]; exact k1_neg _ _ _
  · rw [rk_ne h, rk_ne (Ne.symm h)]; exact cI_neg _ _
theorem rk_kind {v w : GValue} (h : rkV v w ≤ 0) : v.Kind.toNat ≤ w.Kind.toNat := by
  by_cases e : v.Kind.toNat = w.Kind.toNat
  · omega
  · rw [rk_ne e, cI_le] at h; omega
theorem rkV_trans {a b c : GValue} (h1 : rkV a b ≤ 0) (h2 : rkV b c ≤ 0) : rkV a c ≤ 0 := by
  have k1 := rk_kind h1
  have k2 := rk_kind h2
  by_cases e : a.Kind.toNat = c.Kind.toNat
  · have e1 : a.Kind.toNat = b.Kind.toNat := by omega
    have e2 : b.Kind.toNat = c.Kind.toNat := by omega
    rw [rk_eq e1] at h1
    rw [rk_eq e2, ← e1] at h2
    rw [rk_eq e]
    exact k1_trans h1 h2
  · rw [rk_ne e, cI_le]; omega
theorem small04k {v : GValue} (h : v.Text.length ≤ maxLen) : m_telltalelaw04_Small v = some (max 0 ((v.Text.length : Int) - 100)) := by
  unfold m_telltalelaw04_Small
  have := maxLen_le h
  rw [w64 (by omega) (by omega)]
theorem ranks_end {l : GArr3_GValue} (h0 : u64B l.a0.Bits) (h1 : u64B l.a1.Bits) (h2 : u64B l.a2.Bits) (fu : Nat) : m_telltalelaw04_ValueRanks_l0 l (fu + 1) 3 = some true := by
  unfold m_telltalelaw04_ValueRanks_l0
  have s1 := rkV_set l.a0 l.a1
  have n1 := rkV_neg l.a0 l.a1
  have n0 := rkV_neg l.a0 l.a0
  have n2 := rkV_neg l.a1 l.a2
  have n3 := rkV_neg l.a0 l.a2
  have t1 := @rkV_trans l.a0 l.a1 l.a2
  have t2 := @rkV_trans l.a2 l.a0 l.a1
  rw [d_nlt (by decide), cond_false, vrank_ok h0 h1, vrank_ok h1 h2, vrank_ok h0 h2, vrank_ok h1 h0, vrank_ok h0 h0, awk04k]
  simp only [obind_some]
  rw [n1, w64 (by omega) (by omega)]
  generalize rkV l.a0 l.a1 = x at *
  generalize rkV l.a1 l.a2 = y at *
  generalize rkV l.a0 l.a2 = z at *
  rw [decide_eq_true (by omega), cond_true, decide_eq_true (by omega), cond_true, decide_eq_true (by omega), cond_true, decide_eq_true (by omega), cond_true]
  by_cases a1 : 0 < x
  · rw [decide_eq_true a1]; rfl
  · rw [decide_eq_false a1, cond_false, cond_false]
    by_cases a2 : 0 < y
    · rw [decide_eq_true a2, cond_true, decide_eq_true (by omega), cond_true]
    · rw [decide_eq_false a2, cond_false, decide_eq_true (by have := t1 (by omega) (by omega); omega), cond_true]
      by_cases a3 : 0 ≤ y
      · rw [decide_eq_true a3, cond_true]
      · rw [decide_eq_false a3, cond_false, decide_eq_true, cond_true]
        apply Classical.byContradiction
        intro hz
        have := t2 (by omega) (by omega)
        omega
theorem main_ValueRanks (l : GArr3_GValue) (h : wf_GArr3_GValue l) : m_telltalelaw04_ValueRanks l = some true := by
  unfold m_telltalelaw04_ValueRanks
  have e := ranks_end (l := l) (in_u64 h.a0.Bits) (in_u64 h.a1.Bits) (in_u64 h.a2.Bits)
  have step : ∀ fu, m_telltalelaw04_ValueRanks_l0 l (fu + 1 + 1 + 1 + 1) 0 = some true := fun fu => by
    unfold m_telltalelaw04_ValueRanks_l0 m_telltalelaw04_ValueRanks_j3
    dsimp only
    rw [d_lt (by decide), cond_true, decide_eq_true (by decide), cond_true, small04k h.a0.Text, obind_some, awk04k]
    by_cases h0 : 100 < l.a0.Text.length
    · rw [d_lt (by omega), cond_true]; rfl
    rw [d_nlt (by omega), cond_false, show IntKind.i64.wrap (0 + 1) = 1 by decide]
    unfold m_telltalelaw04_ValueRanks_l0 m_telltalelaw04_ValueRanks_j3
    dsimp only
    rw [d_lt (by decide), cond_true, decide_eq_false (by decide), cond_false, decide_eq_true (by decide), cond_true, small04k h.a1.Text, obind_some, awk04k]
    by_cases h1 : 100 < l.a1.Text.length
    · rw [d_lt (by omega), cond_true]; rfl
    rw [d_nlt (by omega), cond_false, show IntKind.i64.wrap (1 + 1) = 2 by decide]
    unfold m_telltalelaw04_ValueRanks_l0 m_telltalelaw04_ValueRanks_j3
    dsimp only
    rw [d_lt (by decide), cond_true, decide_eq_false (by decide), cond_false, decide_eq_false (by decide), cond_false, decide_eq_true (by decide), cond_true, small04k h.a2.Text, obind_some, awk04k]
    by_cases h2 : 100 < l.a2.Text.length
    · rw [d_lt (by omega), cond_true]; rfl
    rw [d_nlt (by omega), cond_false, show IntKind.i64.wrap (2 + 1) = 3 by decide]
    exact e fu
  exact step 1152921504606846972
end Go.Proofs.Ytgocnknbiipcfaa.K
