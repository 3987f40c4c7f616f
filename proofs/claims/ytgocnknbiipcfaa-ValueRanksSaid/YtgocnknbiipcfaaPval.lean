/- Values: whether one may be. Plain. -/
import Derived.Test.YtgocnknbiipcfaaLM
import Derived.Test.YtgocnknbiipcfaaLp
namespace Go.Proofs.Ytgocnknbiipcfaa.K
open Go.RowKit Go.Lib
set_option linter.unusedVariables false
set_option linter.unusedSimpArgs false
/-! ### doubles -/
theorem ford_self (n : Nat) : FloatKind.f64.format.order n n = if 9218868437227405312 < n % 9223372036854775808 then none else some .eq := by
  show (Ieee.double.read n).order (Ieee.double.read n) = _
  have e1 : Ieee.double.signWeight = 9223372036854775808 := by decide
  have e2 : Ieee.double.infRung = 9218868437227405312 := by decide
  have e3 : Ieee.double.binade = 4503599627370496 := by decide
  have hc : ∀ a : Int, compare a a = .eq := fun a => by simp [compare, compareOfLessAndEq]
  unfold Ieee.Format.read
  simp only [e1, e2, e3]
  by_cases h1 : n % 9223372036854775808 < 4503599627370496
  · rw [if_pos h1, if_neg (by omega)]; simp only [Ieee.Datum.order]; rw [hc]
  · rw [if_neg h1]
    by_cases h2 : n % 9223372036854775808 < 9218868437227405312
    · rw [if_pos h2, if_neg (by omega)]; simp only [Ieee.Datum.order]; rw [hc]
    · rw [if_neg h2]
      by_cases h3 : n % 9223372036854775808 = 9218868437227405312
      · rw [if_pos h3, if_neg (by omega)]
        simp only [Ieee.Datum.order]
        simp [compare, compareOfLessAndEq]
      · rw [if_neg h3, if_pos (by omega)]; rfl
theorem fne_self (n : Nat) : fne n n = decide (9218868437227405312 < n % 9223372036854775808) := by
  unfold fne
  rw [ford_self]
  by_cases h : 9218868437227405312 < n % 9223372036854775808
  · rw [if_pos h, decide_eq_true h]; rfl
  · rw [if_neg h, decide_eq_false h]; rfl
def nan (n : Int) : Bool := decide ((n / 4503599627370496) % 2048 = 2047) && decide (n % 4503599627370496 ≠ 0)
def clean (n : Int) : Int := if nan n = true then 9221120237041090560 else n
def u64B (n : Int) : Prop := 0 ≤ n ∧ n ≤ 18446744073709551615
theorem clean_ok {n : Int} (h : u64B n) : m_real_Clean n = some (clean n) := by
  unfold m_real_Clean m_real_of clean
  obtain ⟨h1, h2⟩ := h
  rw [obind_some, fne_self]
  have : decide (9218868437227405312 < n.toNat % 9223372036854775808) = nan n := by
    unfold nan
    rw [Bool.eq_iff_iff]
    simp only [Bool.and_eq_true, decide_eq_true_eq]
    omega
  rw [this]
  cases nan n <;> rfl
theorem exp3 {n : Int} (h : u64B n) : m_telltaleref03_Exp n = some ((n / 4503599627370496) % 2048) := by
  unfold m_telltaleref03_Exp
  obtain ⟨h1, h2⟩ := h
  rw [Int.tdiv_eq_ediv_of_nonneg h1, wu64, Int.emod_eq_of_lt (by omega) (by omega), Int.tmod_eq_emod_of_nonneg (by omega), w64 (by omega) (by omega)]
theorem frac3 {n : Int} (h : u64B n) : m_telltaleref03_Frac n = some (n % 4503599627370496) := by
  unfold m_telltaleref03_Frac
  rw [Int.tmod_eq_emod_of_nonneg h.1]
theorem rclean_ok {n : Int} (h : u64B n) : m_telltaleref03_Clean n = some (clean n) := by
  have hk : ∃ k : UInt8, m_telltaleref03_Kind n = some k ∧ decide (((k.toNat : Nat) : Int) = 5) = nan n := by
    have hj : ∃ k : UInt8, m_telltaleref03_Kind_j1 n = some k ∧ ((k.toNat : Nat) : Int) ≠ 5 := by
      unfold m_telltaleref03_Kind_j1
      rw [exp3 h, frac3 h]
      simp only [obind_some]
      cases decide ((n / 4503599627370496) % 2048 = 2047)
      · cases decide ((n / 4503599627370496) % 2048 ≠ 0)
        · cases decide (n % 4503599627370496 ≠ 0)
          · exact ⟨_, rfl, by decide⟩
          · exact ⟨_, rfl, by decide⟩
        · exact ⟨_, rfl, by decide⟩
      · exact ⟨_, rfl, by decide⟩
    obtain ⟨k, hk, hn⟩ := hj
    unfold m_telltaleref03_Kind nan
    rw [exp3 h, frac3 h]
    simp only [obind_some]
    rw [hk]
    cases decide ((n / 4503599627370496) % 2048 = 2047)
    · exact ⟨k, rfl, by simpa using hn⟩
    · cases decide (n % 4503599627370496 ≠ 0)
      · exact ⟨k, rfl, by simpa using hn⟩
      · exact ⟨_, rfl, by decide⟩
  obtain ⟨k, e, q⟩ := hk
  unfold m_telltaleref03_Clean clean
  rw [e, obind_some, q]
  cases nan n <;> rfl
theorem clean_u {n : Int} (h : u64B n) : u64B (clean n) := by
  unfold clean
  split
  · exact ⟨by decide, by decide⟩
  · exact h
theorem clean_clean (n : Int) : clean (clean n) = clean n := by
  unfold clean
  cases h : nan n with
  | true => rw [if_pos rfl]; rfl
  | false => simp [h]
/-! ### may it be? -/
theorem natbeq (a b : Nat) : Nat.beq a b = decide (a = b) := by
  cases h : Nat.beq a b with
  | true => rw [decide_eq_true (Nat.eq_of_beq_eq_true h)]
  | false => rw [decide_eq_false (Nat.ne_of_beq_eq_false h)]
def chkV (v : GValue) : Int :=
  if v.Kind.toNat = 1 then (if v.N < -4611686018427387904 ∨ 4611686018427387904 < v.N then 8 else if v.Bits = 0 ∧ v.Text = [] then 0 else 2)
  else if v.Kind.toNat = 2 then (if v.N < 0 ∨ 1 < v.N then 8 else if v.Bits = 0 ∧ v.Text = [] then 0 else 2)
  else if v.Kind.toNat = 3 then (if clean v.Bits ≠ v.Bits then 4 else if v.N = 0 ∧ v.Text = [] then 0 else 2)
  else if v.Kind.toNat = 4 then (if 24 < v.Text.length then 5 else if v.N = 0 ∧ v.Bits = 0 then 0 else 2)
  else 11
theorem check_ok {v : GValue} (hb : u64B v.Bits) : m_value_Check v = some (chkV v) := by
  obtain ⟨k, n, b, t⟩ := v
  simp only at hb
  unfold m_value_Check m_value_core chkV
  simp only
  by_cases h1 : k.toNat = 1
  · rw [decide_eq_true (by omega), if_pos h1, cond_true, obind_some]
    unfold m_value_Check_j9 m_value_Check_j11 m_value_number_whole
    rw [show tasI .i64 _ (Value.iface _ (.int .i64 n)) = some (n, true) from rfl, obind_some]
    simp only [isT, inI, Nat.beq_refl, cond_true, decide_true, obind_some]
    by_cases h2 : n < -4611686018427387904
    · simp [h2]
    · by_cases h3 : 4611686018427387904 < n
      · simp [h2, h3]
      · have : ((1 : UInt8).toNat : Int) = ((k.toNat : Nat) : Int) := by rw [h1]; rfl
        by_cases h4 : b = 0
        · by_cases h5 : t = []
          · simp [h2, h3, h4, h5, h1]
          · simp [h2, h3, h4, h5, h1, Ne.symm h5]
        · simp [h2, h3, h4, h1, Ne.symm h4]
  · rw [decide_eq_false (by omega), if_neg h1, cond_false]
    by_cases h2 : k.toNat = 2
    · rw [decide_eq_true (by omega), if_pos h2, cond_true, obind_some]
      unfold m_value_Check_j9 m_value_Check_j11 m_value_flag_whole
      rw [show tasI .i64 _ (Value.iface _ (.int .i64 n)) = some (0, false) from rfl, obind_some, cond_false, show tasI .i64 _ (Value.iface _ (.int .i64 n)) = some (n, true) from rfl, obind_some]
      simp only [isT, natbeq, inI, cond_true, decide_true, obind_some]
      by_cases h3 : n < 0
      · rw [decide_eq_true (by omega), cond_true, decide_eq_true (by omega), cond_true, if_pos (.inl h3)]
      · by_cases h4 : 1 < n
        · rw [decide_eq_true (by omega), cond_true, decide_eq_true (by omega), cond_true, if_pos (.inr h4)]
        · rw [if_neg (by omega)]
          have hn : n = 0 ∨ n = 1 := by omega
          by_cases h5 : b = 0
          · by_cases h6 : t = []
            · rcases hn with rfl | rfl <;> simp [h5, h6, h2]
            · rcases hn with rfl | rfl <;> simp [h5, h6, h2, Ne.symm h6]
          · rcases hn with rfl | rfl <;> simp [h5, h2, Ne.symm h5]
    · rw [decide_eq_false (by omega), if_neg h2, cond_false]
      by_cases h3 : k.toNat = 3
      · rw [decide_eq_true (by omega), if_pos h3, cond_true, obind_some]
        unfold m_value_Check_j9 m_value_Check_j11 m_value_double_whole
        rw [show tasI .i64 _ (Value.iface _ (.int .u64 b)) = some (0, false) from rfl, obind_some, cond_false, show tasI .i64 _ (Value.iface _ (.int .u64 b)) = some (0, false) from rfl, obind_some, cond_false, show tasI .u64 _ (Value.iface _ (.int .u64 b)) = some (b, true) from rfl, obind_some, cond_true, clean_ok hb, obind_some]
        simp only [isT, natbeq, inI, decide_true, obind_some]
        by_cases h4 : clean b = b
        · rw [decide_eq_false (by simp [h4]), cond_false, if_neg (by simp [h4])]
          by_cases h5 : n = 0
          · by_cases h6 : t = []
            · simp [h5, h6, h3]
            · simp [h5, h6, h3, Ne.symm h6]
          · simp [h5, h3, Ne.symm h5]
        · rw [decide_eq_true h4, cond_true, if_pos h4]
      · rw [decide_eq_false (by omega), if_neg h3, cond_false]
        by_cases h4 : k.toNat = 4
        · rw [decide_eq_true (by omega), if_pos h4, cond_true, obind_some]
          unfold m_value_Check_j9 m_value_Check_j11 m_value_words_whole
          rw [show tasI .i64 _ (Value.iface _ (.string (toS t))) = some (0, false) from rfl, obind_some, cond_false, show tasI .i64 _ (Value.iface _ (.string (toS t))) = some (0, false) from rfl, obind_some, cond_false, show tasI .u64 _ (Value.iface _ (.string (toS t))) = some (0, false) from rfl, obind_some, cond_false, show tasS _ (Value.iface _ (.string (toS t))) = some (t, true) from rfl, obind_some, cond_true]
          simp only [isT, natbeq]
          rw [show inS (Value.iface _ (.string (toS t))) = some t from rfl, obind_some, obind_some, obind_some]
          by_cases h5 : 24 < t.length
          · rw [d_lt (by omega), cond_true, if_pos h5]
          · rw [d_nlt (by omega), cond_false, if_neg h5]
            by_cases h6 : n = 0
            · by_cases h7 : b = 0
              · simp [h6, h7, h4]
              · simp [h6, h7, h4, Ne.symm h7]
            · simp [h6, h4, Ne.symm h6]
        · rw [decide_eq_false (by omega), if_neg h4, cond_false]; rfl
theorem rcheck_ok {v : GValue} (hb : u64B v.Bits) : m_telltaleref04_Check v = some (chkV v) := by
  obtain ⟨k, n, b, t⟩ := v
  simp only at hb
  unfold m_telltaleref04_Check m_telltaleref04_Check_j2 m_telltaleref04_Check_j3 m_telltaleref04_Check_j4 m_telltaleref04_Check_j5 m_telltaleref04_Check_j7 m_telltaleref04_Check_j9 m_telltaleref04_Check_j11 m_telltaleref04_Check_j12 m_telltaleref04_Check_j13 chkV
  simp only [rclean_ok hb, obind_some]
  have hk : k.toNat = 1 ∨ k.toNat = 2 ∨ k.toNat = 3 ∨ k.toNat = 4 ∨ (k.toNat < 1 ∨ 4 < k.toNat) := by omega
  rcases hk with h | h | h | h | h
  · simp only [h]
    by_cases h2 : n < -4611686018427387904
    · simp [h2]
    · by_cases h3 : 4611686018427387904 < n
      · simp [h2, h3]
      · by_cases h4 : b = 0 <;> by_cases h5 : t = [] <;> simp [h2, h3, h4, h5]
  · simp only [h]
    by_cases h2 : n < 0
    · simp [h2]
    · by_cases h3 : 1 < n
      · simp [h2, h3]
      · by_cases h4 : b = 0 <;> by_cases h5 : t = [] <;> simp [h2, h3, h4, h5]
  · simp only [h]
    by_cases h2 : clean b = b
    · by_cases h4 : n = 0 <;> by_cases h5 : t = [] <;> simp [h2, h4, h5]
    · simp [h2]
  · simp only [h]
    by_cases h2 : 24 < t.length
    · have : (24 : Int) < (t.length : Int) := by omega
      simp [h2, this]
    · have : ¬ (24 : Int) < (t.length : Int) := by omega
      by_cases h4 : n = 0 <;> by_cases h5 : b = 0 <;> simp [h2, this, h4, h5]
  · rw [if_neg (by omega), if_neg (by omega), if_neg (by omega), if_neg (by omega)]
    rcases h with h | h
    · rw [d_lt (by omega), cond_true]
    · rw [d_nlt (by omega), cond_false, d_lt (by omega), cond_true]
end Go.Proofs.Ytgocnknbiipcfaa.K
