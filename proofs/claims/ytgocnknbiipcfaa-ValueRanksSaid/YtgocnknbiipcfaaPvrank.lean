/- How two values stand to one another. Plain. -/
import Derived.Test.YtgocnknbiipcfaaPval
namespace Go.Proofs.Ytgocnknbiipcfaa.K
open Go.RowKit Go.Lib
set_option linter.unusedVariables false
set_option linter.unusedSimpArgs false
def cmpI (x y : Int) : Int := if x < y then -1 else if y < x then 1 else 0
def cmpS (x y : List UInt8) : Int := if ltS x y = true then -1 else if gtS x y = true then 1 else 0
theorem compI_ok (a b : Int) : m_cmp_Compare_int a b = some (cmpI a b) := by
  unfold m_cmp_Compare_int m_cmp_isNaN_int cmpI
  by_cases h1 : a < b
  · simp [h1, obind_some]
  · by_cases h2 : b < a <;> simp [h1, h2, obind_some]
theorem comp64_ok (a b : Int) : m_cmp_Compare_uint64 a b = some (cmpI a b) := by
  unfold m_cmp_Compare_uint64 m_cmp_isNaN_uint64 cmpI
  by_cases h1 : a < b
  · simp [h1, obind_some]
  · by_cases h2 : b < a <;> simp [h1, h2, obind_some]
theorem comp8_ok (a b : UInt8) : m_cmp_Compare_uint8 a b = some (cmpI a.toNat b.toNat) := by
  unfold m_cmp_Compare_uint8 m_cmp_isNaN_uint8 cmpI
  by_cases h1 : (a.toNat : Int) < (b.toNat : Int)
  · simp [h1, obind_some]
  · by_cases h2 : (b.toNat : Int) < (a.toNat : Int) <;> simp [h1, h2, obind_some]
theorem compS_ok (a b : List UInt8) : m_cmp_Compare_string a b = some (cmpS a b) := by
  unfold m_cmp_Compare_string m_cmp_isNaN_string cmpS
  cases h1 : ltS a b <;> cases h2 : gtS a b <;> simp [obind_some]
def rnkR (c : Int) : Int := if 9223372036854775808 ≤ c then 18446744073709551615 - c else c + 9223372036854775808
theorem and_top {c : Int} (h : u64B c) : decide (IntKind.u64.wrap (((BitVec.ofInt 64 c &&& BitVec.ofInt 64 9223372036854775808).toNat : Nat) : Int) ≠ 0) = decide (9223372036854775808 ≤ c) := by
  obtain ⟨h1, h2⟩ := h
  have e : BitVec.ofInt 64 c &&& BitVec.ofInt 64 9223372036854775808 = if decide (9223372036854775808 ≤ c) = true then BitVec.twoPow 64 63 else 0#64 := by
    rw [show BitVec.ofInt 64 9223372036854775808 = BitVec.twoPow 64 63 by decide, BitVec.and_twoPow]
    have : (BitVec.ofInt 64 c).getLsbD 63 = decide (9223372036854775808 ≤ c) := by
      show (BitVec.ofInt 64 c).toNat.testBit 63 = _
      rw [Nat.testBit_eq_decide_div_mod_eq, BitVec.toNat_ofInt, Bool.eq_iff_iff, decide_eq_true_eq, decide_eq_true_eq]
      omega
    rw [this]
  rw [e]
  by_cases hc : 9223372036854775808 ≤ c
  · rw [decide_eq_true hc, if_pos rfl]; decide
  · rw [decide_eq_false hc, if_neg (by decide)]; decide
theorem not_all {c : Int} (h : u64B c) : IntKind.u64.wrap (((BitVec.ofInt 64 18446744073709551615 ^^^ BitVec.ofInt 64 c).toNat : Nat) : Int) = 18446744073709551615 - c := by
  obtain ⟨h1, h2⟩ := h
  rw [show BitVec.ofInt 64 18446744073709551615 = BitVec.allOnes 64 by decide, BitVec.xor_comm, BitVec.xor_allOnes, wu64, BitVec.toNat_not, BitVec.toNat_ofInt]
  simp only [Nat.reducePow]
  omega
theorem or_top {c : Int} (h1 : 0 ≤ c) (h2 : c < 9223372036854775808) : IntKind.u64.wrap (((BitVec.ofInt 64 c ||| BitVec.ofInt 64 9223372036854775808).toNat : Nat) : Int) = c + 9223372036854775808 := by
  have e : (BitVec.ofInt 64 c ||| BitVec.ofInt 64 9223372036854775808).toNat = 2 ^ 63 + c.toNat := by
    rw [BitVec.toNat_or, BitVec.toNat_ofInt, BitVec.toNat_ofInt]
    have : (c % ((2 ^ 64 : Nat) : Int)).toNat = c.toNat := by omega
    rw [this, Nat.or_comm]
    have := Nat.two_pow_add_eq_or_of_lt (i := 63) (b := c.toNat) (by omega) 1
    rw [Nat.mul_one] at this
    rw [this]; rfl
  rw [e, wu64]; omega
theorem rrank_real {b : Int} (h : u64B b) : m_real_Rank b = some (rnkR (clean b)) := by
  have hc := clean_u h
  unfold m_real_Rank rnkR
  rw [clean_ok h, obind_some, and_top hc]
  by_cases h1 : 9223372036854775808 ≤ clean b
  · rw [decide_eq_true h1, cond_true, if_pos h1, not_all hc]
  · rw [decide_eq_false h1, cond_false, if_neg h1, or_top hc.1 (by omega)]
theorem rrank_ref {b : Int} (h : u64B b) : m_telltaleref03_Rank b = some (rnkR (clean b)) := by
  have hc := clean_u h
  unfold m_telltaleref03_Rank m_telltaleref03_Sign rnkR
  rw [rclean_ok h, obind_some, obind_some]
  by_cases h1 : 9223372036854775808 ≤ clean b
  · rw [decide_eq_true h1, cond_true, if_pos h1, not_all hc]
  · rw [decide_eq_false h1, cond_false, if_neg h1, wu64]
    have := hc.1
    congr 1; omega
def rkV (v w : GValue) : Int :=
  if cmpI v.Kind.toNat w.Kind.toNat ≠ 0 then cmpI v.Kind.toNat w.Kind.toNat
  else if v.Kind.toNat = 1 ∨ v.Kind.toNat = 2 then cmpI v.N w.N
  else if v.Kind.toNat = 3 then cmpI (rnkR (clean v.Bits)) (rnkR (clean w.Bits))
  else if v.Kind.toNat = 4 then cmpS v.Text w.Text else 0
theorem vrank_ok {v w : GValue} (hv : u64B v.Bits) (hw : u64B w.Bits) : m_value_Rank v w = some (rkV v w) := by
  unfold m_value_Rank m_value_Rank_j1 rkV
  rw [comp8_ok, obind_some, compI_ok, rrank_real hv, rrank_real hw, compS_ok]
  simp only [obind_some, comp64_ok]
  by_cases h : cmpI v.Kind.toNat w.Kind.toNat = 0
  · have hk : v.Kind.toNat = 1 ∨ v.Kind.toNat = 2 ∨ v.Kind.toNat = 3 ∨ v.Kind.toNat = 4 ∨ (v.Kind.toNat ≠ 1 ∧ v.Kind.toNat ≠ 2 ∧ v.Kind.toNat ≠ 3 ∧ v.Kind.toNat ≠ 4) := by omega
    rw [decide_eq_false (by simp [h]), cond_false, if_neg (by simp [h])]
    rcases hk with hk | hk | hk | hk | ⟨k1, k2, k3, k4⟩
    · simp [hk]
    · simp [hk]
    · simp [hk]
    · simp [hk]
    · rw [decide_eq_false (by omega), cond_false, decide_eq_false (by omega), cond_false, decide_eq_false (by omega), cond_false, decide_eq_false (by omega), cond_false, if_neg (by omega), if_neg k3, if_neg k4]
  · rw [decide_eq_true h, cond_true, if_pos h]
theorem rvrank_ok {v w : GValue} (hv : u64B v.Bits) (hw : u64B w.Bits) : m_telltaleref04_Rank v w = some (rkV v w) := by
  unfold m_telltaleref04_Rank rkV
  rw [rrank_ref hv, rrank_ref hw]
  simp only [obind_some]
  by_cases h : v.Kind.toNat = w.Kind.toNat
  · have hz : cmpI v.Kind.toNat w.Kind.toNat = 0 := by rw [h]; simp [cmpI]
    have hk : v.Kind.toNat = 1 ∨ v.Kind.toNat = 2 ∨ v.Kind.toNat = 3 ∨ v.Kind.toNat = 4 ∨ (v.Kind.toNat ≠ 1 ∧ v.Kind.toNat ≠ 2 ∧ v.Kind.toNat ≠ 3 ∧ v.Kind.toNat ≠ 4) := by omega
    rw [decide_eq_false (by simp [h]), cond_false, if_neg (by simp [hz])]
    unfold m_telltaleref04_Rank_j2 m_telltaleref04_Rank_j3 m_telltaleref04_Rank_j4 m_telltaleref04_Rank_j6 m_telltaleref04_Rank_j7 m_telltaleref04_Rank_j8 m_telltaleref04_Rank_j10 m_telltaleref04_Rank_j11 m_telltaleref04_Rank_j12 m_telltaleref04_Rank_j14 m_telltaleref04_Rank_j15 m_telltaleref04_Rank_j16
    rcases hk with hk | hk | hk | hk | ⟨k1, k2, k3, k4⟩
    · simp only [hk, cmpI]
      by_cases h1 : v.N < w.N
      · simp [h1]
      · by_cases h2 : w.N < v.N <;> simp [h1, h2]
    · simp only [hk, cmpI]
      by_cases h1 : v.N < w.N
      · simp [h1]
      · by_cases h2 : w.N < v.N <;> simp [h1, h2]
    · simp only [hk, cmpI]
      by_cases h1 : rnkR (clean v.Bits) < rnkR (clean w.Bits)
      · simp [h1]
      · by_cases h2 : rnkR (clean w.Bits) < rnkR (clean v.Bits) <;> simp [h1, h2]
    · simp only [hk, cmpS]
      cases h1 : ltS v.Text w.Text <;> cases h2 : gtS v.Text w.Text <;> simp [h1, h2]
    · rw [decide_eq_false (p := ((v.Kind.toNat : Nat) : Int) = 1) (by omega), decide_eq_false (p := ((v.Kind.toNat : Nat) : Int) = 2) (by omega), decide_eq_false (p := ((v.Kind.toNat : Nat) : Int) = 3) (by omega), decide_eq_false (p := ((v.Kind.toNat : Nat) : Int) = 4) (by omega), if_neg (by omega), if_neg k3, if_neg k4]
      rfl
  · have hn : cmpI v.Kind.toNat w.Kind.toNat ≠ 0 := by unfold cmpI; split <;> (try split) <;> omega
    rw [decide_eq_true (by omega), cond_true, if_pos hn]
    unfold cmpI
    by_cases h1 : (v.Kind.toNat : Int) < (w.Kind.toNat : Int)
    · rw [decide_eq_true h1, if_pos h1]; rfl
    · rw [decide_eq_false h1, if_neg h1, if_pos (by omega)]; rfl
end Go.Proofs.Ytgocnknbiipcfaa.K
