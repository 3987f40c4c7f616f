/- HashKeys: plain. -/
import Derived.Test.YtpacbldefdggjaaPHashSums
import Derived.Test.YtpacbldefdggjaaPvput
namespace Go.Proofs.Ytpacbldefdggjaa.K
open Go.RowKit Go.Lib
set_option linter.unusedVariables false
set_option linter.unusedSimpArgs false
theorem toU8_congr {a b : Int} (h : a % 256 = b % 256) : toU8 a = toU8 b := by
  have e : ∀ c : Int, toU8 c = toU8 (c % 256) := fun c => by
    unfold toU8
    congr 1; omega
  rw [e a, e b, h]
theorem wf_okB8 {v : GValue} (h : wf_GValue v) (ht : v.Text.length ≤ 1000) : okB v := ⟨in_i64 h.N, in_u64 h.Bits, ht⟩
def keyV (p : Int) (v : GValue) : List UInt8 := if chkV v ≠ 0 then [] else toU8 p :: v.Kind :: bytesV v
theorem key_ok {p : Int} {v : GValue} (h : okB v) : m_hash_Key p v = some (keyV p v) := by
  unfold m_hash_Key keyV
  rw [vput_ok (by simp) h, obind_some]
  unfold putV
  by_cases hc : chkV v = 0
  · rw [if_neg (by simp [hc]), if_neg (by simp [hc])]; rfl
  · rw [if_pos hc, if_pos hc, decide_eq_true hc]; rfl
theorem bare_ok {p : Int} : m_telltaleref08_Bare p = some [toU8 p] := by
  unfold m_telltaleref08_Bare m_telltaleref08_Bare_j0
  have h1 : Int.tmod p 256 = p - 256 * Int.tdiv p 256 := by have := Int.tmod_add_mul_tdiv p 256; omega
  have h2 : Int.tmod p 256 < 256 := Int.tmod_lt_of_pos p (by decide)
  have h3 : -256 < Int.tmod p 256 := by
    by_cases h : 0 ≤ p
    · rw [Int.tmod_eq_emod_of_nonneg h]; omega
    · have : Int.tmod p 256 = -(Int.tmod (-p) 256) := by rw [Int.neg_tmod]; omega
      rw [this, Int.tmod_eq_emod_of_nonneg (by omega)]; omega
  generalize Int.tdiv p 256 = q at h1
  generalize Int.tmod p 256 = m at h1 h2 h3
  by_cases h : m < 0
  · rw [d_lt h, cond_true, w64 (by omega) (by omega), toU8_congr (b := p) (by omega)]
  · rw [d_nlt h, cond_false, toU8_congr (b := p) (by omega)]
theorem rkey_ok {p : Int} {v : GValue} (h : okB v) : m_telltaleref08_Key p v = some (keyV p v) := by
  unfold m_telltaleref08_Key keyV
  rw [bare_ok, obind_some, chk_ok (by simp), rvput_ok (by simp) h, obind_some]
  unfold putV
  by_cases hc : chkV v = 0
  · rw [if_neg (by simp [hc]), if_neg (by simp [hc])]; rfl
  · rw [if_pos hc, if_pos hc, decide_eq_true hc]; rfl
theorem small08 {v : GValue} (h : v.Text.length ≤ maxLen) : m_telltalelaw04_Small v = some (max 0 ((v.Text.length : Int) - 100)) := small04 h
theorem worker_ok {t : List UInt8} {n : Int} (ht : t.length ≤ 1000) (hn : n ≤ 9223372036854775807) : ∃ r, m_hash_Worker t n = some r ∧ m_telltaleref08_Worker t n = some r ∧ (1 ≤ n → 0 ≤ r ∧ r < n) ∧ (n < 1 → r = 0) := by
  unfold m_hash_Worker m_telltaleref08_Worker m_hash_Sum
  by_cases h : n < 1
  · rw [d_lt h]; exact ⟨_, rfl, rfl, fun h' => by omega, fun _ => rfl⟩
  · rw [d_nlt h, cond_false, cond_false, add08 (by omega), obind_some, obind_some, radd08 (by omega), obind_some]
    have hr : ∀ (l : List UInt8) (s : Int), 0 ≤ s ∧ s ≤ 18446744073709551615 → 0 ≤ addH s l ∧ addH s l ≤ 18446744073709551615 := by
      intro l
      induction l with
      | nil => intro s h; exact h
      | cons x l ih => intro s h; exact ih _ (wu_range _)
    obtain ⟨m, e1, e2, m1, m2⟩ := mix08 (hr t 14695981039346656037 (by decide))
    have e3 : IntKind.u64.wrap n = n := by rw [wu64]; omega
    rw [e1, obind_some, e2, obind_some, e3, chk_ok (by omega), Int.tmod_eq_emod_of_nonneg m1]
    have k1 := Int.emod_nonneg m (show n ≠ 0 by omega)
    have k2 := Int.emod_lt_of_pos m (show 0 < n by omega)
    rw [w64 (by omega) (by omega)]
    exact ⟨_, rfl, rfl, fun _ => ⟨k1, k2⟩, fun h' => absurd h' h⟩
theorem pattern_ok (t : List UInt8) : ∃ r, m_hash_Pattern t = some r ∧ m_telltaleref08_Pattern t = some r := by
  unfold m_hash_Pattern m_telltaleref08_Pattern
  cases t with
  | nil => exact ⟨_, rfl, rfl⟩
  | cons x l => exact ⟨_, rfl, rfl⟩
theorem main_HashKeys (p : GArr2_Int) (v : GValue) (t : List UInt8) (hp : wf_GArr2_Int p) (hv : wf_GValue v) (ht : t.length ≤ maxLen) : m_telltalelaw08_HashKeys p v t = some true := by
  unfold m_telltalelaw08_HashKeys
  rw [awk08, small08 hv.Text, obind_some]
  by_cases h1 : 100 < v.Text.length
  · rw [d_lt (by omega)]; rfl
  rw [d_nlt (by omega), cond_false]
  by_cases h3 : 100 < t.length
  · rw [d_lt (by omega)]; rfl
  have hk := wf_okB8 hv (by omega)
  obtain ⟨r, p1, p2⟩ := pattern_ok t
  obtain ⟨s, w1, w2, _⟩ := worker_ok (t := t) (n := p.a1) (by omega) (in_i64 hp.a1).2
  rw [d_nlt (by omega), cond_false, key_ok hk, obind_some, rkey_ok hk, obind_some, decide_eq_true rfl, cond_true, show m_hash_Bare p.a0 = some [toU8 p.a0] from rfl, obind_some, bare_ok, obind_some, decide_eq_true rfl, cond_true, p1, obind_some, p2, obind_some, decide_eq_true rfl, cond_true, w1, obind_some, w2, obind_some, decide_eq_true rfl, cond_true]
  rfl
end Go.Proofs.Ytpacbldefdggjaa.K
