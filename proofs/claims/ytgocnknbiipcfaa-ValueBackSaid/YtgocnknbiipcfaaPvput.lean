/- A value's bytes. Plain. -/
import Derived.Test.YtgocnknbiipcfaaPzig
import Derived.Test.YtgocnknbiipcfaaPval
namespace Go.Proofs.Ytgocnknbiipcfaa.K
open Go.RowKit Go.Lib
set_option linter.unusedVariables false
set_option linter.unusedSimpArgs false
/-- A number's k bytes, the highest first. -/
def beB : Nat → Nat → List UInt8
  | 0, _ => []
  | k + 1, u => beB k (u / 256) ++ [UInt8.ofNat (u % 256)]
theorem beB_len : ∀ k u, (beB k u).length = k
  | 0, _ => rfl
  | k + 1, u => by rw [beB, List.length_append, beB_len k]; rfl
theorem toU8_mod {u : Nat} : toU8 (u : Int) = UInt8.ofNat (u % 256) := by
  apply UInt8.toNat_inj.1; rw [toU8_nat, UInt8.toNat_ofNat']; omega
theorem set_mid {b t : List UInt8} {k : Nat} {x : UInt8} : (b ++ (List.replicate (k + 1) 0 ++ t)).set (b.length + k) x = b ++ (List.replicate k 0 ++ x :: t) := by
  rw [List.set_append_right _ _ (by omega), Nat.add_sub_cancel_left, List.replicate_succ', List.append_assoc, List.set_append_right _ _ (by simp)]
  simp
theorem lay_l {b : List UInt8} (hb : b.length ≤ 100000000) : ∀ (k fu u : Nat) (t : List UInt8), k + t.length = 8 → k < fu → u < 18446744073709551616 → m_octet_lay_l1 8 fu (b ++ (List.replicate k 0 ++ t)) (u : Int) ((b.length : Int) + k - 1) = some (b ++ (beB k u ++ t))
  | k, 0, _, _, _, h, _ => by omega
  | 0, fu + 1, u, t, ht, _, hu => by
    unfold m_octet_lay_l1
    rw [w64 (n := ((List.length (b ++ (List.replicate 0 0 ++ t)) : Nat) : Int) - 8) (by simp; omega) (by simp; omega), decide_eq_false (by simp; omega), cond_false]; rfl
  | k + 1, fu + 1, u, t, ht, hf, hu => by
    unfold m_octet_lay_l1
    have hlt : b.length + k < (b ++ (List.replicate (k + 1) 0 ++ t)).length := by simp; omega
    rw [w64 (n := ((List.length (b ++ (List.replicate (k + 1) 0 ++ t)) : Nat) : Int) - 8) (by simp; omega) (by simp; omega), decide_eq_true (by simp; omega), cond_true, show (b.length : Int) + ((k + 1 : Nat) : Int) - 1 = ((b.length + k : Nat) : Int) by omega, geti_lt hlt, obind_some, Int.toNat_natCast, set_mid, toU8_mod, Int.fdiv_eq_ediv_of_nonneg _ (by decide), show (2 : Int) ^ 8 = 256 from rfl, w64 (by omega) (by omega), show (u : Int) / 256 = ((u / 256 : Nat) : Int) by omega, show ((b.length + k : Nat) : Int) - 1 = (b.length : Int) + (k : Int) - 1 by omega]
    rw [lay_l hb k fu (u / 256) (UInt8.ofNat (u % 256) :: t) (by simp; omega) (by omega) (by omega), beB, List.append_assoc]; rfl
theorem word_ok {b : List UInt8} {u : Nat} (hb : b.length ≤ 100000000) (h : u < 18446744073709551616) : m_octet_Word b (u : Int) = some (b ++ beB 8 u) := by
  unfold m_octet_Word m_octet_grown m_octet_lay
  rw [w64 (by omega) (by omega), show mkl (((List.length b : Nat) : Int) + 8) (0 : UInt8) = some (List.replicate (b.length + 8) 0) by
    unfold mkl; rw [if_pos ⟨by omega, by omega⟩]
    congr 2]
  rw [obind_some, show cpy (List.replicate (b.length + 8) (0 : UInt8)) b = some (b ++ (List.replicate 8 0 ++ [])) by
    unfold cpy
    rw [if_pos (by simp)]
    simp]
  rw [obind_some, obind_some, w64 (by simp; omega) (by simp; omega)]
  have := lay_l hb 8 1152921504606846976 u [] (by simp) (by omega) h
  have e : List.length (b ++ (List.replicate 8 (0 : UInt8) ++ [])) = b.length + 8 := by simp
  rw [e, show ((b.length + 8 : Nat) : Int) - 1 = (b.length : Int) + ((8 : Nat) : Int) - 1 by omega, this, obind_some, List.append_nil]
theorem rword_l {b : List UInt8} (hb : b.length ≤ 100000000) : ∀ (k fu u : Nat) (t : List UInt8), k + t.length = 8 → k < fu → u < 18446744073709551616 → m_telltaleref01_Word_l0 b fu (u : Int) t (8 - (k : Int)) = some (b ++ (beB k u ++ t))
  | k, 0, _, _, _, h, _ => by omega
  | 0, fu + 1, u, t, ht, _, hu => by
    unfold m_telltaleref01_Word_l0
    rw [d_nlt (by omega), cond_false, app_ok (by simp; omega), obind_some, List.nil_append, app_ok (by omega), obind_some]; rfl
  | k + 1, fu + 1, u, t, ht, hf, hu => by
    unfold m_telltaleref01_Word_l0
    rw [d_lt (by omega), cond_true, Int.tmod_eq_emod_of_nonneg (by omega), show (u : Int) % 256 = ((u % 256 : Nat) : Int) by omega, toU8_mod, Nat.mod_mod, app_ok (by simp; omega), obind_some, Int.tdiv_eq_ediv_of_nonneg (by omega), wu64, show (u : Int) / 256 = ((u / 256 : Nat) : Int) by omega, Int.emod_eq_of_lt (by omega) (by omega), w64 (by omega) (by omega), show (8 : Int) - ((k + 1 : Nat) : Int) + 1 = 8 - (k : Int) by omega]
    rw [rword_l hb k fu (u / 256) _ (by simp; omega) (by omega) (by omega), beB, List.append_assoc]
theorem rword_ok {b : List UInt8} {u : Nat} (hb : b.length ≤ 100000000) (h : u < 18446744073709551616) : m_telltaleref01_Word b (u : Int) = some (b ++ beB 8 u) := by
  unfold m_telltaleref01_Word
  have := rword_l hb 8 1152921504606846976 u [] (by simp) (by omega) h
  rw [List.append_nil] at this; exact this
/-- A value's bytes. -/
def bytesV (v : GValue) : List UInt8 :=
  if v.Kind.toNat = 1 then zb (zfold v.N) else if v.Kind.toNat = 2 then [toU8 v.N] else if v.Kind.toNat = 3 then beB 8 v.Bits.toNat else zb v.Text.length ++ v.Text
def putV (b : List UInt8) (v : GValue) : List UInt8 × Int := if chkV v ≠ 0 then ([], chkV v) else (b ++ v.Kind :: bytesV v, 0)
theorem chk_range (v : GValue) : v.Kind.toNat = 1 ∨ v.Kind.toNat = 2 ∨ v.Kind.toNat = 3 ∨ v.Kind.toNat = 4 ∨ chkV v = 11 := by
  unfold chkV
  by_cases h1 : v.Kind.toNat = 1
  · exact .inl h1
  by_cases h2 : v.Kind.toNat = 2
  · exact .inr (.inl h2)
  by_cases h3 : v.Kind.toNat = 3
  · exact .inr (.inr (.inl h3))
  by_cases h4 : v.Kind.toNat = 4
  · exact .inr (.inr (.inr (.inl h4)))
  · rw [if_neg h1, if_neg h2, if_neg h3, if_neg h4]; simp
structure okB (v : GValue) : Prop where
  N : -9223372036854775808 ≤ v.N ∧ v.N ≤ 9223372036854775807
  B : u64B v.Bits
  T : v.Text.length ≤ 1000
theorem vput_ok {b : List UInt8} {v : GValue} (hb : b.length ≤ 1000000) (h : okB v) : m_value_Put b v = some (putV b v) := by
  obtain ⟨hN, hB, hT⟩ := h
  unfold m_value_Put putV
  rw [check_ok hB, obind_some]
  by_cases hc : chkV v = 0
  · rw [decide_eq_false (by simp [hc]), cond_false, if_neg (by simp [hc])]
    rw [w64 (n := ((List.length b : Nat) : Int) + 1) (by omega) (by omega), show mkc ((List.length b : Nat) : Int) (((List.length b : Nat) : Int) + 1) (0 : UInt8) = some (List.replicate b.length 0) by
      unfold mkc; rw [if_pos ⟨by omega, by omega, by omega⟩]; congr 2]
    rw [obind_some, show cpy (List.replicate b.length (0 : UInt8)) b = some b by
      unfold cpy
      rw [if_pos (by simp)]
      simp]
    rw [obind_some, app_ok (by simp; omega), obind_some]
    unfold bytesV
    by_cases k1 : v.Kind.toNat = 1
    · rw [decide_eq_true (by omega), cond_true, if_pos k1, putint_ok (by simp; omega) hN.1 hN.2, obind_some, List.append_assoc]; rfl
    rw [decide_eq_false (by omega), cond_false, if_neg k1]
    by_cases k2 : v.Kind.toNat = 2
    · rw [decide_eq_true (by omega), cond_true, if_pos k2, app_ok (by simp; omega), obind_some, List.append_assoc]; rfl
    rw [decide_eq_false (by omega), cond_false, if_neg k2]
    by_cases k3 : v.Kind.toNat = 3
    · have e : v.Bits = ((v.Bits.toNat : Nat) : Int) := by have := hB.1; omega
      rw [decide_eq_true (by omega), cond_true, if_pos k3, e, word_ok (by simp; omega) (by have := hB.2; omega), obind_some, List.append_assoc, Int.toNat_natCast]; rfl
    rw [decide_eq_false (by omega), cond_false, if_neg k3]
    have hz := zn_le10 v.Text.length (by omega)
    have hzl := zb_length v.Text.length
    rw [wu64, Int.emod_eq_of_lt (by omega) (by omega), put_ok (by simp; omega) (by omega), obind_some, app_ok (by simp; omega), obind_some, List.append_assoc, List.append_assoc]; rfl
  · rw [decide_eq_true (by simp [hc]), cond_true, if_pos (by simp [hc])]
theorem rvput_ok {b : List UInt8} {v : GValue} (hb : b.length ≤ 1000000) (h : okB v) : m_telltaleref04_Put b v = some (putV b v) := by
  obtain ⟨hN, hB, hT⟩ := h
  unfold m_telltaleref04_Put putV
  rw [rcheck_ok hB, obind_some]
  by_cases hc : chkV v = 0
  · rw [decide_eq_false (by simp [hc]), cond_false, if_neg (by simp [hc])]
    rw [app_ok (by simp; omega), obind_some, List.nil_append, app_ok (by simp; omega), obind_some]
    unfold bytesV
    by_cases k1 : v.Kind.toNat = 1
    · rw [decide_eq_true (by omega), cond_true, if_pos k1, rfold_ok hN.1 hN.2, obind_some, rput_ok (by simp; omega) (zfold_lt _ hN.1 hN.2), obind_some, List.append_assoc]; rfl
    rw [decide_eq_false (by omega), cond_false, if_neg k1]
    by_cases k2 : v.Kind.toNat = 2
    · rw [decide_eq_true (by omega), cond_true, if_pos k2, app_ok (by simp; omega), obind_some, List.append_assoc]; rfl
    rw [decide_eq_false (by omega), cond_false, if_neg k2]
    by_cases k3 : v.Kind.toNat = 3
    · have e : v.Bits = ((v.Bits.toNat : Nat) : Int) := by have := hB.1; omega
      rw [decide_eq_true (by omega), cond_true, if_pos k3, e, rword_ok (by simp; omega) (by have := hB.2; omega), obind_some, List.append_assoc, Int.toNat_natCast]; rfl
    rw [decide_eq_false (by omega), cond_false, if_neg k3]
    have hz := zn_le10 v.Text.length (by omega)
    have hzl := zb_length v.Text.length
    rw [wu64, Int.emod_eq_of_lt (by omega) (by omega), rput_ok (by simp; omega) (by omega), obind_some, app_ok (by simp; omega), obind_some, List.append_assoc, List.append_assoc]; rfl
  · rw [decide_eq_true (by simp [hc]), cond_true, if_pos (by simp [hc])]
theorem small04 {v : GValue} (h : v.Text.length ≤ maxLen) : m_telltalelaw04_Small v = some (max 0 ((v.Text.length : Int) - 100)) := by
  unfold m_telltalelaw04_Small
  have := maxLen_le h
  rw [w64 (by omega) (by omega)]
end Go.Proofs.Ytgocnknbiipcfaa.K
