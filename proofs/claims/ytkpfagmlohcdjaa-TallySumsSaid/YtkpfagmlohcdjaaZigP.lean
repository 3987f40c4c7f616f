/- Numbers of any length, plain: digits to the base 128, the lowest first; how many; how a number is folded. -/
import Derived.Lib.BitFns
namespace Go.Proofs.Ytkpfagmlohcdjaa

def zs (u : Nat) : List Nat := if u < 128 then [u] else u % 128 :: zs (u / 128)
termination_by u
decreasing_by omega
theorem zs_lt {u : Nat} (h : u < 128) : zs u = [u] := by rw [zs, if_pos h]
theorem zs_ge {u : Nat} (h : ¬ u < 128) : zs u = u % 128 :: zs (u / 128) := by rw [zs, if_neg h]
def zn (u : Nat) : Nat := (zs u).length
theorem zn_lt {u : Nat} (h : u < 128) : zn u = 1 := by rw [zn, zs_lt h]; rfl
theorem zn_ge {u : Nat} (h : ¬ u < 128) : zn u = zn (u / 128) + 1 := by rw [zn, zs_ge h]; rfl
theorem zn_pos (u : Nat) : 1 ≤ zn u := by
  by_cases h : u < 128
  · rw [zn_lt h]; exact Nat.le_refl _
  · rw [zn_ge h]; omega
theorem zs_get : ∀ (u i : Nat), i < zn u → (zs u)[i]? = some (u / 128 ^ i % 128) := by
  intro u
  induction u using Nat.strongRecOn with
  | ind u ih =>
    intro i hi
    by_cases h : u < 128
    · rw [zn_lt h] at hi
      have : i = 0 := by omega
      subst this
      rw [zs_lt h]
      simp [Nat.mod_eq_of_lt h]
    · rw [zs_ge h]
      cases i with
      | zero => simp
      | succ i =>
        rw [zn_ge h] at hi
        rw [List.getElem?_cons_succ, ih (u / 128) (by omega) i (by omega), Nat.div_div_eq_div_mul, Nat.pow_succ, Nat.mul_comm 128]
theorem zn_le (k : Nat) : ∀ u, u < 128 ^ (k + 1) → zn u ≤ k + 1 := by
  induction k with
  | zero => intro u h; rw [zn_lt (by simpa using h)]; exact Nat.le_refl _
  | succ k ih =>
    intro u h
    by_cases hu : u < 128
    · rw [zn_lt hu]; omega
    · rw [zn_ge hu]
      have := ih (u / 128) (by rw [Nat.pow_succ] at h; omega)
      omega
theorem zn_le10 (u : Nat) (h : u < 18446744073709551616) : zn u ≤ 10 := zn_le 9 u (Nat.lt_of_lt_of_le h (by decide))
theorem zn_hi (u : Nat) : u < 128 ^ zn u := by
  induction u using Nat.strongRecOn with
  | ind u ih =>
    by_cases h : u < 128
    · rw [zn_lt h]; simpa using h
    · rw [zn_ge h, Nat.pow_succ]
      have := ih (u / 128) (by omega)
      omega
theorem zn_lo (u : Nat) (h : 1 < zn u) : 128 ^ (zn u - 1) ≤ u := by
  induction u using Nat.strongRecOn with
  | ind u ih =>
    by_cases hu : u < 128
    · rw [zn_lt hu] at h; omega
    · rw [zn_ge hu, Nat.add_sub_cancel]
      by_cases h1 : 1 < zn (u / 128)
      · have := ih (u / 128) (by omega) h1
        have e : zn (u / 128) = (zn (u / 128) - 1) + 1 := by omega
        rw [e, Nat.pow_succ]
        omega
      · have := zn_pos (u / 128)
        have e : zn (u / 128) = 1 := by omega
        rw [e]; omega
/-- The program's way to count: by the bits that a number needs. -/
theorem zn_bits (u : Nat) (h : u < 18446744073709551616) : max 1 ((Lib.bitLen u + 6) / 7) = zn u := by
  induction u using Nat.strongRecOn with
  | ind u ih =>
    by_cases hu : u < 128
    · rw [zn_lt hu]
      have := Lib.bitLen_le u 7 (by omega) (by simpa using hu)
      omega
    · rw [zn_ge hu, ← ih (u / 128) (by omega) (by omega)]
      have := Lib.bitLen_shift 7 u (by simpa using (by omega : 128 ≤ u)) h
      have e : (2 : Nat) ^ 7 = 128 := rfl
      rw [e] at this
      have h0 : 1 ≤ Lib.bitLen (u / 128) := by
        have := Lib.bitLen_half (u / 128) (by omega) (by omega)
        omega
      omega

/-- The byte at a place: the last one says that there is no more. -/
def zbyte (u n i : Nat) : UInt8 := if i + 1 = n then UInt8.ofNat (u / 128 ^ i % 128) else UInt8.ofNat (u / 128 ^ i % 128 + 128)
def zb (u : Nat) : List UInt8 := (List.range (zn u)).map (zbyte u (zn u))
theorem zb_length (u : Nat) : (zb u).length = zn u := by simp [zb]

/-- Folding. -/
def zfold (n : Int) : Nat := if n < 0 then (2 * (-(n + 1)) + 1).toNat else (2 * n).toNat
def zback (u : Nat) : Int := if u % 2 = 1 then -((u / 2 : Nat) : Int) - 1 else ((u / 2 : Nat) : Int)
theorem zfold_lt (n : Int) (h0 : -9223372036854775808 ≤ n) (h1 : n ≤ 9223372036854775807) : zfold n < 18446744073709551616 := by
  unfold zfold; split <;> omega
theorem zback_fold (n : Int) : zback (zfold n) = n := by
  unfold zback zfold; split <;> split <;> omega
theorem zfold_back (u : Nat) : zfold (zback u) = u := by
  unfold zback zfold; split <;> split <;> omega
theorem zback_lo (u : Nat) (h : u < 18446744073709551616) : -9223372036854775808 ≤ zback u := by unfold zback; split <;> omega
theorem zback_hi (u : Nat) (h : u < 18446744073709551616) : zback u ≤ 9223372036854775807 := by unfold zback; split <;> omega
end Go.Proofs.Ytkpfagmlohcdjaa
