/- Merged: ZigP ZigK Pval Pzig Pztake Pvput Pvtake Pzdec Pvback. -/
import Derived.Lib.BitFns
import Derived.Test.YtbgioanegbipgaaLM
import Derived.Test.YtbgioanegbipgaaLp
namespace Go.Proofs.Ytbgioanegbipgaa

def zs (u : Nat) : List Nat := if u < 128 then [u] else u % 128 :: zs (u / 128)
termination_by u
decreasing_by omega
theorem zs_lt {u : Nat} (h : u < 128) : zs u = [u] := by rw [zs, if_pos h]
theorem zs_ge {u : Nat} (h : ¬ u < 128) : zs u = u % 128 :: zs (u / 128) := by rw [zs, if_neg h]
def zn (u : Nat) : Nat := (zs u).length
theorem zn_lt {u : Nat} (h : u < 128) : zn u = 1 := by rw [zn, zs_lt h]; rfl
theorem zn_ge {u : Nat} (h : ¬ u < 128) : zn u = zn (u / 128) + 1 := by rw [zn, zs_ge h]; rfl
theorem zn_pos (u : Nat) : 1 ≤ zn u := by
  by_cases h : u < 128
  · rw [zn_lt h]; exact Nat.le_refl _
  · rw [zn_ge h]; omega
theorem zs_get : ∀ (u i : Nat), i < zn u → (zs u)[i]? = some (u / 128 ^ i % 128) := by
  intro u
  induction u using Nat.strongRecOn with
  | ind u ih =>
    intro i hi
    by_cases h : u < 128
    · rw [zn_lt h] at hi
      have : i = 0 := by omega
      subst this
      rw [zs_lt h]
      simp [Nat.mod_eq_of_lt h]
    · rw [zs_ge h]
      cases i with
      | zero => simp
      | succ i =>
        rw [zn_ge h] at hi
        rw [List.getElem?_cons_succ, ih (u / 128) (by omega) i (by omega), Nat.div_div_eq_div_mul, Nat.pow_succ, Nat.mul_comm 128]
theorem zn_le (k : Nat) : ∀ u, u < 128 ^ (k + 1) → zn u ≤ k + 1 := by
  induction k with
  | zero => intro u h; rw [zn_lt (by simpa using h)]; exact Nat.le_refl _
  | succ k ih =>
    intro u h
    by_cases hu : u < 128
    · rw [zn_lt hu]; omega
    · rw [zn_ge hu]
      have := ih (u / 128) (by rw [Nat.pow_succ] at h; omega)
      omega
theorem zn_le10 (u : Nat) (h : u < 18446744073709551616) : zn u ≤ 10 := zn_le 9 u (Nat.lt_of_lt_of_le h (by decide))
theorem zn_hi (u : Nat) : u < 128 ^ zn u := by
  induction u using Nat.strongRecOn with
  | ind u ih =>
    by_cases h : u < 128
    · rw [zn_lt h]; simpa using h
    · rw [zn_ge h, Nat.pow_succ]
      have := ih (u / 128) (by omega)
      omega
theorem zn_lo (u : Nat) (h : 1 < zn u) : 128 ^ (zn u - 1) ≤ u := by
  induction u using Nat.strongRecOn with
  | ind u ih =>
    by_cases hu : u < 128
    · rw [zn_lt hu] at h; omega
    · rw [zn_ge hu, Nat.add_sub_cancel]
      by_cases h1 : 1 < zn (u / 128)
      · have := ih (u / 128) (by omega) h1
        have e : zn (u / 128) = (zn (u / 128) - 1) + 1 := by omega
        rw [e, Nat.pow_succ]
        omega
      · have := zn_pos (u / 128)
        have e : zn (u / 128) = 1 := by omega
        rw [e]; omega
/-- The program's way to count: by the bits that a number needs. -/
theorem zn_bits (u : Nat) (h : u < 18446744073709551616) : max 1 ((Lib.bitLen u + 6) / 7) = zn u := by
  induction u using Nat.strongRecOn with
  | ind u ih =>
    by_cases hu : u < 128
    · rw [zn_lt hu]
      have := Lib.bitLen_le u 7 (by omega) (by simpa using hu)
      omega
    · rw [zn_ge hu, ← ih (u / 128) (by omega) (by omega)]
      have := Lib.bitLen_shift 7 u (by simpa using (by omega : 128 ≤ u)) h
      have e : (2 : Nat) ^ 7 = 128 := rfl
      rw [e] at this
      have h0 : 1 ≤ Lib.bitLen (u / 128) := by
        have := Lib.bitLen_half (u / 128) (by omega) (by omega)
        omega
      omega

/-- The byte at a place: the last one says that there is no more. -/
def zbyte (u n i : Nat) : UInt8 := if i + 1 = n then UInt8.ofNat (u / 128 ^ i % 128) else UInt8.ofNat (u / 128 ^ i % 128 + 128)
def zb (u : Nat) : List UInt8 := (List.range (zn u)).map (zbyte u (zn u))
theorem zb_length (u : Nat) : (zb u).length = zn u := by simp [zb]

/-- Folding. -/
def zfold (n : Int) : Nat := if n < 0 then (2 * (-(n + 1)) + 1).toNat else (2 * n).toNat
def zback (u : Nat) : Int := if u % 2 = 1 then -((u / 2 : Nat) : Int) - 1 else ((u / 2 : Nat) : Int)
theorem zfold_lt (n : Int) (h0 : -9223372036854775808 ≤ n) (h1 : n ≤ 9223372036854775807) : zfold n < 18446744073709551616 := by
  unfold zfold; split <;> omega
theorem zback_fold (n : Int) : zback (zfold n) = n := by
  unfold zback zfold; split <;> split <;> omega
theorem zfold_back (u : Nat) : zfold (zback u) = u := by
  unfold zback zfold; split <;> split <;> omega
theorem zback_lo (u : Nat) (h : u < 18446744073709551616) : -9223372036854775808 ≤ zback u := by unfold zback; split <;> omega
theorem zback_hi (u : Nat) (h : u < 18446744073709551616) : zback u ≤ 9223372036854775807 := by unfold zback; split <;> omega
end Go.Proofs.Ytbgioanegbipgaa
namespace Go.Proofs.Ytbgioanegbipgaa
set_option linter.unusedVariables false
/-- A number read off bytes, from place i on, u being what was read: the number, the place behind it, the error. -/
def tk (l : List UInt8) : Nat → Nat → Nat → Nat × Nat × Nat
  | 0, _, _ => (0, 0, 8)
  | f + 1, i, u => match l[i]? with
    | none => (0, 0, 3)
    | some c => if i = 9 ∧ 1 < c.toNat then (0, 0, 8) else if 0 < i ∧ c.toNat = 0 then (0, 0, 4) else
      if c.toNat < 128 then (u + c.toNat % 128 * 128 ^ i, i + 1, 0) else tk l f (i + 1) (u + c.toNat % 128 * 128 ^ i)
/-- The same from a place of a text. -/
def ztk (l : List UInt8) (a : Int) : Nat × Nat × Nat :=
  if a < 0 ∨ (l.length : Int) < a then (0, 0, 2) else
    let r := tk (l.drop a.toNat) 10 0 0
    (r.1, if r.2.2 = 0 then a.toNat + r.2.1 else 0, r.2.2)
def zgo (l : List UInt8) (a : Nat) (r : Nat × Nat × Nat) : Nat × Nat × Nat := (r.1, if r.2.2 = 0 then a + r.2.1 else 0, r.2.2)

theorem mul_in {v k c : Nat} (hv : v < 128 ^ k) (hk : k ≤ 9) (hc : c < 256) (h9 : k = 9 → c ≤ 1) : v + c % 128 * 128 ^ k < 18446744073709551616 ∧ v + c % 128 * 128 ^ k < 128 ^ (k + 1) := by
  have h128 : (128 : Nat) ^ k ≤ 128 ^ 9 := Nat.pow_le_pow_right (by decide) hk
  have e9 : (128 : Nat) ^ 9 = 9223372036854775808 := by decide
  refine ⟨?_, ?_⟩
  · by_cases hk9 : k = 9
    · subst hk9; have := h9 rfl; rw [e9] at *; omega
    · have h8 : (128 : Nat) ^ k ≤ 128 ^ 8 := Nat.pow_le_pow_right (by decide) (by omega)
      have e8 : (128 : Nat) ^ 8 = 72057594037927936 := by decide
      have h2 : c % 128 * 128 ^ k ≤ 127 * 128 ^ 8 := Nat.mul_le_mul (by omega) h8
      rw [e8] at h2; omega
  · rw [Nat.pow_succ]
    have : c % 128 * 128 ^ k ≤ 127 * 128 ^ k := (Nat.mul_le_mul_right _ (by omega))
    omega
theorem tk_lt (l : List UInt8) : ∀ (f i u : Nat), f + i = 10 → u < 128 ^ i → (tk l f i u).1 < 18446744073709551616
  | 0, _, _, _, _ => by simp [tk]
  | f + 1, i, u, h, hu => by
    rw [tk]
    cases l[i]? with
    | none => simp
    | some c =>
      simp only
      split
      · simp
      · split
        · simp
        · rename_i h1 h2
          have hc : c.toNat < 256 := UInt8.toNat_lt _
          have := mul_in hu (by omega) hc (by omega)
          split
          · exact this.1
          · exact tk_lt l f (i + 1) _ (by omega) this.2
theorem ztk_lt (l : List UInt8) (a : Int) : (ztk l a).1 < 18446744073709551616 := by
  unfold ztk
  split
  · decide
  · exact tk_lt _ 10 0 0 rfl (by decide)
theorem tk_err (l : List UInt8) : ∀ (f i u : Nat), (tk l f i u).2.2 ≠ 0 → (tk l f i u).1 = 0
  | 0, _, _, _ => by simp [tk]
  | f + 1, i, u, h => by
    rw [tk] at h ⊢
    cases hl : l[i]? with
    | none => rfl
    | some c =>
      rw [hl] at h
      simp only at h ⊢
      split at h
      · rw [if_pos ‹_›]
      · rw [if_neg ‹_›]
        split at h
        · rw [if_pos ‹_›]
        · rw [if_neg ‹_›]
          split at h
          · exact absurd rfl h
          · rw [if_neg ‹_›]; exact tk_err l f _ _ h
theorem ztk_err (l : List UInt8) (a : Int) (h : (ztk l a).2.2 ≠ 0) : (ztk l a).1 = 0 := by
  unfold ztk at h ⊢
  split
  · rfl
  · rename_i h1
    rw [if_neg h1] at h
    exact tk_err _ _ _ _ h
theorem zbyte_last {u n k : Nat} (h : k + 1 = n) : ((zbyte u n k).toNat : Int) = ((u / 128 ^ k % 128 : Nat) : Int) := by
  unfold zbyte; rw [if_pos h, UInt8.toNat_ofNat']; omega
theorem zbyte_more {u n k : Nat} (h : ¬ k + 1 = n) : ((zbyte u n k).toNat : Int) = ((u / 128 ^ k % 128 + 128 : Nat) : Int) := by
  unfold zbyte; rw [if_neg h, UInt8.toNat_ofNat']; omega
theorem zb_get (u : Nat) {i : Nat} (h : i < zn u) : (zb u)[i]? = some (zbyte u (zn u) i) := by
  simp [zb, h]
theorem zbyte_toNat_last {u n k : Nat} (h : k + 1 = n) : (zbyte u n k).toNat = u / 128 ^ k % 128 := by
  have := zbyte_last (u := u) h; omega
theorem zbyte_toNat_more {u n k : Nat} (h : ¬ k + 1 = n) : (zbyte u n k).toNat = u / 128 ^ k % 128 + 128 := by
  have := zbyte_more (u := u) h; omega
theorem digit_join (u k : Nat) : u % 128 ^ k + u / 128 ^ k % 128 * 128 ^ k = u % 128 ^ (k + 1) := by
  rw [Nat.pow_succ, Nat.mod_mul, Nat.mul_comm (128 ^ k)]
/-- Reading on, k bytes of u having been read. -/
theorem tk_zb (u : Nat) (hu : u < 18446744073709551616) (l : List UInt8) (hl : ∀ i, i < zn u → l[i]? = some (zbyte u (zn u) i)) :
    ∀ (m k : Nat), m + k = zn u → 0 < m → tk l (10 - k) k (u % 128 ^ k) = (u, zn u, 0) := by
  intro m
  induction m with
  | zero => intro k _ h; omega
  | succ m ih =>
    intro k hk _
    have h10 := zn_le10 u hu
    have hkn : k < zn u := by omega
    rw [show 10 - k = (9 - k) + 1 by omega, tk, hl k hkn]
    simp only
    have h9 : k = 9 → u / 128 ^ k % 128 ≤ 1 := by
      rintro rfl
      have e9 : (128 : Nat) ^ 9 = 9223372036854775808 := by decide
      rw [e9]; omega
    by_cases hlast : k + 1 = zn u
    · rw [zbyte_toNat_last hlast]
      have hlt : u / 128 ^ k < 128 := by
        have := zn_hi u
        rw [← hlast, Nat.pow_succ, Nat.mul_comm] at this
        exact Nat.div_lt_of_lt_mul (by rwa [Nat.mul_comm] at this)
      have hmod : u / 128 ^ k % 128 = u / 128 ^ k := Nat.mod_eq_of_lt hlt
      rw [if_neg (by rintro ⟨h1, h2⟩; have := h9 h1; omega), if_neg, if_pos (by omega)]
      · rw [hmod, hmod]
        have := Nat.mod_add_div u (128 ^ k)
        rw [Nat.mul_comm] at this
        rw [this, hlast]
      · rintro ⟨h1, h2⟩
        have := zn_lo u (by omega)
        rw [show zn u - 1 = k by omega] at this
        have h3 : 1 ≤ u / 128 ^ k := (Nat.le_div_iff_mul_le (Nat.pow_pos (by decide))).2 (by rw [Nat.one_mul]; exact this)
        omega
    · rw [zbyte_toNat_more hlast]
      have hd := Nat.mod_lt (u / 128 ^ k) (show 0 < 128 by decide)
      rw [if_neg (by rintro ⟨h1, h2⟩; subst h1; omega), if_neg (by omega), if_neg (by omega)]
      have e : (u / 128 ^ k % 128 + 128) % 128 = u / 128 ^ k % 128 := by omega
      rw [e, digit_join, show 9 - k = 10 - (k + 1) by omega]
      exact ih (k + 1) (by omega) (by omega)
theorem tk_put (u : Nat) (hu : u < 18446744073709551616) (r : List UInt8) : tk (zb u ++ r) 10 0 0 = (u, zn u, 0) := by
  have := tk_zb u hu (zb u ++ r) (fun i hi => by rw [List.getElem?_append_left (by rw [zb_length]; exact hi)]; exact zb_get u hi) (zn u) 0 rfl (zn_pos u)
  rw [Nat.sub_zero, Nat.pow_zero, Nat.mod_one] at this
  exact this
/-- A byte less is told. -/
theorem tk_cut (u : Nat) (hu : u < 18446744073709551616) (l : List UInt8) (hlen : l.length = zn u - 1) (hl : ∀ i, i < zn u - 1 → l[i]? = some (zbyte u (zn u) i)) :
    ∀ (m k : Nat), m + k = zn u → 0 < m → tk l (10 - k) k (u % 128 ^ k) = (0, 0, 3) := by
  intro m
  induction m with
  | zero => intro k _ h; omega
  | succ m ih =>
    intro k hk _
    have h10 := zn_le10 u hu
    have hkn : k < zn u := by omega
    rw [show 10 - k = (9 - k) + 1 by omega, tk]
    by_cases hlast : k + 1 = zn u
    · rw [List.getElem?_eq_none (by omega)]
    · rw [hl k (by omega)]
      simp only
      rw [zbyte_toNat_more hlast]
      have hd := Nat.mod_lt (u / 128 ^ k) (show 0 < 128 by decide)
      rw [if_neg (by rintro ⟨h1, h2⟩; subst h1; omega), if_neg (by omega), if_neg (by omega)]
      have e : (u / 128 ^ k % 128 + 128) % 128 = u / 128 ^ k % 128 := by omega
      rw [e, digit_join, show 9 - k = 10 - (k + 1) by omega]
      exact ih (k + 1) (by omega) (by omega)
theorem tk_short (u : Nat) (hu : u < 18446744073709551616) : tk ((zb u).take (zn u - 1)) 10 0 0 = (0, 0, 3) := by
  have hp := zn_pos u
  have := tk_cut u hu ((zb u).take (zn u - 1)) (by rw [List.length_take, zb_length]; omega) (fun i hi => by rw [List.getElem?_take, if_pos hi]; exact zb_get u (by omega)) (zn u) 0 rfl hp
  rw [Nat.sub_zero, Nat.pow_zero, Nat.mod_one] at this
  exact this
theorem zn_eq {u k : Nat} (h1 : u < 128 ^ (k + 1)) (h2 : k = 0 ∨ 128 ^ k ≤ u) : zn u = k + 1 := by
  have h3 := zn_le k u h1
  have h4 := zn_pos u
  rcases h2 with rfl | h2
  · omega
  · rcases Nat.lt_or_ge k (zn u) with h5 | h5
    · omega
    · have h6 := zn_hi u
      have h7 : 128 ^ zn u ≤ 128 ^ k := Nat.pow_le_pow_right (by decide) h5
      omega
/-- What is read has just these bytes. -/
theorem tk_back (l : List UInt8) : ∀ (f k v u n : Nat), f + k = 10 → v < 128 ^ k → tk l f k v = (u, n, 0) →
    k < n ∧ n ≤ l.length ∧ u % 128 ^ k = v ∧ zn u = n ∧ ∀ i, k ≤ i → i < n → l[i]? = some (zbyte u n i)
  | 0, k, v, u, n, _, _, h => by simp [tk] at h
  | f + 1, k, v, u, n, hf, hv, h => by
    rw [tk] at h
    cases hl : l[k]? with
    | none => rw [hl] at h; simp at h
    | some c =>
      rw [hl] at h
      simp only at h
      have hlen : k < l.length := (List.getElem?_eq_some_iff.1 hl).1
      have hc : c.toNat < 256 := UInt8.toNat_lt _
      split at h
      · simp at h
      · split at h
        · simp at h
        · rename_i h1 h2
          have hmul := mul_in hv (by omega) hc (by omega)
          have hpos : 0 < 128 ^ k := Nat.pow_pos (by decide)
          split at h
          · rename_i h3
            have hm : c.toNat % 128 = c.toNat := Nat.mod_eq_of_lt h3
            rw [hm] at h hmul
            simp only [Prod.mk.injEq] at h
            obtain ⟨rfl, rfl, _⟩ := h
            have hdiv : (v + c.toNat * 128 ^ k) / 128 ^ k = c.toNat := by
              rw [Nat.add_mul_div_right _ _ hpos, Nat.div_eq_of_lt hv, Nat.zero_add]
            have hzn : zn (v + c.toNat * 128 ^ k) = k + 1 := by
              refine zn_eq hmul.2 ?_
              by_cases hk0 : k = 0
              · exact .inl hk0
              · right
                have : 1 * 128 ^ k ≤ c.toNat * 128 ^ k := Nat.mul_le_mul_right _ (by omega)
                omega
            refine ⟨by omega, by omega, by rw [Nat.add_mul_mod_self_right, Nat.mod_eq_of_lt hv], hzn, fun i hi1 hi2 => ?_⟩
            obtain rfl : i = k := by omega
            rw [hl]
            congr 1
            apply UInt8.toNat_inj.1
            rw [zbyte_toNat_last rfl, hdiv, hm]
          · rename_i h3
            obtain ⟨h4, h5, h6, h7, h8⟩ := tk_back l f (k + 1) _ u n (by omega) hmul.2 h
            have h9 : u % 128 ^ k = v := by
              have := congrArg (fun x => x % 128 ^ k) h6
              rw [Nat.pow_succ, Nat.mod_mul_right_mod, Nat.add_mul_mod_self_right, Nat.mod_eq_of_lt hv] at this
              exact this
            refine ⟨by omega, h5, h9, h7, fun i hi1 hi2 => ?_⟩
            by_cases hik : i = k
            · subst hik
              rw [hl]
              congr 1
              apply UInt8.toNat_inj.1
              rw [zbyte_toNat_more (by omega)]
              have h10 := digit_join u i
              rw [h9, h6] at h10
              have h11 : u / 128 ^ i % 128 = c.toNat % 128 := Nat.eq_of_mul_eq_mul_right hpos (by omega)
              omega
            · exact h8 i (by omega) hi2
theorem tk_bytes {l : List UInt8} {u n : Nat} (h : tk l 10 0 0 = (u, n, 0)) : n ≤ l.length ∧ l.take n = zb u := by
  obtain ⟨_, h2, _, h4, h5⟩ := tk_back l 10 0 0 u n rfl (by decide) h
  refine ⟨h2, List.ext_getElem? fun i => ?_⟩
  by_cases hi : i < n
  · rw [List.getElem?_take, if_pos hi, h5 i (by omega) hi, zb_get u (by omega), h4]
  · rw [List.getElem?_eq_none (by rw [List.length_take]; omega), List.getElem?_eq_none (by rw [zb_length]; omega)]
/-- At a place of a text. -/
theorem ztk_at {a r : List UInt8} {p : Nat} (hp : p = a.length) : ztk (a ++ r) (p : Int) = zgo (a ++ r) p (tk r 10 0 0) := by
  subst hp
  unfold ztk
  rw [if_neg (by simp; omega)]
  simp [zgo]
end Go.Proofs.Ytbgioanegbipgaa
namespace Go.Proofs.Ytbgioanegbipgaa.K
open Go.RowKit Go.Lib
set_option linter.unusedVariables false
set_option linter.unusedSimpArgs false
/-! ### doubles -/
theorem ford_self (n : Nat) : FloatKind.f64.format.order n n = if 9218868437227405312 < n % 9223372036854775808 then none else some .eq := by
  show (Ieee.double.read n).order (Ieee.double.read n) = _
  have e1 : Ieee.double.signWeight = 9223372036854775808 := by decide
  have e2 : Ieee.double.infRung = 9218868437227405312 := by decide
  have e3 : Ieee.double.binade = 4503599627370496 := by decide
  have hc : ∀ a : Int, compare a a = .eq := fun a => by simp [compare, compareOfLessAndEq]
  unfold Ieee.Format.read
  simp only [e1, e2, e3]
  by_cases h1 : n % 9223372036854775808 < 4503599627370496
  · rw [if_pos h1, if_neg (by omega)]; simp only [Ieee.Datum.order]; rw [hc]
  · rw [if_neg h1]
    by_cases h2 : n % 9223372036854775808 < 9218868437227405312
    · rw [if_pos h2, if_neg (by omega)]; simp only [Ieee.Datum.order]; rw [hc]
    · rw [if_neg h2]
      by_cases h3 : n % 9223372036854775808 = 9218868437227405312
      · rw [if_pos h3, if_neg (by omega)]
        simp only [Ieee.Datum.order]
        simp [compare, compareOfLessAndEq]
      · rw [if_neg h3, if_pos (by omega)]; rfl
theorem fne_self (n : Nat) : fne n n = decide (9218868437227405312 < n % 9223372036854775808) := by
  unfold fne
  rw [ford_self]
  by_cases h : 9218868437227405312 < n % 9223372036854775808
  · rw [if_pos h, decide_eq_true h]; rfl
  · rw [if_neg h, decide_eq_false h]; rfl
def nan (n : Int) : Bool := decide ((n / 4503599627370496) % 2048 = 2047) && decide (n % 4503599627370496 ≠ 0)
def clean (n : Int) : Int := if nan n = true then 9221120237041090560 else n
def u64B (n : Int) : Prop := 0 ≤ n ∧ n ≤ 18446744073709551615
theorem clean_ok {n : Int} (h : u64B n) : m_real_Clean n = some (clean n) := by
  unfold m_real_Clean m_real_of clean
  obtain ⟨h1, h2⟩ := h
  rw [obind_some, fne_self]
  have : decide (9218868437227405312 < n.toNat % 9223372036854775808) = nan n := by
    unfold nan
    rw [Bool.eq_iff_iff]
    simp only [Bool.and_eq_true, decide_eq_true_eq]
    omega
  rw [this]
  cases nan n <;> rfl
theorem exp3 {n : Int} (h : u64B n) : m_telltaleref03_Exp n = some ((n / 4503599627370496) % 2048) := by
  unfold m_telltaleref03_Exp
  obtain ⟨h1, h2⟩ := h
  rw [Int.tdiv_eq_ediv_of_nonneg h1, wu64, Int.emod_eq_of_lt (by omega) (by omega), Int.tmod_eq_emod_of_nonneg (by omega), w64 (by omega) (by omega)]
theorem frac3 {n : Int} (h : u64B n) : m_telltaleref03_Frac n = some (n % 4503599627370496) := by
  unfold m_telltaleref03_Frac
  rw [Int.tmod_eq_emod_of_nonneg h.1]
theorem rclean_ok {n : Int} (h : u64B n) : m_telltaleref03_Clean n = some (clean n) := by
  have hk : ∃ k : UInt8, m_telltaleref03_Kind n = some k ∧ decide (((k.toNat : Nat) : Int) = 5) = nan n := by
    have hj : ∃ k : UInt8, m_telltaleref03_Kind_j1 n = some k ∧ ((k.toNat : Nat) : Int) ≠ 5 := by
      unfold m_telltaleref03_Kind_j1
      rw [exp3 h, frac3 h]
      simp only [obind_some]
      cases decide ((n / 4503599627370496) % 2048 = 2047)
      · cases decide ((n / 4503599627370496) % 2048 ≠ 0)
        · cases decide (n % 4503599627370496 ≠ 0)
          · exact ⟨_, rfl, by decide⟩
          · exact ⟨_, rfl, by decide⟩
        · exact ⟨_, rfl, by decide⟩
      · exact ⟨_, rfl, by decide⟩
    obtain ⟨k, hk, hn⟩ := hj
    unfold m_telltaleref03_Kind nan
    rw [exp3 h, frac3 h]
    simp only [obind_some]
    rw [hk]
    cases decide ((n / 4503599627370496) % 2048 = 2047)
    · exact ⟨k, rfl, by simpa using hn⟩
    · cases decide (n % 4503599627370496 ≠ 0)
      · exact ⟨k, rfl, by simpa using hn⟩
      · exact ⟨_, rfl, by decide⟩
  obtain ⟨k, e, q⟩ := hk
  unfold m_telltaleref03_Clean clean
  rw [e, obind_some, q]
  cases nan n <;> rfl
theorem clean_u {n : Int} (h : u64B n) : u64B (clean n) := by
  unfold clean
  split
  · exact ⟨by decide, by decide⟩
  · exact h
theorem clean_clean (n : Int) : clean (clean n) = clean n := by
  unfold clean
  cases h : nan n with
  | true => rw [if_pos rfl]; rfl
  | false => simp [h]
/-! ### may it be? -/
theorem natbeq (a b : Nat) : Nat.beq a b = decide (a = b) := by
  cases h : Nat.beq a b with
  | true => rw [decide_eq_true (Nat.eq_of_beq_eq_true h)]
  | false => rw [decide_eq_false (Nat.ne_of_beq_eq_false h)]
def chkV (v : GValue) : Int :=
  if v.Kind.toNat = 1 then (if v.N < -4611686018427387904 ∨ 4611686018427387904 < v.N then 8 else if v.Bits = 0 ∧ v.Text = [] then 0 else 2)
  else if v.Kind.toNat = 2 then (if v.N < 0 ∨ 1 < v.N then 8 else if v.Bits = 0 ∧ v.Text = [] then 0 else 2)
  else if v.Kind.toNat = 3 then (if clean v.Bits ≠ v.Bits then 4 else if v.N = 0 ∧ v.Text = [] then 0 else 2)
  else if v.Kind.toNat = 4 then (if 24 < v.Text.length then 5 else if v.N = 0 ∧ v.Bits = 0 then 0 else 2)
  else 11
theorem check_ok {v : GValue} (hb : u64B v.Bits) : m_value_Check v = some (chkV v) := by
  obtain ⟨k, n, b, t⟩ := v
  simp only at hb
  unfold m_value_Check m_value_core chkV
  simp only
  by_cases h1 : k.toNat = 1
  · rw [decide_eq_true (by omega), if_pos h1, cond_true, obind_some]
    unfold m_value_Check_j9 m_value_Check_j11 m_value_number_whole
    rw [show tasI .i64 _ (Value.iface _ (.int .i64 n)) = some (n, true) from rfl, obind_some]
    simp only [isT, inI, Nat.beq_refl, cond_true, decide_true, obind_some]
    by_cases h2 : n < -4611686018427387904
    · simp [h2]
    · by_cases h3 : 4611686018427387904 < n
      · simp [h2, h3]
      · have : ((1 : UInt8).toNat : Int) = ((k.toNat : Nat) : Int) := by rw [h1]; rfl
        by_cases h4 : b = 0
        · by_cases h5 : t = []
          · simp [h2, h3, h4, h5, h1]
          · simp [h2, h3, h4, h5, h1, Ne.symm h5]
        · simp [h2, h3, h4, h1, Ne.symm h4]
  · rw [decide_eq_false (by omega), if_neg h1, cond_false]
    by_cases h2 : k.toNat = 2
    · rw [decide_eq_true (by omega), if_pos h2, cond_true, obind_some]
      unfold m_value_Check_j9 m_value_Check_j11 m_value_flag_whole
      rw [show tasI .i64 _ (Value.iface _ (.int .i64 n)) = some (0, false) from rfl, obind_some, cond_false, show tasI .i64 _ (Value.iface _ (.int .i64 n)) = some (n, true) from rfl, obind_some]
      simp only [isT, natbeq, inI, cond_true, decide_true, obind_some]
      by_cases h3 : n < 0
      · rw [decide_eq_true (by omega), cond_true, decide_eq_true (by omega), cond_true, if_pos (.inl h3)]
      · by_cases h4 : 1 < n
        · rw [decide_eq_true (by omega), cond_true, decide_eq_true (by omega), cond_true, if_pos (.inr h4)]
        · rw [if_neg (by omega)]
          have hn : n = 0 ∨ n = 1 := by omega
          by_cases h5 : b = 0
          · by_cases h6 : t = []
            · rcases hn with rfl | rfl <;> simp [h5, h6, h2]
            · rcases hn with rfl | rfl <;> simp [h5, h6, h2, Ne.symm h6]
          · rcases hn with rfl | rfl <;> simp [h5, h2, Ne.symm h5]
    · rw [decide_eq_false (by omega), if_neg h2, cond_false]
      by_cases h3 : k.toNat = 3
      · rw [decide_eq_true (by omega), if_pos h3, cond_true, obind_some]
        unfold m_value_Check_j9 m_value_Check_j11 m_value_double_whole
        rw [show tasI .i64 _ (Value.iface _ (.int .u64 b)) = some (0, false) from rfl, obind_some, cond_false, show tasI .i64 _ (Value.iface _ (.int .u64 b)) = some (0, false) from rfl, obind_some, cond_false, show tasI .u64 _ (Value.iface _ (.int .u64 b)) = some (b, true) from rfl, obind_some, cond_true, clean_ok hb, obind_some]
        simp only [isT, natbeq, inI, decide_true, obind_some]
        by_cases h4 : clean b = b
        · rw [decide_eq_false (by simp [h4]), cond_false, if_neg (by simp [h4])]
          by_cases h5 : n = 0
          · by_cases h6 : t = []
            · simp [h5, h6, h3]
            · simp [h5, h6, h3, Ne.symm h6]
          · simp [h5, h3, Ne.symm h5]
        · rw [decide_eq_true h4, cond_true, if_pos h4]
      · rw [decide_eq_false (by omega), if_neg h3, cond_false]
        by_cases h4 : k.toNat = 4
        · rw [decide_eq_true (by omega), if_pos h4, cond_true, obind_some]
          unfold m_value_Check_j9 m_value_Check_j11 m_value_words_whole
          rw [show tasI .i64 _ (Value.iface _ (.string (toS t))) = some (0, false) from rfl, obind_some, cond_false, show tasI .i64 _ (Value.iface _ (.string (toS t))) = some (0, false) from rfl, obind_some, cond_false, show tasI .u64 _ (Value.iface _ (.string (toS t))) = some (0, false) from rfl, obind_some, cond_false, show tasS _ (Value.iface _ (.string (toS t))) = some (t, true) from rfl, obind_some, cond_true]
          simp only [isT, natbeq]
          rw [show inS (Value.iface _ (.string (toS t))) = some t from rfl, obind_some, obind_some, obind_some]
          by_cases h5 : 24 < t.length
          · rw [d_lt (by omega), cond_true, if_pos h5]
          · rw [d_nlt (by omega), cond_false, if_neg h5]
            by_cases h6 : n = 0
            · by_cases h7 : b = 0
              · simp [h6, h7, h4]
              · simp [h6, h7, h4, Ne.symm h7]
            · simp [h6, h4, Ne.symm h6]
        · rw [decide_eq_false (by omega), if_neg h4, cond_false]; rfl
theorem rcheck_ok {v : GValue} (hb : u64B v.Bits) : m_telltaleref04_Check v = some (chkV v) := by
  obtain ⟨k, n, b, t⟩ := v
  simp only at hb
  unfold m_telltaleref04_Check m_telltaleref04_Check_j2 m_telltaleref04_Check_j3 m_telltaleref04_Check_j4 m_telltaleref04_Check_j5 m_telltaleref04_Check_j7 m_telltaleref04_Check_j9 m_telltaleref04_Check_j11 m_telltaleref04_Check_j12 m_telltaleref04_Check_j13 chkV
  simp only [rclean_ok hb, obind_some]
  have hk : k.toNat = 1 ∨ k.toNat = 2 ∨ k.toNat = 3 ∨ k.toNat = 4 ∨ (k.toNat < 1 ∨ 4 < k.toNat) := by omega
  rcases hk with h | h | h | h | h
  · simp only [h]
    by_cases h2 : n < -4611686018427387904
    · simp [h2]
    · by_cases h3 : 4611686018427387904 < n
      · simp [h2, h3]
      · by_cases h4 : b = 0 <;> by_cases h5 : t = [] <;> simp [h2, h3, h4, h5]
  · simp only [h]
    by_cases h2 : n < 0
    · simp [h2]
    · by_cases h3 : 1 < n
      · simp [h2, h3]
      · by_cases h4 : b = 0 <;> by_cases h5 : t = [] <;> simp [h2, h3, h4, h5]
  · simp only [h]
    by_cases h2 : clean b = b
    · by_cases h4 : n = 0 <;> by_cases h5 : t = [] <;> simp [h2, h4, h5]
    · simp [h2]
  · simp only [h]
    by_cases h2 : 24 < t.length
    · have : (24 : Int) < (t.length : Int) := by omega
      simp [h2, this]
    · have : ¬ (24 : Int) < (t.length : Int) := by omega
      by_cases h4 : n = 0 <;> by_cases h5 : b = 0 <;> simp [h2, this, h4, h5]
  · rw [if_neg (by omega), if_neg (by omega), if_neg (by omega), if_neg (by omega)]
    rcases h with h | h
    · rw [d_lt (by omega), cond_true]
    · rw [d_nlt (by omega), cond_false, d_lt (by omega), cond_true]
end Go.Proofs.Ytbgioanegbipgaa.K
namespace Go.Proofs.Ytbgioanegbipgaa.K
open Go.RowKit Go.Lib
set_option linter.unusedVariables false
set_option linter.unusedSimpArgs false
theorem tbl_bind {y : Int} {l : List UInt8} {f : UInt8 → Option Int} {r : Option Int} (hl : ∀ k : Fin 256, (l[k.val]?).map (·.toNat) = some (Lib.bitLen k.val)) (h1 : 0 ≤ y) (h2 : y < 256) (hf : ∀ x : UInt8, x.toNat = Lib.bitLen y.toNat → f x = r) : Option.bind (geti l (((toU8 y).toNat : Nat) : Int)) f = r := by
  have e : (toU8 y).toNat = y.toNat := by
    unfold toU8
    rw [UInt8.toNat_ofNat']
    omega
  rw [e, geti_nat]
  have := hl ⟨y.toNat, by omega⟩
  dsimp only at this
  cases hx : l[y.toNat]? with
  | none => rw [hx] at this; cases this
  | some x => rw [hx] at this; exact hf x (by simpa using this)
theorem l64_j2 {y0 y2 : Int} (h1 : 0 ≤ y0) (h2 : y0 < 256) (h3 : 0 ≤ y2) (h4 : y2 ≤ 1000) : m_math_bits_Len64_j2 y0 y2 = some (y2 + ((Lib.bitLen y0.toNat : Nat) : Int)) := by
  unfold m_math_bits_Len64_j2
  refine tbl_bind ?_ h1 h2 fun x q => ?_
  · decide +kernel
  · have := Lib.bitLen_le8 ⟨y0.toNat, by omega⟩
    dsimp only at this
    rw [q, w64 (by omega) (by omega)]
theorem l64_j1 {y0 y2 : Int} (h1 : 0 ≤ y0) (h2 : y0 < 65536) (h3 : 0 ≤ y2) (h4 : y2 ≤ 900) : m_math_bits_Len64_j1 y0 y2 = some (y2 + ((Lib.bitLen y0.toNat : Nat) : Int)) := by
  unfold m_math_bits_Len64_j1
  by_cases h : 256 ≤ y0
  · rw [decide_eq_true h, cond_true, Int.fdiv_eq_ediv_of_nonneg _ (by decide), show (2 : Int) ^ 8 = 256 from rfl, w64 (by omega) (by omega), l64_j2 (by omega) (by omega) (by omega) (by omega)]
    have := Lib.bitLen_shift8 y0.toNat (by omega) (by omega)
    rw [show (y0 / 256).toNat = y0.toNat / 256 by omega, this]
    congr 1; omega
  · rw [decide_eq_false h, cond_false, l64_j2 h1 (by omega) h3 (by omega)]
theorem l64_j0 {y0 y2 : Int} (h1 : 0 ≤ y0) (h2 : y0 < 4294967296) (h3 : 0 ≤ y2) (h4 : y2 ≤ 800) : m_math_bits_Len64_j0 y0 y2 = some (y2 + ((Lib.bitLen y0.toNat : Nat) : Int)) := by
  unfold m_math_bits_Len64_j0
  by_cases h : 65536 ≤ y0
  · rw [decide_eq_true h, cond_true, Int.fdiv_eq_ediv_of_nonneg _ (by decide), show (2 : Int) ^ 16 = 65536 from rfl, w64 (by omega) (by omega), l64_j1 (by omega) (by omega) (by omega) (by omega)]
    have := Lib.bitLen_shift16 y0.toNat (by omega) (by omega)
    rw [show (y0 / 65536).toNat = y0.toNat / 65536 by omega, this]
    congr 1; omega
  · rw [decide_eq_false h, cond_false, l64_j1 h1 (by omega) h3 (by omega)]
theorem len64_ok {u : Nat} (h : u < 18446744073709551616) : m_math_bits_Len64 (u : Int) = some ((Lib.bitLen u : Nat) : Int) := by
  unfold m_math_bits_Len64
  by_cases hh : 4294967296 ≤ u
  · rw [decide_eq_true (by omega), cond_true, Int.fdiv_eq_ediv_of_nonneg _ (by decide), show (2 : Int) ^ 32 = 4294967296 from rfl, l64_j0 (by omega) (by omega) (by omega) (by omega)]
    have := Lib.bitLen_shift32 u (by omega) (by omega)
    rw [show ((u : Int) / 4294967296).toNat = u / 4294967296 by omega, this]
    congr 1
  · rw [decide_eq_false (by omega), cond_false, l64_j0 (by omega) (by omega) (by omega) (by omega)]
    congr 1; rw [Int.toNat_natCast]; omega
theorem bitLen_64 {u : Nat} (h : u < 18446744073709551616) : Lib.bitLen u ≤ 64 := Lib.bitLen_le u 64 (by omega) (by simpa using h)
theorem size_ok {u : Nat} (h : u < 18446744073709551616) : m_zig_Size (u : Int) = some ((zn u : Nat) : Int) := by
  unfold m_zig_Size
  have hb := bitLen_64 h
  rw [len64_ok h, obind_some, w64 (n := ((Lib.bitLen u : Nat) : Int) + 7) (by omega) (by omega), w64 (n := ((Lib.bitLen u : Nat) : Int) + 7 - 1) (by omega) (by omega), Int.tdiv_eq_ediv_of_nonneg (by omega), w64 (by omega) (by omega), ← zn_bits u h]
  congr 1; omega
theorem or128 (x : UInt8) : toU8 (((BitVec.ofInt 8 ((x.toNat : Nat) : Int) ||| BitVec.ofInt 8 128).toNat : Nat) : Int) = UInt8.ofNat (x.toNat % 128 + 128) := by
  have : ∀ k : Fin 256, toU8 (((BitVec.ofInt 8 ((k.val : Nat) : Int) ||| BitVec.ofInt 8 128).toNat : Nat) : Int) = UInt8.ofNat (k.val % 128 + 128) := by decide +kernel
  exact this ⟨x.toNat, x.toNat_lt⟩
theorem not128 (x : UInt8) : toU8 (((BitVec.ofInt 8 ((x.toNat : Nat) : Int) &&& ~~~ BitVec.ofInt 8 128).toNat : Nat) : Int) = UInt8.ofNat (x.toNat % 128) := by
  have : ∀ k : Fin 256, toU8 (((BitVec.ofInt 8 ((k.val : Nat) : Int) &&& ~~~ BitVec.ofInt 8 128).toNat : Nat) : Int) = UInt8.ofNat (k.val % 128) := by decide +kernel
  exact this ⟨x.toNat, x.toNat_lt⟩
theorem toU8_nat (n : Nat) : (toU8 (n : Int)).toNat = n % 256 := by unfold toU8; rw [UInt8.toNat_ofNat']; omega
theorem sh7 (u i : Nat) : Int.fdiv (u : Int) (2 ^ (Int.toNat (((7 * i : Nat)) : Int))) = ((u / 128 ^ i : Nat) : Int) := by
  rw [Int.toNat_natCast, Int.fdiv_eq_ediv_of_nonneg _ (Int.pow_nonneg (by decide))]
  rw [show (128 : Nat) ^ i = 2 ^ (7 * i) by rw [Nat.pow_mul]]
  rw [Int.natCast_ediv]; congr 1
theorem put_ok {b : List UInt8} {u : Nat} (hb : b.length ≤ 100000000) (h : u < 18446744073709551616) : m_zig_Put b (u : Int) = some (b ++ zb u) := by
  have hn := zn_le10 u h
  have hp := zn_pos u
  unfold m_zig_Put
  rw [size_ok h, obind_some, w64 (by omega) (by omega), show mkc 0 (((List.length b : Nat) : Int) + ((zn u : Nat) : Int)) (0 : UInt8) = some [] by
    unfold mkc; rw [if_pos ⟨by omega, by omega, by omega⟩]; rfl]
  rw [obind_some, app_ok (by simp; omega), obind_some, List.nil_append]
  have := loopG_0 (L := fun fu s i => m_zig_Put_l3 (u : Int) ((zn u : Nat) : Int) fu s i) (n := zn u) (P := fun i s o => s.length ≤ b.length + i → o = some (s ++ ((List.range (zn u)).drop i).map (zbyte u (zn u)))) (by omega)
    (fun fu s hs => by
      unfold m_zig_Put_l3
      rw [d_nlt (by omega), cond_false, List.drop_of_length_le (by simp)]; simp)
    (fun fu s i hi ih hs => by
      unfold m_zig_Put_l3 m_zig_Put_j5
      have hr : (List.range (zn u)).drop i = i :: (List.range (zn u)).drop (i + 1) := by
        rw [List.drop_eq_getElem_cons (by simpa using hi), List.getElem_range]
      rw [d_lt (by omega), cond_true, w64 (n := 7 * (i : Int)) (by omega) (by omega), show 7 * (i : Int) = ((7 * i : Nat) : Int) by omega, chk_ok (by omega), sh7, or128, obind_some, not128, w64 (n := ((zn u : Nat) : Int) - 1) (by omega) (by omega), inc_ok (by omega), app_ok (by simp; omega), obind_some, app_ok (by simp; omega), obind_some]
      dsimp only
      rw [ih _ (by simp; omega), ih _ (by simp; omega), hr, List.map_cons]
      have e1 : (toU8 ((u / 128 ^ i : Nat) : Int)).toNat % 128 = u / 128 ^ i % 128 := by rw [toU8_nat]; omega
      rw [e1]
      unfold zbyte
      by_cases hl : i + 1 = zn u
      · rw [decide_eq_true (by omega), cond_true, if_pos hl, List.append_assoc]
        have : (UInt8.ofNat (u / 128 ^ i % 128 + 128)).toNat % 128 = u / 128 ^ i % 128 := by rw [UInt8.toNat_ofNat']; omega
        rw [this]; rfl
      · rw [decide_eq_false (by omega), cond_false, if_neg hl, List.append_assoc]; rfl) b (by omega)
  rw [this]; rfl
/-! ### the document's -/
theorem sevens_l (k : Nat) : ∀ (fu v : Nat) (s : List Int), v < 18446744073709551616 → v < 128 ^ k → k < fu → s.length + k ≤ 1000 → m_telltaleref02_sevens_l1 fu (v : Int) s = some (s ++ if v = 0 then [] else (zs v).map fun (n : Nat) => (n : Int)) := by
  induction k with
  | zero =>
    intro fu v s h1 h2 h4 h3
    obtain ⟨fu, rfl⟩ : ∃ f, fu = f + 1 := ⟨fu - 1, by omega⟩
    obtain rfl : v = 0 := by simp at h2; exact h2
    unfold m_telltaleref02_sevens_l1
    rw [d_nlt (by omega), cond_false, if_pos rfl, List.append_nil]
  | succ k ih =>
    intro fu v s h1 h2 h4 h3
    obtain ⟨fu, rfl⟩ : ∃ f, fu = f + 1 := ⟨fu - 1, by omega⟩
    unfold m_telltaleref02_sevens_l1
    by_cases h0 : v = 0
    · subst h0; rw [d_nlt (by omega), cond_false, if_pos rfl, List.append_nil]
    · rw [d_lt (by omega), cond_true, Int.tmod_eq_emod_of_nonneg (by omega), w64 (by omega) (by omega), app_ok (by simp; omega), obind_some, Int.tdiv_eq_ediv_of_nonneg (by omega), wu64, Int.emod_eq_of_lt (by omega) (by omega), show (v : Int) / 128 = ((v / 128 : Nat) : Int) by omega, show (v : Int) % 128 = ((v % 128 : Nat) : Int) by omega]
      rw [ih fu (v / 128) _ (by omega) (by rw [Nat.pow_succ] at h2; exact Nat.div_lt_of_lt_mul (by rw [Nat.mul_comm]; exact h2)) (by omega) (by simp; omega), if_neg h0, List.append_assoc]
      congr 2
      by_cases hv : v < 128
      · rw [if_pos (by omega), zs_lt hv, Nat.mod_eq_of_lt hv]; rfl
      · rw [if_neg (by omega), zs_ge hv]; rfl
theorem sevens_ok {u : Nat} (h : u < 18446744073709551616) : m_telltaleref02_sevens (u : Int) = some ((zs u).map fun (n : Nat) => (n : Int)) := by
  unfold m_telltaleref02_sevens
  rw [Int.tmod_eq_emod_of_nonneg (by omega), w64 (by omega) (by omega), Int.tdiv_eq_ediv_of_nonneg (by omega), wu64, Int.emod_eq_of_lt (by omega) (by omega), show (u : Int) / 128 = ((u / 128 : Nat) : Int) by omega, show (u : Int) % 128 = ((u % 128 : Nat) : Int) by omega]
  rw [sevens_l 10 _ _ _ (by omega) (by omega) (by omega) (by simp)]
  congr 1
  by_cases hv : u < 128
  · rw [if_pos (by omega), zs_lt hv, Nat.mod_eq_of_lt hv]; rfl
  · rw [if_neg (by omega), zs_ge hv]; rfl
theorem rput_ok {b : List UInt8} {u : Nat} (hb : b.length ≤ 100000000) (h : u < 18446744073709551616) : m_telltaleref02_Put b (u : Int) = some (b ++ zb u) := by
  have hn := zn_le10 u h
  have hp := zn_pos u
  unfold m_telltaleref02_Put
  rw [app_ok (by simp; omega), obind_some, sevens_ok h, obind_some, List.nil_append]
  have hlen : ((zs u).map fun (n : Nat) => (n : Int)).length = zn u := by rw [List.length_map]; rfl
  have hget : ∀ i, (hi : i < ((zs u).map fun (n : Nat) => (n : Int)).length) → ((zs u).map fun (n : Nat) => (n : Int))[i] = ((u / 128 ^ i % 128 : Nat) : Int) := fun i hi => by
    rw [hlen] at hi
    have := zs_get u i hi
    rw [List.getElem_map]
    have h2 := List.getElem_of_getElem? this
    obtain ⟨_, h2⟩ := h2
    rw [h2]
  generalize ((zs u).map fun (n : Nat) => (n : Int)) = l at hlen hget
  have := loopG_0 (L := fun fu s i => m_telltaleref02_Put_l2 l fu s i) (n := zn u) (P := fun i s o => s.length ≤ b.length + i → o = some (s ++ ((List.range (zn u)).drop i).map (zbyte u (zn u)))) (by omega)
    (fun fu s hs => by
      unfold m_telltaleref02_Put_l2
      rw [d_nlt (by omega), cond_false, List.drop_of_length_le (by simp)]; simp)
    (fun fu s i hi ih hs => by
      unfold m_telltaleref02_Put_l2
      have hr : (List.range (zn u)).drop i = i :: (List.range (zn u)).drop (i + 1) := by
        rw [List.drop_eq_getElem_cons (by simpa using hi), List.getElem_range]
      have hil : i < l.length := by omega
      rw [d_lt (by omega), cond_true, hlen, w64 (n := ((zn u : Nat) : Int) - 1) (by omega) (by omega), geti_lt hil, obind_some, obind_some, hget i hil, w64 (n := 128 + ((u / 128 ^ i % 128 : Nat) : Int)) (by omega) (by omega), inc_ok (by omega), app_ok (by simp; omega), obind_some, app_ok (by simp; omega), obind_some, ih _ (by simp; omega), ih _ (by simp; omega), hr, List.map_cons]
      unfold zbyte
      have t1 : toU8 ((u / 128 ^ i % 128 : Nat) : Int) = UInt8.ofNat (u / 128 ^ i % 128) := by
        apply UInt8.toNat_inj.1; rw [toU8_nat, UInt8.toNat_ofNat']
      have t2 : toU8 (128 + ((u / 128 ^ i % 128 : Nat) : Int)) = UInt8.ofNat (u / 128 ^ i % 128 + 128) := by
        rw [show (128 : Int) + ((u / 128 ^ i % 128 : Nat) : Int) = ((u / 128 ^ i % 128 + 128 : Nat) : Int) by omega]
        apply UInt8.toNat_inj.1; rw [toU8_nat, UInt8.toNat_ofNat']
      rw [t1, t2]
      by_cases hl : i + 1 = zn u
      · rw [d_nlt (by omega), cond_false, if_pos hl, List.append_assoc]; rfl
      · rw [d_lt (by omega), cond_true, if_neg hl, List.append_assoc]; rfl) b (by omega)
  rw [this]; rfl
/-! ### folding -/
theorem bnd_xor (a b : BitVec 64) : IntKind.u64.wrap (((a ^^^ b).toNat : Nat) : Int) = (((a ^^^ b).toNat : Nat) : Int) := by
  rw [wu64]; exact Int.emod_eq_of_lt (by omega) (by have := (a ^^^ b).isLt; omega)
theorem fold_ok {n : Int} (h0 : -9223372036854775808 ≤ n) (h1 : n ≤ 9223372036854775807) : m_zig_Fold n = some ((zfold n : Nat) : Int) := by
  unfold m_zig_Fold zfold
  rw [obind_some]
  have hp : (2 : Int) ^ 63 = 9223372036854775808 := rfl
  have hp1 : (2 : Int) ^ 1 = 2 := rfl
  rw [Int.fdiv_eq_ediv_of_nonneg _ (by decide), hp, hp1]
  by_cases h : n < 0
  · rw [if_pos h, show n / 9223372036854775808 = -1 by omega, show IntKind.u64.wrap (-1) = 18446744073709551615 by decide, show BitVec.ofInt 64 18446744073709551615 = BitVec.allOnes 64 by decide, BitVec.xor_allOnes, wu64, wu64]
    congr 1
    rw [BitVec.toNat_not, BitVec.toNat_ofInt, wu64]
    simp only [Nat.reducePow]
    omega
  · rw [if_neg h, show n / 9223372036854775808 = 0 by omega, show IntKind.u64.wrap 0 = 0 by decide, show BitVec.ofInt 64 0 = 0#64 by decide, BitVec.xor_zero, wu64, wu64]
    congr 1
    rw [BitVec.toNat_ofInt, wu64]
    omega
theorem rfold_ok {n : Int} (h0 : -9223372036854775808 ≤ n) (h1 : n ≤ 9223372036854775807) : m_telltaleref02_Fold n = some ((zfold n : Nat) : Int) := by
  unfold m_telltaleref02_Fold zfold
  by_cases h : n < 0
  · rw [d_lt h, cond_true, if_pos h, obind_some, w64 (n := n + 1) (by omega) (by omega), w64 (n := 0 - (n + 1)) (by omega) (by omega), wu64, wu64, wu64]
    congr 1; omega
  · rw [d_nlt h, cond_false, if_neg h, wu64, wu64]
    congr 1; omega
theorem putint_ok {b : List UInt8} {n : Int} (hb : b.length ≤ 100000000) (h0 : -9223372036854775808 ≤ n) (h1 : n ≤ 9223372036854775807) : m_zig_PutInt b n = some (b ++ zb (zfold n)) := by
  unfold m_zig_PutInt
  rw [fold_ok h0 h1, obind_some, put_ok hb (zfold_lt n h0 h1)]; rfl
end Go.Proofs.Ytbgioanegbipgaa.K
namespace Go.Proofs.Ytbgioanegbipgaa.K
open Go.RowKit Go.Lib
set_option linter.unusedVariables false
set_option linter.unusedSimpArgs false
def ztkI (r : Nat × Nat × Nat) : Int × Int × Int := ((r.1 : Int), (r.2.1 : Int), (r.2.2 : Int))
theorem orB {a b : Nat} (ha : a < 18446744073709551616) (hb : b < 18446744073709551616) : IntKind.u64.wrap (((BitVec.ofInt 64 (a : Int) ||| BitVec.ofInt 64 (b : Int)).toNat : Nat) : Int) = ((a ||| b : Nat) : Int) := by
  rw [BitVec.toNat_or, BitVec.toNat_ofInt, BitVec.toNat_ofInt, wu64]
  have e1 : ((a : Int) % ((2 ^ 64 : Nat) : Int)).toNat = a := by omega
  have e2 : ((b : Int) % ((2 ^ 64 : Nat) : Int)).toNat = b := by omega
  rw [e1, e2]
  have := Nat.or_lt_two_pow (n := 64) ha hb
  omega
theorem or_step {u i c : Nat} (hu : u < 128 ^ i) (h : u + c % 128 * 128 ^ i < 18446744073709551616) : u ||| (c % 128 * 128 ^ i) = u + c % 128 * 128 ^ i := by
  have e : (128 : Nat) ^ i = 2 ^ (7 * i) := by rw [Nat.pow_mul]
  rw [e] at hu ⊢
  rw [Nat.or_comm, Nat.mul_comm, ← Nat.two_pow_add_eq_or_of_lt hu, Nat.add_comm]
theorem not128i (x : UInt8) : (((toU8 (((BitVec.ofInt 8 ((x.toNat : Nat) : Int) &&& ~~~ BitVec.ofInt 8 128).toNat : Nat) : Int)).toNat : Nat) : Int) = ((x.toNat % 128 : Nat) : Int) := by
  rw [not128, UInt8.toNat_ofNat']; omega
theorem pow7 (i : Nat) : (2 : Int) ^ (Int.toNat ((7 * i : Nat) : Int)) = ((128 ^ i : Nat) : Int) := by
  rw [Int.toNat_natCast, show (128 : Nat) ^ i = 2 ^ (7 * i) by rw [Nat.pow_mul], Int.natCast_pow]; rfl
theorem zgo_err {l : List UInt8} {p : Nat} {a e : Nat} : zgo l p (0, 0, e + 1) = (0, 0, e + 1) := rfl
theorem take_jmp {X : Option (Int × Int × Int)} {i c : Nat} (b : Bool) : cond b (cond (decide ((1 : Int) < (c : Int))) (some ((0 : Int), (0 : Int), (8 : Int))) (cond (decide ((0 : Int) < (i : Int))) (cond (decide ((c : Int) = 0)) (some (0, 0, 4)) X) X)) (cond (decide ((0 : Int) < (i : Int))) (cond (decide ((c : Int) = 0)) (some (0, 0, 4)) X) X) = if b = true ∧ 1 < c then some (0, 0, 8) else if 0 < i ∧ c = 0 then some (0, 0, 4) else X := by
  have e1 : decide ((1 : Int) < (c : Int)) = decide (1 < c) := decide_eq_decide.2 (by omega)
  have e2 : decide ((0 : Int) < (i : Int)) = decide (0 < i) := decide_eq_decide.2 (by omega)
  have e3 : decide ((c : Int) = 0) = decide (c = 0) := decide_eq_decide.2 (by omega)
  rw [e1, e2, e3]
  by_cases h1 : 1 < c <;> by_cases h2 : 0 < i <;> by_cases h3 : c = 0 <;> cases b <;> simp [h1, h2, h3] <;> omega
theorem rtake_jmp {X : Option (Int × Int × Int)} {i c : Nat} (b : Bool) : cond b (cond (decide ((1 : Int) < (c : Int))) (some ((0 : Int), (0 : Int), (8 : Int))) (cond (decide ((c : Int) = 0)) (cond (decide ((0 : Int) < (i : Int))) (some (0, 0, 4)) X) X)) (cond (decide ((c : Int) = 0)) (cond (decide ((0 : Int) < (i : Int))) (some (0, 0, 4)) X) X) = if b = true ∧ 1 < c then some (0, 0, 8) else if 0 < i ∧ c = 0 then some (0, 0, 4) else X := by
  have e1 : decide ((1 : Int) < (c : Int)) = decide (1 < c) := decide_eq_decide.2 (by omega)
  have e2 : decide ((0 : Int) < (i : Int)) = decide (0 < i) := decide_eq_decide.2 (by omega)
  have e3 : decide ((c : Int) = 0) = decide (c = 0) := decide_eq_decide.2 (by omega)
  rw [e1, e2, e3]
  by_cases h1 : 1 < c <;> by_cases h2 : 0 < i <;> by_cases h3 : c = 0 <;> cases b <;> simp [h1, h2, h3] <;> omega
theorem take_l {l : List UInt8} {p : Nat} (hl : l.length ≤ 1000000) (hp : p ≤ l.length) : ∀ (f fu i u : Nat), f + i = 10 → f < fu → u < 128 ^ i → m_zig_Take_l1 l (p : Int) fu (u : Int) (i : Int) = some (ztkI (zgo l p (tk (l.drop p) f i u)))
  | f, 0, _, _, _, h, _ => by omega
  | 0, fu + 1, i, u, h, _, hu => by
    unfold m_zig_Take_l1
    rw [d_nlt (by omega), cond_false]; rfl
  | f + 1, fu + 1, i, u, h, hf, hu => by
    unfold m_zig_Take_l1 m_zig_Take_j6 m_zig_Take_j8
    rw [d_lt (by omega), cond_true, w64 (n := (p : Int) + i) (by omega) (by omega), show (p : Int) + (i : Int) = ((p + i : Nat) : Int) by omega, tk, List.getElem?_drop]
    by_cases hlen : p + i < l.length
    · rw [decide_eq_false (by omega), cond_false, geti_lt hlen, obind_some, List.getElem?_eq_getElem hlen]
      have hc := UInt8.toNat_lt l[p + i]
      simp only
      rw [not128i]
      generalize l[p + i].toNat = c at hc
      rw [obind_some, w64 (n := 7 * (i : Int)) (by omega) (by omega), show 7 * (i : Int) = ((7 * i : Nat) : Int) by omega, chk_ok (by omega), pow7, w64 (n := ((p + i : Nat) : Int) + 1) (by omega) (by omega), inc_ok (by omega)]
      by_cases h9 : i = 9 ∧ 1 < c
      · rw [decide_eq_true (p := (i : Int) = 9) (by omega), cond_true, d_lt (by omega), cond_true, if_pos h9]; rfl
      · have key : m_zig_Take_l1 l (p : Int) fu (u : Int) (i : Int) = m_zig_Take_l1 l (p : Int) fu (u : Int) (i : Int) := rfl
        have hm := mul_in (c := c) hu (by omega) (by omega) (fun h => by have : ¬ 1 < c := fun h' => h9 ⟨h, h'⟩; omega)
        rw [if_neg h9]
        have hw : IntKind.u64.wrap (((c % 128 : Nat) : Int) * ((128 ^ i : Nat) : Int)) = ((c % 128 * 128 ^ i : Nat) : Int) := by
          rw [wu64, ← Int.natCast_mul]; omega
        rw [hw, orB (by omega) (by omega), or_step hu hm.1, obind_some]
        have fin : (cond (decide ((c : Int) < 128)) (some (((u + c % 128 * 128 ^ i : Nat) : Int), ((p + i : Nat) : Int) + 1, 0)) (m_zig_Take_l1 l (p : Int) fu ((u + c % 128 * 128 ^ i : Nat) : Int) ((i + 1 : Nat) : Int))) = some (ztkI (zgo l p (if c < 128 then (u + c % 128 * 128 ^ i, i + 1, 0) else tk (l.drop p) f (i + 1) (u + c % 128 * 128 ^ i)))) := by
          by_cases hc2 : c < 128
          · rw [d_lt (by omega), cond_true, if_pos hc2]
            unfold zgo ztkI
            simp only
            rw [if_pos trivial]
            congr 3
          · rw [d_nlt (by omega), cond_false, if_neg hc2, take_l hl hp f fu (i + 1) _ (by omega) (by omega) hm.2]
        rw [fin, take_jmp, if_neg (by
          intro hh
          exact h9 ⟨by have := of_decide_eq_true hh.1; omega, hh.2⟩)]
        by_cases hz : 0 < i ∧ c = 0
        · rw [if_pos hz, if_pos hz]; rfl
        · rw [if_neg hz, if_neg hz]
    · rw [decide_eq_true (by omega), cond_true, List.getElem?_eq_none (by omega)]; rfl
theorem take_ok {l : List UInt8} (hl : l.length ≤ 1000000) (a : Int) : m_zig_Take l a = some (ztkI (ztk l a)) := by
  unfold m_zig_Take ztk
  by_cases h1 : a < 0
  · rw [d_lt h1, if_pos (.inl h1)]; rfl
  · rw [d_nlt h1, cond_false]
    by_cases h2 : (l.length : Int) < a
    · rw [d_lt h2, if_pos (.inr h2)]; rfl
    · rw [d_nlt h2, cond_false, if_neg (by omega)]
      have := take_l (p := a.toNat) hl (by omega) 10 1152921504606846976 0 0 rfl (by omega) (by decide)
      rw [show ((a.toNat : Nat) : Int) = a by omega] at this
      exact this
theorem rtake_l {l : List UInt8} {p : Nat} (hl : l.length ≤ 1000000) (hp : p ≤ l.length) : ∀ (f fu i u : Nat) (m : Int), f + i = 10 → f < fu → u < 128 ^ i → (i < 10 → m = ((128 ^ i : Nat) : Int)) → m_telltaleref02_Take_l1 l (p : Int) fu (u : Int) m (i : Int) = some (ztkI (zgo l p (tk (l.drop p) f i u)))
  | f, 0, _, _, _, _, h, _, _ => by omega
  | 0, fu + 1, i, u, m, h, _, hu, _ => by
    unfold m_telltaleref02_Take_l1
    rw [d_nlt (by omega), cond_false]; rfl
  | f + 1, fu + 1, i, u, m, h, hf, hu, hm0 => by
    unfold m_telltaleref02_Take_l1 m_telltaleref02_Take_j8 m_telltaleref02_Take_j9
    have hmm := hm0 (by omega)
    rw [d_lt (by omega), cond_true, w64 (n := (l.length : Int) - p) (by omega) (by omega), w64 (n := (p : Int) + i) (by omega) (by omega), show (p : Int) + (i : Int) = ((p + i : Nat) : Int) by omega, tk, List.getElem?_drop]
    by_cases hlen : p + i < l.length
    · rw [decide_eq_false (by omega), cond_false, geti_lt hlen, obind_some, List.getElem?_eq_getElem hlen]
      have hc := UInt8.toNat_lt l[p + i]
      simp only
      generalize l[p + i].toNat = c at hc
      rw [obind_some, w64 (n := ((p + i : Nat) : Int) + 1) (by omega) (by omega), inc_ok (by omega), Int.tmod_eq_emod_of_nonneg (by omega), hmm]
      by_cases h9 : i = 9 ∧ 1 < c
      · rw [decide_eq_true (p := (i : Int) = 9) (by omega), cond_true, d_lt (by omega), cond_true, if_pos h9]; rfl
      · have hm := mul_in (c := c) hu (by omega) (by omega) (fun h => by have : ¬ 1 < c := fun h' => h9 ⟨h, h'⟩; omega)
        rw [if_neg h9]
        have hw : IntKind.u64.wrap ((u : Int) + IntKind.u64.wrap (IntKind.u64.wrap ((c : Int) % 128) * ((128 ^ i : Nat) : Int))) = ((u + c % 128 * 128 ^ i : Nat) : Int) := by
          have e : IntKind.u64.wrap ((c : Int) % 128) = ((c % 128 : Nat) : Int) := by rw [wu64]; omega
          rw [e, wu64, wu64, ← Int.natCast_mul]; omega
        rw [hw]
        have fin : (cond (decide ((c : Int) < 128)) (some (((u + c % 128 * 128 ^ i : Nat) : Int), ((p + i : Nat) : Int) + 1, 0)) (m_telltaleref02_Take_l1 l (p : Int) fu ((u + c % 128 * 128 ^ i : Nat) : Int) (IntKind.u64.wrap (((128 ^ i : Nat) : Int) * 128)) ((i + 1 : Nat) : Int))) = some (ztkI (zgo l p (if c < 128 then (u + c % 128 * 128 ^ i, i + 1, 0) else tk (l.drop p) f (i + 1) (u + c % 128 * 128 ^ i)))) := by
          by_cases hc2 : c < 128
          · rw [d_lt (by omega), cond_true, if_pos hc2]
            unfold zgo ztkI
            simp only
            rw [if_pos trivial]
            congr 3
          · rw [d_nlt (by omega), cond_false, if_neg hc2, rtake_l hl hp f fu (i + 1) _ _ (by omega) (by omega) hm.2 (fun h10 => by
              have h8 : (128 : Nat) ^ i ≤ 128 ^ 8 := Nat.pow_le_pow_right (by decide) (by omega)
              have e8 : (128 : Nat) ^ 8 = 72057594037927936 := by decide
              rw [wu64, Nat.pow_succ]; omega)]
        rw [fin, rtake_jmp, if_neg (by
          intro hh
          exact h9 ⟨by have := of_decide_eq_true hh.1; omega, hh.2⟩)]
        by_cases hz : 0 < i ∧ c = 0
        · rw [if_pos hz, if_pos hz]; rfl
        · rw [if_neg hz, if_neg hz]
    · rw [decide_eq_true (by omega), cond_true, List.getElem?_eq_none (by omega)]; rfl
theorem rtake_ok {l : List UInt8} (hl : l.length ≤ 1000000) (a : Int) : m_telltaleref02_Take l a = some (ztkI (ztk l a)) := by
  unfold m_telltaleref02_Take ztk
  by_cases h1 : a < 0
  · rw [d_lt h1, if_pos (.inl h1)]; rfl
  · rw [d_nlt h1, cond_false]
    by_cases h2 : (l.length : Int) < a
    · rw [d_lt h2, if_pos (.inr h2)]; rfl
    · rw [d_nlt h2, cond_false, if_neg (by omega)]
      have := rtake_l (p := a.toNat) hl (by omega) 10 1152921504606846976 0 0 1 rfl (by omega) (by decide) (fun _ => rfl)
      rw [show ((a.toNat : Nat) : Int) = a by omega] at this
      exact this
/-! ### unfolding -/
theorem back_ok' {u : Nat} (h : u < 18446744073709551616) : m_zig_Back (u : Int) = some (zback u) := by
  unfold m_zig_Back zback
  rw [obind_some, obind_some, Int.fdiv_eq_ediv_of_nonneg _ (by decide), show (2 : Int) ^ 1 = 2 from rfl, show (u : Int) / 2 = ((u / 2 : Nat) : Int) by omega]
  have e1 : (BitVec.ofInt 64 (u : Int) &&& BitVec.ofInt 64 1).toNat = u % 2 := by
    rw [BitVec.toNat_and, BitVec.toNat_ofInt, BitVec.toNat_ofInt]
    have : ((u : Int) % ((2 ^ 64 : Nat) : Int)).toNat = u := by omega
    rw [this]
    exact Nat.and_one_is_mod u
  rw [e1, wu64, w64 (n := ((u / 2 : Nat) : Int)) (by omega) (by omega)]
  by_cases h2 : u % 2 = 1
  · rw [if_pos h2, h2]
    rw [show IntKind.i64.wrap (0 - IntKind.i64.wrap (((1 : Nat) : Int) % 18446744073709551616)) = -1 by decide, show BitVec.ofInt 64 (-1) = BitVec.allOnes 64 by decide, BitVec.xor_allOnes, BitVec.toNat_not, BitVec.toNat_ofInt]
    have : (((u / 2 : Nat) : Int) % ((2 ^ 64 : Nat) : Int)).toNat = u / 2 := by omega
    rw [this]
    congr 1
    simp [IntKind.wrap, IntKind.signed, IntKind.bits]
    omega
  · rw [if_neg h2, show u % 2 = 0 by omega]
    rw [show IntKind.i64.wrap (0 - IntKind.i64.wrap (((0 : Nat) : Int) % 18446744073709551616)) = 0 by decide, show BitVec.ofInt 64 0 = 0#64 by decide, BitVec.xor_zero, BitVec.toNat_ofInt]
    have : (((u / 2 : Nat) : Int) % ((2 ^ 64 : Nat) : Int)).toNat = u / 2 := by omega
    rw [this, w64 (by omega) (by omega)]
theorem rback_ok {u : Nat} (h : u < 18446744073709551616) : m_telltaleref02_Back (u : Int) = some (zback u) := by
  unfold m_telltaleref02_Back zback
  have e : IntKind.u64.wrap ((u / 2 : Nat) : Int) = ((u / 2 : Nat) : Int) := by rw [wu64]; omega
  rw [Int.tmod_eq_emod_of_nonneg (by omega), Int.tdiv_eq_ediv_of_nonneg (by omega), show (u : Int) / 2 = ((u / 2 : Nat) : Int) by omega, e, w64 (n := ((u / 2 : Nat) : Int)) (by omega) (by omega)]
  by_cases h2 : u % 2 = 1
  · rw [if_pos h2, decide_eq_true (by omega), cond_true, w64 (n := 0 - ((u / 2 : Nat) : Int)) (by omega) (by omega), w64 (by omega) (by omega)]
    congr 1; omega
  · rw [if_neg h2, decide_eq_false (by omega), cond_false]
theorem takeint_ok {l : List UInt8} (hl : l.length ≤ 1000000) (a : Int) : m_zig_TakeInt l a = some (zback (ztk l a).1, (((ztk l a).2.1 : Nat) : Int), (((ztk l a).2.2 : Nat) : Int)) := by
  unfold m_zig_TakeInt
  rw [take_ok hl, obind_some]
  unfold ztkI
  simp only
  rw [back_ok' (ztk_lt l a), obind_some]
end Go.Proofs.Ytbgioanegbipgaa.K
namespace Go.Proofs.Ytbgioanegbipgaa.K
open Go.RowKit Go.Lib
set_option linter.unusedVariables false
set_option linter.unusedSimpArgs false
/-- A number's k bytes, the highest first. -/
def beB : Nat → Nat → List UInt8
  | 0, _ => []
  | k + 1, u => beB k (u / 256) ++ [UInt8.ofNat (u % 256)]
theorem beB_len : ∀ k u, (beB k u).length = k
  | 0, _ => rfl
  | k + 1, u => by rw [beB, List.length_append, beB_len k]; rfl
theorem toU8_mod {u : Nat} : toU8 (u : Int) = UInt8.ofNat (u % 256) := by
  apply UInt8.toNat_inj.1; rw [toU8_nat, UInt8.toNat_ofNat']; omega
theorem set_mid {b t : List UInt8} {k : Nat} {x : UInt8} : (b ++ (List.replicate (k + 1) 0 ++ t)).set (b.length + k) x = b ++ (List.replicate k 0 ++ x :: t) := by
  rw [List.set_append_right _ _ (by omega), Nat.add_sub_cancel_left, List.replicate_succ', List.append_assoc, List.set_append_right _ _ (by simp)]
  simp
theorem lay_l {b : List UInt8} (hb : b.length ≤ 100000000) : ∀ (k fu u : Nat) (t : List UInt8), k + t.length = 8 → k < fu → u < 18446744073709551616 → m_octet_lay_l1 8 fu (b ++ (List.replicate k 0 ++ t)) (u : Int) ((b.length : Int) + k - 1) = some (b ++ (beB k u ++ t))
  | k, 0, _, _, _, h, _ => by omega
  | 0, fu + 1, u, t, ht, _, hu => by
    unfold m_octet_lay_l1
    rw [w64 (n := ((List.length (b ++ (List.replicate 0 0 ++ t)) : Nat) : Int) - 8) (by simp; omega) (by simp; omega), decide_eq_false (by simp; omega), cond_false]; rfl
  | k + 1, fu + 1, u, t, ht, hf, hu => by
    unfold m_octet_lay_l1
    have hlt : b.length + k < (b ++ (List.replicate (k + 1) 0 ++ t)).length := by simp; omega
    rw [w64 (n := ((List.length (b ++ (List.replicate (k + 1) 0 ++ t)) : Nat) : Int) - 8) (by simp; omega) (by simp; omega), decide_eq_true (by simp; omega), cond_true, show (b.length : Int) + ((k + 1 : Nat) : Int) - 1 = ((b.length + k : Nat) : Int) by omega, geti_lt hlt, obind_some, Int.toNat_natCast, set_mid, toU8_mod, Int.fdiv_eq_ediv_of_nonneg _ (by decide), show (2 : Int) ^ 8 = 256 from rfl, w64 (by omega) (by omega), show (u : Int) / 256 = ((u / 256 : Nat) : Int) by omega, show ((b.length + k : Nat) : Int) - 1 = (b.length : Int) + (k : Int) - 1 by omega]
    rw [lay_l hb k fu (u / 256) (UInt8.ofNat (u % 256) :: t) (by simp; omega) (by omega) (by omega), beB, List.append_assoc]; rfl
theorem word_ok {b : List UInt8} {u : Nat} (hb : b.length ≤ 100000000) (h : u < 18446744073709551616) : m_octet_Word b (u : Int) = some (b ++ beB 8 u) := by
  unfold m_octet_Word m_octet_grown m_octet_lay
  rw [w64 (by omega) (by omega), show mkl (((List.length b : Nat) : Int) + 8) (0 : UInt8) = some (List.replicate (b.length + 8) 0) by
    unfold mkl; rw [if_pos ⟨by omega, by omega⟩]
    congr 2]
  rw [obind_some, show cpy (List.replicate (b.length + 8) (0 : UInt8)) b = some (b ++ (List.replicate 8 0 ++ [])) by
    unfold cpy
    rw [if_pos (by simp)]
    simp]
  rw [obind_some, obind_some, w64 (by simp; omega) (by simp; omega)]
  have := lay_l hb 8 1152921504606846976 u [] (by simp) (by omega) h
  have e : List.length (b ++ (List.replicate 8 (0 : UInt8) ++ [])) = b.length + 8 := by simp
  rw [e, show ((b.length + 8 : Nat) : Int) - 1 = (b.length : Int) + ((8 : Nat) : Int) - 1 by omega, this, obind_some, List.append_nil]
theorem rword_l {b : List UInt8} (hb : b.length ≤ 100000000) : ∀ (k fu u : Nat) (t : List UInt8), k + t.length = 8 → k < fu → u < 18446744073709551616 → m_telltaleref01_Word_l0 b fu (u : Int) t (8 - (k : Int)) = some (b ++ (beB k u ++ t))
  | k, 0, _, _, _, h, _ => by omega
  | 0, fu + 1, u, t, ht, _, hu => by
    unfold m_telltaleref01_Word_l0
    rw [d_nlt (by omega), cond_false, app_ok (by simp; omega), obind_some, List.nil_append, app_ok (by omega), obind_some]; rfl
  | k + 1, fu + 1, u, t, ht, hf, hu => by
    unfold m_telltaleref01_Word_l0
    rw [d_lt (by omega), cond_true, Int.tmod_eq_emod_of_nonneg (by omega), show (u : Int) % 256 = ((u % 256 : Nat) : Int) by omega, toU8_mod, Nat.mod_mod, app_ok (by simp; omega), obind_some, Int.tdiv_eq_ediv_of_nonneg (by omega), wu64, show (u : Int) / 256 = ((u / 256 : Nat) : Int) by omega, Int.emod_eq_of_lt (by omega) (by omega), w64 (by omega) (by omega), show (8 : Int) - ((k + 1 : Nat) : Int) + 1 = 8 - (k : Int) by omega]
    rw [rword_l hb k fu (u / 256) _ (by simp; omega) (by omega) (by omega), beB, List.append_assoc]
theorem rword_ok {b : List UInt8} {u : Nat} (hb : b.length ≤ 100000000) (h : u < 18446744073709551616) : m_telltaleref01_Word b (u : Int) = some (b ++ beB 8 u) := by
  unfold m_telltaleref01_Word
  have := rword_l hb 8 1152921504606846976 u [] (by simp) (by omega) h
  rw [List.append_nil] at this; exact this
/-- A value's bytes. -/
def bytesV (v : GValue) : List UInt8 :=
  if v.Kind.toNat = 1 then zb (zfold v.N) else if v.Kind.toNat = 2 then [toU8 v.N] else if v.Kind.toNat = 3 then beB 8 v.Bits.toNat else zb v.Text.length ++ v.Text
def putV (b : List UInt8) (v : GValue) : List UInt8 × Int := if chkV v ≠ 0 then ([], chkV v) else (b ++ v.Kind :: bytesV v, 0)
theorem chk_range (v : GValue) : v.Kind.toNat = 1 ∨ v.Kind.toNat = 2 ∨ v.Kind.toNat = 3 ∨ v.Kind.toNat = 4 ∨ chkV v = 11 := by
  unfold chkV
  by_cases h1 : v.Kind.toNat = 1
  · exact .inl h1
  by_cases h2 : v.Kind.toNat = 2
  · exact .inr (.inl h2)
  by_cases h3 : v.Kind.toNat = 3
  · exact .inr (.inr (.inl h3))
  by_cases h4 : v.Kind.toNat = 4
  · exact .inr (.inr (.inr (.inl h4)))
  · rw [if_neg h1, if_neg h2, if_neg h3, if_neg h4]; simp
structure okB (v : GValue) : Prop where
  N : -9223372036854775808 ≤ v.N ∧ v.N ≤ 9223372036854775807
  B : u64B v.Bits
  T : v.Text.length ≤ 1000
theorem vput_ok {b : List UInt8} {v : GValue} (hb : b.length ≤ 1000000) (h : okB v) : m_value_Put b v = some (putV b v) := by
  obtain ⟨hN, hB, hT⟩ := h
  unfold m_value_Put putV
  rw [check_ok hB, obind_some]
  by_cases hc : chkV v = 0
  · rw [decide_eq_false (by simp [hc]), cond_false, if_neg (by simp [hc])]
    rw [w64 (n := ((List.length b : Nat) : Int) + 1) (by omega) (by omega), show mkc ((List.length b : Nat) : Int) (((List.length b : Nat) : Int) + 1) (0 : UInt8) = some (List.replicate b.length 0) by
      unfold mkc; rw [if_pos ⟨by omega, by omega, by omega⟩]; congr 2]
    rw [obind_some, show cpy (List.replicate b.length (0 : UInt8)) b = some b by
      unfold cpy
      rw [if_pos (by simp)]
      simp]
    rw [obind_some, app_ok (by simp; omega), obind_some]
    unfold bytesV
    by_cases k1 : v.Kind.toNat = 1
    · rw [decide_eq_true (by omega), cond_true, if_pos k1, putint_ok (by simp; omega) hN.1 hN.2, obind_some, List.append_assoc]; rfl
    rw [decide_eq_false (by omega), cond_false, if_neg k1]
    by_cases k2 : v.Kind.toNat = 2
    · rw [decide_eq_true (by omega), cond_true, if_pos k2, app_ok (by simp; omega), obind_some, List.append_assoc]; rfl
    rw [decide_eq_false (by omega), cond_false, if_neg k2]
    by_cases k3 : v.Kind.toNat = 3
    · have e : v.Bits = ((v.Bits.toNat : Nat) : Int) := by have := hB.1; omega
      rw [decide_eq_true (by omega), cond_true, if_pos k3, e, word_ok (by simp; omega) (by have := hB.2; omega), obind_some, List.append_assoc, Int.toNat_natCast]; rfl
    rw [decide_eq_false (by omega), cond_false, if_neg k3]
    have hz := zn_le10 v.Text.length (by omega)
    have hzl := zb_length v.Text.length
    rw [wu64, Int.emod_eq_of_lt (by omega) (by omega), put_ok (by simp; omega) (by omega), obind_some, app_ok (by simp; omega), obind_some, List.append_assoc, List.append_assoc]; rfl
  · rw [decide_eq_true (by simp [hc]), cond_true, if_pos (by simp [hc])]
theorem rvput_ok {b : List UInt8} {v : GValue} (hb : b.length ≤ 1000000) (h : okB v) : m_telltaleref04_Put b v = some (putV b v) := by
  obtain ⟨hN, hB, hT⟩ := h
  unfold m_telltaleref04_Put putV
  rw [rcheck_ok hB, obind_some]
  by_cases hc : chkV v = 0
  · rw [decide_eq_false (by simp [hc]), cond_false, if_neg (by simp [hc])]
    rw [app_ok (by simp; omega), obind_some, List.nil_append, app_ok (by simp; omega), obind_some]
    unfold bytesV
    by_cases k1 : v.Kind.toNat = 1
    · rw [decide_eq_true (by omega), cond_true, if_pos k1, rfold_ok hN.1 hN.2, obind_some, rput_ok (by simp; omega) (zfold_lt _ hN.1 hN.2), obind_some, List.append_assoc]; rfl
    rw [decide_eq_false (by omega), cond_false, if_neg k1]
    by_cases k2 : v.Kind.toNat = 2
    · rw [decide_eq_true (by omega), cond_true, if_pos k2, app_ok (by simp; omega), obind_some, List.append_assoc]; rfl
    rw [decide_eq_false (by omega), cond_false, if_neg k2]
    by_cases k3 : v.Kind.toNat = 3
    · have e : v.Bits = ((v.Bits.toNat : Nat) : Int) := by have := hB.1; omega
      rw [decide_eq_true (by omega), cond_true, if_pos k3, e, rword_ok (by simp; omega) (by have := hB.2; omega), obind_some, List.append_assoc, Int.toNat_natCast]; rfl
    rw [decide_eq_false (by omega), cond_false, if_neg k3]
    have hz := zn_le10 v.Text.length (by omega)
    have hzl := zb_length v.Text.length
    rw [wu64, Int.emod_eq_of_lt (by omega) (by omega), rput_ok (by simp; omega) (by omega), obind_some, app_ok (by simp; omega), obind_some, List.append_assoc, List.append_assoc]; rfl
  · rw [decide_eq_true (by simp [hc]), cond_true, if_pos (by simp [hc])]
theorem small04 {v : GValue} (h : v.Text.length ≤ maxLen) : m_telltalelaw04_Small v = some (max 0 ((v.Text.length : Int) - 100)) := by
  unfold m_telltalelaw04_Small
  have := maxLen_le h
  rw [w64 (by omega) (by omega)]
end Go.Proofs.Ytbgioanegbipgaa.K
namespace Go.Proofs.Ytbgioanegbipgaa.K
open Go.RowKit Go.Lib
set_option linter.unusedVariables false
set_option linter.unusedSimpArgs false
def beN : Nat → List UInt8 → Nat
  | a, [] => a
  | a, x :: l => beN (a * 256 + x.toNat) l
theorem or_byte {a c : Nat} (ha : a < 72057594037927936) (hc : c < 256) : IntKind.u64.wrap (((BitVec.ofInt 64 (IntKind.u64.wrap ((a : Int) * 2 ^ 8)) ||| BitVec.ofInt 64 ((c : Nat) : Int)).toNat : Nat) : Int) = ((a * 256 + c : Nat) : Int) := by
  have e : IntKind.u64.wrap ((a : Int) * 2 ^ 8) = ((2 ^ 8 * a : Nat) : Int) := by rw [wu64, show (2 : Int) ^ 8 = 256 from rfl]; omega
  rw [e, orB (by omega) (by omega), ← Nat.two_pow_add_eq_or_of_lt (i := 8) (by omega)]
  congr 1; omega
theorem pow256 {i : Nat} (h : i ≤ 7) : (256 : Nat) ^ i ≤ 72057594037927936 := by
  have := Nat.pow_le_pow_right (n := 256) (by decide) h
  have e : (256 : Nat) ^ 7 = 72057594037927936 := by decide
  omega
theorem word_l {g : GReader} {n : Int} {s : List UInt8} (hs : s.length ≤ 8) (h0 : 0 ≤ g.At ∧ g.At ≤ 1000) (hn : 0 ≤ n ∧ n ≤ 1000) : m_octet_Reader_take_l4 g n s 1152921504606846976 0 0 = some (GReader.mk g.Text (g.At + n) g.E, ((beN 0 s : Nat) : Int)) := by
  have := loopG_0 (L := fun fu (u : Nat) i => m_octet_Reader_take_l4 g n s fu (u : Int) i) (n := s.length) (P := fun i u o => u < 256 ^ i → o = some (GReader.mk g.Text (g.At + n) g.E, ((beN u (s.drop i) : Nat) : Int))) (by omega)
    (fun fu u hu => by
      unfold m_octet_Reader_take_l4
      rw [d_nlt (by omega), cond_false, List.drop_of_length_le (Nat.le_refl _), w64 (by omega) (by omega)]; rfl)
    (fun fu u i hi ih hu => by
      unfold m_octet_Reader_take_l4
      have hc := UInt8.toNat_lt s[i]
      have hp := pow256 (show i ≤ 7 by omega)
      have := ih (u * 256 + s[i].toNat) (by rw [Nat.pow_succ]; omega)
      rw [d_lt (by omega), cond_true, geti_lt hi, obind_some, or_byte (by omega) (by omega), obind_some, inc_ok (by omega), this, drop_cons hi]; rfl) 0 (by decide)
  exact this
def rdW (s : List UInt8) : Option Nat := if s.length < 8 then none else some (beN 0 (s.take 8))
def rdG (s : List UInt8) : GReader × Int := match rdW s with
  | none => (GReader.mk s 0 3, 0)
  | some w => (GReader.mk s 8 0, (w : Int))
theorem pword_ok {s : List UInt8} (hs : s.length ≤ 1000000) : m_octet_Reader_Word (GReader.mk s 0 0) = some (rdG s) := by
  unfold m_octet_Reader_Word m_octet_Reader_take m_octet_Reader_Left m_octet_Reader_fail rdG rdW
  simp only
  rw [decide_eq_false (by decide), cond_false, d_nlt (by decide), cond_false, d_nlt (by omega), cond_false, w64 (by omega) (by omega), obind_some, Int.sub_zero]
  by_cases h : s.length < 8
  · rw [d_lt (by omega), cond_true, if_pos h]; rfl
  · have e := cut_ok (l := s) (a := 0) (b := 8) (by omega) (by omega)
    rw [Int.natCast_zero] at e
    rw [d_nlt (by omega), cond_false, if_neg h, show IntKind.i64.wrap (0 + 8) = ((8 : Nat) : Int) by decide, e, obind_some, List.drop_zero, Nat.sub_zero, chk_ok (by simp; omega), word_l (g := GReader.mk s 0 0) (n := 8) (by simp; omega) (by simp) (by decide)]
    rfl
theorem rword_rd {s : List UInt8} (hs : s.length ≤ 1000000) : m_telltaleref01_RWord (GReader.mk s 0 0) = some (rdG s) := by
  unfold m_telltaleref01_RWord m_telltaleref01_rest rdG rdW
  simp only
  have e := cut_ok (l := s) (a := 0) (b := s.length) (by omega) (Nat.le_refl _)
  rw [Int.natCast_zero] at e
  rw [d_nlt (by decide), cond_false, d_nlt (by omega), cond_false, e, obind_some, List.drop_zero, Nat.sub_zero, List.take_of_length_le (Nat.le_refl _), obind_some, decide_eq_false (by decide), cond_false]
  by_cases h : s.length < 8
  · rw [d_lt (by omega), cond_true, if_pos h]
  · rw [d_nlt (by omega), cond_false, if_neg h]
    have := loopG_0 (L := fun fu (u : Nat) i => m_telltaleref01_RWord_l2 (GReader.mk s 0 0) s fu (u : Int) i) (n := 8) (P := fun i u o => u < 256 ^ i → o = some (GReader.mk s 8 0, ((beN u ((s.take 8).drop i) : Nat) : Int))) (by omega)
      (fun fu u hu => by
        unfold m_telltaleref01_RWord_l2
        rw [d_nlt (by omega), cond_false, List.drop_of_length_le (by simp; omega)]; rfl)
      (fun fu u i hi ih hu => by
        unfold m_telltaleref01_RWord_l2
        have hil : i < s.length := by omega
        have hc := UInt8.toNat_lt s[i]
        have hp := pow256 (show i ≤ 7 by omega)
        have := ih (u * 256 + s[i].toNat) (by rw [Nat.pow_succ]; omega)
        have hw : IntKind.u64.wrap (IntKind.u64.wrap ((u : Int) * 256) + ((s[i].toNat : Nat) : Int)) = ((u * 256 + s[i].toNat : Nat) : Int) := by rw [wu64, wu64]; omega
        have ht : (s.take 8).drop i = s[i] :: (s.take 8).drop (i + 1) := by
          have hi2 : i < (s.take 8).length := by simp; omega
          rw [List.drop_eq_getElem_cons hi2, List.getElem_take]
        rw [d_lt (by omega), cond_true, geti_lt hil, obind_some, hw, inc_ok (by omega), this, ht]; rfl) 0 (by decide)
    exact this
theorem beN_lt : ∀ (l : List UInt8) (a k : Nat), a < 256 ^ k → beN a l < 256 ^ (k + l.length)
  | [], a, k, h => h
  | x :: l, a, k, h => by
    have hc := UInt8.toNat_lt x
    have := beN_lt l (a * 256 + x.toNat) (k + 1) (by rw [Nat.pow_succ]; omega)
    rw [show k + (x :: l).length = k + 1 + l.length by simp; omega]
    exact this
theorem rdW_lt {s : List UInt8} {w : Nat} (h : rdW s = some w) : w < 18446744073709551616 := by
  unfold rdW at h
  split at h
  · cases h
  · rename_i hl
    have := beN_lt (s.take 8) 0 0 (by decide)
    rw [show 0 + (s.take 8).length = 8 by simp; omega] at this
    cases h
    exact this
def zeroV : GValue := GValue.mk 0 0 0 []
/-- The body behind the kind, from place a on. -/
def bodyP (k : UInt8) (l : List UInt8) (a : Nat) : GValue × Int × Int :=
  if k.toNat = 1 then (GValue.mk k (zback (ztk l a).1) 0 [], (((ztk l a).2.1 : Nat) : Int), (((ztk l a).2.2 : Nat) : Int))
  else if k.toNat = 2 then (match l[a]? with | none => (GValue.mk k 0 0 [], 0, 3) | some x => (GValue.mk k ((x.toNat : Nat) : Int) 0 [], (a : Int) + 1, 0))
  else if k.toNat = 3 then (match rdW (l.drop a) with | none => (GValue.mk k 0 0 [], (a : Int), 3) | some w => (GValue.mk k 0 (w : Int) [], (a : Int) + 8, 0))
  else if k.toNat = 4 then (if (ztk l a).2.2 ≠ 0 then (GValue.mk k 0 0 [], 0, (((ztk l a).2.2 : Nat) : Int)) else if 24 < (ztk l a).1 then (GValue.mk k 0 0 [], 0, 5) else if l.length < (ztk l a).2.1 + (ztk l a).1 then (GValue.mk k 0 0 [], 0, 3) else (GValue.mk k 0 0 ((l.drop (ztk l a).2.1).take (ztk l a).1), (((ztk l a).2.1 + (ztk l a).1 : Nat) : Int), 0))
  else (GValue.mk k 0 0 [], 0, 11)
theorem tk_place (l : List UInt8) : ∀ (f i u : Nat), (tk l f i u).2.2 = 0 → (tk l f i u).2.1 ≤ l.length
  | 0, _, _, h => by simp [tk] at h
  | f + 1, i, u, h => by
    rw [tk] at h ⊢
    cases hl : l[i]? with
    | none => simp
    | some c =>
      rw [hl] at h
      simp only at h ⊢
      have hi := (List.getElem?_eq_some_iff.1 hl).1
      split
      · simp
      · split
        · simp
        · split
          · simp only; omega
          · rw [if_neg ‹_›, if_neg ‹_›, if_neg ‹_›] at h
            exact tk_place l f _ _ h
theorem ztk_place {l : List UInt8} {a : Nat} (ha : a ≤ l.length) : (ztk l a).2.1 ≤ l.length := by
  unfold ztk
  rw [if_neg (by omega)]
  simp only
  split
  · rename_i h
    have := tk_place _ _ _ _ h
    rw [List.length_drop] at this
    rw [Int.toNat_natCast] at *
    omega
  · omega
theorem body_ok {k : UInt8} {l : List UInt8} {a : Nat} (hl : l.length ≤ 1000000) (ha : a ≤ l.length) : m_value_body k l (a : Int) = some (bodyP k l a) := by
  have hpl := ztk_place (l := l) ha
  unfold m_value_body bodyP
  by_cases k1 : k.toNat = 1
  · rw [decide_eq_true (by omega), cond_true, if_pos k1, takeint_ok hl, obind_some]
  rw [decide_eq_false (by omega), cond_false, if_neg k1]
  by_cases k2 : k.toNat = 2
  · rw [decide_eq_true (by omega), cond_true, if_pos k2]
    by_cases h : a < l.length
    · rw [decide_eq_false (by omega), cond_false, geti_lt h, obind_some, List.getElem?_eq_getElem h, w64 (by omega) (by omega)]
    · rw [decide_eq_true (by omega), cond_true, List.getElem?_eq_none (by omega)]
  rw [decide_eq_false (by omega), cond_false, if_neg k2]
  by_cases k3 : k.toNat = 3
  · rw [decide_eq_true (by omega), cond_true, if_pos k3, cut_ok ha (Nat.le_refl _), obind_some, List.take_of_length_le (by simp)]
    unfold m_octet_Open
    rw [obind_some, pword_ok (by simp; omega), obind_some]
    unfold rdG
    cases rdW (l.drop a) with
    | none => simp only; rw [w64 (by omega) (by omega), Int.add_zero]
    | some w => simp only; rw [w64 (by omega) (by omega)]
  rw [decide_eq_false (by omega), cond_false, if_neg k3]
  by_cases k4 : k.toNat = 4
  · rw [decide_eq_true (by omega), cond_true, if_pos k4, take_ok hl, obind_some]
    unfold ztkI
    simp only
    by_cases c1 : (ztk l a).2.2 = 0
    · rw [decide_eq_false (by omega), cond_false, if_neg (by omega)]
      by_cases c2 : 24 < (ztk l a).1
      · rw [d_lt (by omega), cond_true, if_pos c2]
      · rw [d_nlt (by omega), cond_false, if_neg c2, w64 (n := (((ztk l a).1 : Nat) : Int)) (by omega) (by omega), w64 (n := ((l.length : Nat) : Int) - (((ztk l a).2.1 : Nat) : Int)) (by omega) (by omega)]
        by_cases c3 : l.length < (ztk l a).2.1 + (ztk l a).1
        · rw [d_lt (by omega), cond_true, if_pos c3]
        · rw [d_nlt (by omega), cond_false, if_neg c3, w64 (n := (((ztk l a).2.1 : Nat) : Int) + (((ztk l a).1 : Nat) : Int)) (by omega) (by omega), show (((ztk l a).2.1 : Nat) : Int) + (((ztk l a).1 : Nat) : Int) = (((ztk l a).2.1 + (ztk l a).1 : Nat) : Int) by omega, cut_ok (by omega) (by omega), obind_some, Nat.add_sub_cancel_left]
    · rw [decide_eq_true (by omega), cond_true, if_pos c1]
  · rw [decide_eq_false (by omega), cond_false, if_neg k4]
theorem body_u {k : UInt8} {l : List UInt8} {a : Nat} : u64B (bodyP k l a).1.Bits := by
  unfold bodyP
  split
  · exact ⟨by simp, by simp⟩
  · split
    · split <;> exact ⟨by simp, by simp⟩
    · split
      · split
        · exact ⟨by simp, by simp⟩
        · rename_i w h
          have := rdW_lt h
          exact ⟨by simp only; omega, by simp only; omega⟩
      · split
        · split
          · exact ⟨by simp, by simp⟩
          · split
            · exact ⟨by simp, by simp⟩
            · split <;> exact ⟨by simp, by simp⟩
        · exact ⟨by simp, by simp⟩
def endV (r : GValue × Int × Int) : GValue × Int × Int := if r.2.2 ≠ 0 then (zeroV, 0, r.2.2) else if chkV r.1 ≠ 0 then (zeroV, 0, chkV r.1) else (r.1, r.2.1, 0)
def vtk (l : List UInt8) (a : Int) : GValue × Int × Int :=
  if a < 0 ∨ (l.length : Int) < a then (zeroV, 0, 2) else match l[a.toNat]? with
    | none => (zeroV, 0, 3)
    | some k => endV (bodyP k l (a.toNat + 1))
theorem vtake_ok {l : List UInt8} (hl : l.length ≤ 1000000) (a : Int) : m_value_Take l a = some (vtk l a) := by
  unfold m_value_Take vtk
  by_cases h1 : a < 0
  · rw [d_lt h1, if_pos (.inl h1)]; rfl
  rw [d_nlt h1, cond_false]
  by_cases h2 : (l.length : Int) < a
  · rw [d_lt h2, if_pos (.inr h2)]; rfl
  rw [d_nlt h2, cond_false, if_neg (by omega)]
  obtain ⟨n, rfl⟩ : ∃ n : Nat, a = n := ⟨a.toNat, by omega⟩
  rw [Int.toNat_natCast]
  by_cases h3 : n < l.length
  · rw [decide_eq_false (by omega), cond_false, geti_lt h3, obind_some, List.getElem?_eq_getElem h3, inc_ok (by omega), body_ok hl (by omega), obind_some, check_ok body_u, obind_some]
    show _ = some (endV (bodyP l[n] l (n + 1)))
    unfold m_value_Take_j4 endV
    by_cases c1 : (bodyP l[n] l (n + 1)).2.2 = 0
    · rw [decide_eq_true c1, cond_true, if_neg (by simp [c1])]
      by_cases c2 : chkV (bodyP l[n] l (n + 1)).1 = 0
      · rw [decide_eq_false (by simp [c2]), cond_false, if_neg (by simp [c2])]
      · rw [decide_eq_true c2, cond_true, if_pos c2]; rfl
    · rw [decide_eq_false c1, cond_false, decide_eq_true c1, cond_true, if_pos c1]; rfl
  · rw [decide_eq_true (by omega), cond_true, List.getElem?_eq_none (by omega)]; rfl
theorem end_ok {v : GValue} {n : Int} (h : u64B v.Bits) : m_telltaleref04_Take_j12 v n = some (endV (v, n, 0)) := by
  unfold m_telltaleref04_Take_j12 endV
  rw [rcheck_ok h, obind_some, if_neg (by simp)]
  by_cases c : chkV v = 0
  · rw [decide_eq_false (by simp [c]), cond_false, if_neg (by simp [c])]
  · rw [decide_eq_true c, cond_true, if_pos c]; rfl
theorem end_err {v : GValue} {n e : Int} (h : e ≠ 0) : endV (v, n, e) = (GValue.mk 0 0 0 [], 0, e) := by
  unfold endV; rw [if_pos h]; rfl
theorem rvtake_ok {l : List UInt8} (hl : l.length ≤ 1000000) (a : Int) : m_telltaleref04_Take l a = some (vtk l a) := by
  unfold m_telltaleref04_Take vtk
  by_cases h1 : a < 0
  · rw [d_lt h1, if_pos (.inl h1)]; rfl
  rw [d_nlt h1, cond_false]
  by_cases h2 : (l.length : Int) < a
  · rw [d_lt h2, if_pos (.inr h2)]; rfl
  rw [d_nlt h2, cond_false, if_neg (by omega)]
  obtain ⟨n, rfl⟩ : ∃ n : Nat, a = n := ⟨a.toNat, by omega⟩
  rw [Int.toNat_natCast]
  by_cases h3 : n < l.length
  · rw [decide_eq_false (by omega), cond_false, geti_lt h3, obind_some, List.getElem?_eq_getElem h3, inc_ok (by omega)]
    show _ = some (endV (bodyP l[n] l (n + 1)))
    have hpl := ztk_place (l := l) (a := n + 1) (by omega)
    generalize l[n] = k
    unfold bodyP
    have z0 : u64B 0 := ⟨by decide, by decide⟩
    by_cases q1 : k.toNat < 1
    · rw [d_lt (by omega), cond_true, if_neg (by omega), if_neg (by omega), if_neg (by omega), if_neg (by omega), end_err (by decide)]
    rw [d_nlt (by omega), cond_false]
    by_cases q2 : 4 < k.toNat
    · rw [d_lt (by omega), cond_true, if_neg (by omega), if_neg (by omega), if_neg (by omega), if_neg (by omega), end_err (by decide)]
    rw [d_nlt (by omega), cond_false]
    by_cases k2 : k.toNat = 2
    · rw [decide_eq_true (by omega), cond_true, if_neg (by omega), if_pos k2]
      by_cases h : n + 1 < l.length
      · rw [decide_eq_false (by omega), cond_false, geti_lt h, obind_some, List.getElem?_eq_getElem h, inc_ok (by omega), end_ok (by exact z0)]
        simp only
        rw [show ((n + 1 : Nat) : Int) + 1 = ((n + 1 + 1 : Nat) : Int) by omega]
      · rw [decide_eq_true (by omega), cond_true, List.getElem?_eq_none (by omega)]
        simp only
        rw [end_err (by decide)]
    rw [decide_eq_false (by omega), cond_false]
    by_cases k3 : k.toNat = 3
    · rw [decide_eq_true (by omega), cond_true, if_neg (by omega), if_neg k2, if_pos k3, cut_ok (by omega) (Nat.le_refl _), obind_some, List.take_of_length_le (by simp)]
      unfold m_telltaleref01_Open
      rw [obind_some, rword_rd (by simp; omega), obind_some]
      unfold rdG
      cases hr : rdW (l.drop (n + 1)) with
      | none => simp only; rw [decide_eq_true (by decide), cond_true, end_err (by decide)]
      | some w =>
        have := rdW_lt hr
        simp only
        rw [decide_eq_false (by decide), cond_false, end_ok ⟨by simp only; omega, by simp only; omega⟩, w64 (by omega) (by omega)]
    rw [decide_eq_false (by omega), cond_false, rtake_ok hl, obind_some]
    unfold ztkI
    simp only
    generalize hz : ztk l ((n + 1 : Nat) : Int) = z at hpl
    by_cases c1 : z.2.2 = 0
    · rw [decide_eq_false (by omega), cond_false]
      by_cases k1 : k.toNat = 1
      · have hlt := ztk_lt l ((n + 1 : Nat) : Int)
        rw [hz] at hlt
        rw [decide_eq_true (by omega), cond_true, if_pos k1, rback_ok hlt, obind_some, end_ok (by exact z0), c1]; rfl
      · rw [decide_eq_false (by omega), cond_false, if_neg k1, if_neg k2, if_neg k3, if_pos (show k.toNat = 4 by omega), if_neg (by omega)]
        by_cases c2 : 24 < z.1
        · rw [d_lt (by omega), cond_true, if_pos c2, end_err (by decide)]
        · rw [d_nlt (by omega), cond_false, if_neg c2, w64 (n := ((z.1 : Nat) : Int)) (by omega) (by omega), w64 (n := ((l.length : Nat) : Int) - ((z.2.1 : Nat) : Int)) (by omega) (by omega)]
          by_cases c3 : l.length < z.2.1 + z.1
          · rw [d_lt (by omega), cond_true, if_pos c3, end_err (by decide)]
          · rw [d_nlt (by omega), cond_false, if_neg c3, w64 (n := ((z.2.1 : Nat) : Int) + ((z.1 : Nat) : Int)) (by omega) (by omega), show ((z.2.1 : Nat) : Int) + ((z.1 : Nat) : Int) = ((z.2.1 + z.1 : Nat) : Int) by omega, cut_ok (by omega) (by omega), obind_some, Nat.add_sub_cancel_left, end_ok (by exact z0)]
    · rw [decide_eq_true (by omega), cond_true]
      by_cases k1 : k.toNat = 1
      · rw [if_pos k1, end_err (by omega)]
      · rw [if_neg k1, if_neg k2, if_neg k3, if_pos (show k.toNat = 4 by omega), if_pos c1, end_err (by omega)]
  · rw [decide_eq_true (by omega), cond_true, List.getElem?_eq_none (by omega)]; rfl
end Go.Proofs.Ytbgioanegbipgaa.K
namespace Go.Proofs.Ytbgioanegbipgaa.K
open Go.RowKit Go.Lib
set_option linter.unusedVariables false
set_option linter.unusedSimpArgs false
theorem zb_lt {u : Nat} (h : u < 128) : zb u = [UInt8.ofNat u] := by
  unfold zb
  rw [zn_lt h]
  simp [zbyte, List.range_succ, Nat.mod_eq_of_lt h]
theorem zb_ge {u : Nat} (h : ¬ u < 128) : zb u = UInt8.ofNat (u % 128 + 128) :: zb (u / 128) := by
  have hp := zn_pos (u / 128)
  unfold zb
  rw [zn_ge h, List.range_succ_eq_map, List.map_cons, List.map_map]
  congr 1
  · unfold zbyte; rw [if_neg (by omega)]; simp
  · apply List.map_congr_left
    intro i _
    show zbyte u (zn (u / 128) + 1) (i + 1) = zbyte (u / 128) (zn (u / 128)) i
    have e : u / 128 ^ (i + 1) = u / 128 / 128 ^ i := by rw [Nat.pow_succ, Nat.mul_comm, Nat.div_div_eq_div_mul]
    unfold zbyte
    rw [e]
    by_cases h : i + 1 = zn (u / 128)
    · rw [if_pos (by omega), if_pos h]
    · rw [if_neg (by omega), if_neg h]
/-- Read a number: it, and what is left. -/
def zd : List UInt8 → Option (Nat × List UInt8)
  | [] => none
  | x :: l => if x.toNat < 128 then some (x.toNat, l) else (zd l).map fun p => (x.toNat - 128 + 128 * p.1, p.2)
theorem zd_zb : ∀ (u : Nat) (r : List UInt8), zd (zb u ++ r) = some (u, r) := by
  intro u
  induction u using Nat.strongRecOn with
  | ind u ih =>
    intro r
    by_cases h : u < 128
    · rw [zb_lt h]
      show zd (UInt8.ofNat u :: r) = _
      have e : (UInt8.ofNat u).toNat = u := by rw [UInt8.toNat_ofNat']; omega
      unfold zd
      rw [e, if_pos h]
    · rw [zb_ge h]
      show zd (UInt8.ofNat (u % 128 + 128) :: (zb (u / 128) ++ r)) = _
      have e : (UInt8.ofNat (u % 128 + 128)).toNat = u % 128 + 128 := by rw [UInt8.toNat_ofNat']; omega
      unfold zd
      rw [e, if_neg (by omega), ih (u / 128) (by omega) r]
      simp only [Option.map_some]
      congr 2; omega
theorem zb_app {u w : Nat} {r s : List UInt8} (h : zb u ++ r = zb w ++ s) : u = w ∧ r = s := by
  have := zd_zb u r
  rw [h, zd_zb] at this
  cases this
  exact ⟨rfl, rfl⟩
theorem zb_inj {u w : Nat} (h : zb u = zb w) : u = w := (zb_app (r := []) (s := []) (by simpa using h)).1
theorem zfold_inj {a b : Int} (h : zfold a = zfold b) : a = b := by rw [← zback_fold a, ← zback_fold b, h]
theorem beB_inj : ∀ (k u w : Nat), u < 256 ^ k → w < 256 ^ k → beB k u = beB k w → u = w
  | 0, u, w, h1, h2, _ => by simp at h1 h2; omega
  | k + 1, u, w, h1, h2, h => by
    simp only [beB] at h
    obtain ⟨e1, e2⟩ := List.append_inj' h rfl
    rw [Nat.pow_succ] at h1 h2
    have := beB_inj k (u / 256) (w / 256) (by omega) (by omega) e1
    have e3 : (UInt8.ofNat (u % 256)).toNat = (UInt8.ofNat (w % 256)).toNat := by rw [List.cons.inj e2 |>.1]
    rw [UInt8.toNat_ofNat', UInt8.toNat_ofNat'] at e3
    omega
/-- Two values that may be have the same bytes just if they are the same, whatever stands behind them. -/
theorem bytes_inj {v w : GValue} (hv : chkV v = 0) (hw : chkV w = 0) (bv : u64B v.Bits) (bw : u64B w.Bits) {r s : List UInt8} (h : v.Kind :: bytesV v ++ r = w.Kind :: bytesV w ++ s) : v = w ∧ r = s := by
  obtain ⟨k, n, b, t⟩ := v
  obtain ⟨k', n', b', t'⟩ := w
  rw [List.cons_append, List.cons_append] at h
  obtain ⟨e1, h⟩ := List.cons.inj h
  simp only at e1 bv bw
  subst e1
  unfold bytesV at h
  unfold chkV at hv hw
  simp only at h hv hw
  by_cases k1 : k.toNat = 1
  · rw [if_pos k1] at hv hw h
    rw [if_pos k1] at h
    obtain ⟨h1, h2⟩ := zb_app h
    have := zfold_inj h1
    by_cases c1 : n < -4611686018427387904 ∨ 4611686018427387904 < n
    · rw [if_pos c1] at hv; omega
    · by_cases c2 : n' < -4611686018427387904 ∨ 4611686018427387904 < n'
      · rw [if_pos c2] at hw; omega
      · rw [if_neg c1] at hv
        rw [if_neg c2] at hw
        by_cases d1 : b = 0 ∧ t = []
        · by_cases d2 : b' = 0 ∧ t' = []
          · rw [this, d1.1, d1.2, d2.1, d2.2]; exact ⟨rfl, h2⟩
          · rw [if_neg d2] at hw; omega
        · rw [if_neg d1] at hv; omega
  · rw [if_neg k1] at hv hw h
    rw [if_neg k1] at h
    by_cases k2 : k.toNat = 2
    · rw [if_pos k2] at hv hw h
      rw [if_pos k2] at h
      by_cases c1 : n < 0 ∨ 1 < n
      · rw [if_pos c1] at hv; omega
      · by_cases c2 : n' < 0 ∨ 1 < n'
        · rw [if_pos c2] at hw; omega
        · rw [if_neg c1] at hv
          rw [if_neg c2] at hw
          obtain ⟨e3, e4⟩ := List.cons.inj h
          have e5 := congrArg UInt8.toNat e3
          unfold toU8 at e5
          rw [UInt8.toNat_ofNat', UInt8.toNat_ofNat'] at e5
          by_cases d1 : b = 0 ∧ t = []
          · by_cases d2 : b' = 0 ∧ t' = []
            · rw [d1.1, d1.2, d2.1, d2.2, show n = n' by omega]; exact ⟨rfl, e4⟩
            · rw [if_neg d2] at hw; omega
          · rw [if_neg d1] at hv; omega
    · rw [if_neg k2] at hv hw h
      rw [if_neg k2] at h
      by_cases k3 : k.toNat = 3
      · rw [if_pos k3] at hv hw h
        rw [if_pos k3] at h
        obtain ⟨e3, e4⟩ := List.append_inj h (by rw [beB_len, beB_len])
        have e5 := beB_inj 8 _ _ (by have := bv.2; omega) (by have := bw.2; omega) e3
        have e6 : b = b' := by have := bv.1; have := bw.1; omega
        subst e6
        by_cases c1 : clean b ≠ b
        · rw [if_pos c1] at hv; omega
        · rw [if_neg c1] at hv hw
          by_cases d1 : n = 0 ∧ t = []
          · by_cases d2 : n' = 0 ∧ t' = []
            · rw [d1.1, d1.2, d2.1, d2.2]; exact ⟨rfl, e4⟩
            · rw [if_neg d2] at hw; omega
          · rw [if_neg d1] at hv; omega
      · rw [if_neg k3] at hv hw h
        rw [if_neg k3] at h
        by_cases k4 : k.toNat = 4
        · rw [if_pos k4] at hv hw
          rw [List.append_assoc, List.append_assoc] at h
          obtain ⟨e3, e4⟩ := zb_app h
          obtain ⟨e5, e6⟩ := List.append_inj e4 e3
          subst e5
          by_cases c1 : 24 < t.length
          · rw [if_pos c1] at hv; omega
          · rw [if_neg c1] at hv hw
            by_cases d1 : n = 0 ∧ b = 0
            · by_cases d2 : n' = 0 ∧ b' = 0
              · rw [d1.1, d1.2, d2.1, d2.2]; exact ⟨rfl, e6⟩
              · rw [if_neg d2] at hw; omega
            · rw [if_neg d1] at hv; omega
        · rw [if_neg k4] at hv; omega
end Go.Proofs.Ytbgioanegbipgaa.K
namespace Go.Proofs.Ytbgioanegbipgaa.K
open Go.RowKit Go.Lib
set_option linter.unusedVariables false
set_option linter.unusedSimpArgs false
theorem ztk_1 (k : UInt8) (t : List UInt8) : ztk (k :: t) ((1 : Nat) : Int) = zgo (k :: t) 1 (tk t 10 0 0) := by
  unfold ztk
  rw [if_neg (by simp only [List.length_cons]; omega)]
  rfl
theorem beN_snoc : ∀ (l : List UInt8) (a : Nat) (x : UInt8), beN a (l ++ [x]) = beN a l * 256 + x.toNat
  | [], a, x => rfl
  | y :: l, a, x => beN_snoc l (a * 256 + y.toNat) x
theorem beN_beB : ∀ (k u : Nat), u < 256 ^ k → beN 0 (beB k u) = u
  | 0, u, h => by simp at h; subst h; rfl
  | k + 1, u, h => by
    rw [Nat.pow_succ] at h
    rw [beB, beN_snoc, beN_beB k (u / 256) (by omega), UInt8.toNat_ofNat']; omega
theorem beB_beN : ∀ (n : Nat) (l : List UInt8), l.length = n → beB n (beN 0 l) = l
  | 0, l, h => by rw [List.length_eq_zero_iff.1 h]; rfl
  | n + 1, l, h => by
    have hne : l ≠ [] := fun e => by rw [e] at h; simp at h
    obtain ⟨r, x, rfl⟩ : ∃ r x, l = r ++ [x] := ⟨_, _, (List.dropLast_concat_getLast hne).symm⟩
    have hx := UInt8.toNat_lt x
    rw [beN_snoc, beB, show (beN 0 r * 256 + x.toNat) / 256 = beN 0 r by omega, show (beN 0 r * 256 + x.toNat) % 256 = x.toNat by omega, beB_beN n r (by simpa using h)]
    simp
theorem chk1 {v : GValue} (k1 : v.Kind.toNat = 1) (h : chkV v = 0) : v.Bits = 0 ∧ v.Text = [] := by
  unfold chkV at h
  rw [if_pos k1] at h
  split at h
  · omega
  · split at h
    · assumption
    · omega
theorem chk2 {v : GValue} (k2 : v.Kind.toNat = 2) (h : chkV v = 0) : (0 ≤ v.N ∧ v.N ≤ 1) ∧ v.Bits = 0 ∧ v.Text = [] := by
  unfold chkV at h
  rw [if_neg (by omega), if_pos k2] at h
  split at h
  · omega
  · split at h
    · exact ⟨by omega, by assumption⟩
    · omega
theorem chk3 {v : GValue} (k3 : v.Kind.toNat = 3) (h : chkV v = 0) : clean v.Bits = v.Bits ∧ v.N = 0 ∧ v.Text = [] := by
  unfold chkV at h
  rw [if_neg (by omega), if_neg (by omega), if_pos k3] at h
  split at h
  · omega
  · rename_i hc
    split at h
    · exact ⟨by simpa using hc, by assumption⟩
    · omega
theorem chk4 {v : GValue} (k4 : v.Kind.toNat = 4) (h : chkV v = 0) : v.Text.length ≤ 24 ∧ v.N = 0 ∧ v.Bits = 0 := by
  unfold chkV at h
  rw [if_neg (by omega), if_neg (by omega), if_neg (by omega), if_pos k4] at h
  split at h
  · omega
  · split at h
    · exact ⟨by omega, by assumption⟩
    · omega
theorem end_good {v : GValue} {n : Int} (h : chkV v = 0) : endV (v, n, 0) = (v, n, 0) := by
  unfold endV; rw [if_neg (by simp), if_neg (by simp [h])]
/-- What was put is taken. -/
theorem put_take {v : GValue} (hv : okB v) (hc : chkV v = 0) (r : List UInt8) : vtk ((v.Kind :: bytesV v) ++ r) 0 = (v, (((v.Kind :: bytesV v).length : Nat) : Int), 0) := by
  have hk := chk_range v
  unfold vtk
  rw [if_neg (by simp only [List.cons_append, List.length_cons]; omega), List.cons_append]
  show endV (bodyP v.Kind (v.Kind :: (bytesV v ++ r)) 1) = _
  obtain ⟨k, n, b, t⟩ := v
  simp only at *
  unfold bodyP
  rw [ztk_1]
  rcases hk with k1 | k2 | k3 | k4 | h
  · obtain ⟨h1, h2⟩ := chk1 (v := ⟨k, n, b, t⟩) k1 hc
    simp only at h1 h2
    subst h1; subst h2
    have hb : bytesV ⟨k, n, 0, []⟩ = zb (zfold n) := by unfold bytesV; rw [if_pos k1]
    rw [hb, if_pos k1, tk_put _ (zfold_lt n hv.N.1 hv.N.2)]
    unfold zgo
    simp only
    rw [if_pos trivial, zback_fold]
    show endV ((⟨k, n, 0, []⟩ : GValue), _, 0) = _
    rw [end_good hc]
    simp only [List.length_cons, zb_length]
    congr 2; omega
  · obtain ⟨h0, h1, h2⟩ := chk2 (v := ⟨k, n, b, t⟩) k2 hc
    simp only at h0 h1 h2
    subst h1; subst h2
    have hb : bytesV ⟨k, n, 0, []⟩ = [toU8 n] := by unfold bytesV; rw [if_neg (by simp only; omega), if_pos k2]
    have e : (((toU8 n).toNat : Nat) : Int) = n := by
      obtain ⟨m, rfl⟩ : ∃ m : Nat, n = m := ⟨n.toNat, by omega⟩
      rw [toU8_nat]; omega
    rw [hb, if_neg (by omega), if_pos k2]
    show endV ((⟨k, (((toU8 n).toNat : Nat) : Int), 0, []⟩ : GValue), _, 0) = _
    rw [e, end_good hc]
    rfl
  · obtain ⟨h0, h1, h2⟩ := chk3 (v := ⟨k, n, b, t⟩) k3 hc
    simp only at h0 h1 h2
    subst h1; subst h2
    have hb : bytesV ⟨k, 0, b, []⟩ = beB 8 b.toNat := by unfold bytesV; rw [if_neg (by simp only; omega), if_neg (by simp only; omega), if_pos k3]
    have hu := hv.B
    simp only at hu
    have hr : rdW (beB 8 b.toNat ++ r) = some b.toNat := by
      unfold rdW
      rw [if_neg (by rw [List.length_append, beB_len]; omega), List.take_left' (beB_len 8 _), beN_beB 8 _ (by have := hu.2; omega)]
    rw [hb, if_neg (by omega), if_neg (by omega), if_pos k3]
    rw [show List.drop 1 (k :: (beB 8 b.toNat ++ r)) = beB 8 b.toNat ++ r from rfl, hr]
    simp only
    rw [show ((b.toNat : Nat) : Int) = b by have := hu.1; omega]
    show endV ((⟨k, 0, b, []⟩ : GValue), _, 0) = _
    rw [end_good hc]
    simp only [List.length_cons, beB_len]
    rfl
  · obtain ⟨h0, h1, h2⟩ := chk4 (v := ⟨k, n, b, t⟩) k4 hc
    simp only at h0 h1 h2
    subst h1; subst h2
    have hb : bytesV ⟨k, 0, 0, t⟩ = zb t.length ++ t := by unfold bytesV; rw [if_neg (by simp only; omega), if_neg (by simp only; omega), if_neg (by simp only; omega)]
    rw [hb, if_neg (by omega), if_neg (by omega), if_neg (by omega), if_pos k4, List.append_assoc, tk_put _ (by omega)]
    unfold zgo
    simp only
    rw [if_neg (by simp), if_neg (by omega), if_pos trivial, if_neg (by simp [zb_length]; omega)]
    have ht : (List.drop (1 + zn t.length) (k :: (zb t.length ++ (t ++ r)))).take t.length = t := by
      rw [Nat.add_comm, List.drop_succ_cons, List.drop_left' (zb_length _), List.take_left' rfl]
    rw [ht]
    rw [end_good hc]
    simp only [List.length_cons, List.length_append, zb_length]
    congr 2; omega
  · rw [hc] at h; cases h
/-- What is taken has just these bytes. -/
theorem take_put {s : List UInt8} {x : GValue} {n : Int} (hs : s.length ≤ 1000) (h : vtk s 0 = (x, n, 0)) : chkV x = 0 ∧ okB x ∧ ∃ m : Nat, n = m ∧ m ≤ s.length ∧ x.Kind :: bytesV x = s.take m := by
  unfold vtk at h
  rw [if_neg (by simp)] at h
  cases s with
  | nil => simp at h
  | cons k t =>
    replace h : endV (bodyP k (k :: t) 1) = (x, n, 0) := h
    have hu := body_u (k := k) (l := k :: t) (a := 1)
    generalize hb : bodyP k (k :: t) 1 = y at h hu
    unfold endV at h
    by_cases c1 : y.2.2 ≠ 0
    · rw [if_pos c1] at h
      have := congrArg (fun p : GValue × Int × Int => p.2.2) h
      exact absurd this c1
    rw [if_neg c1] at h
    by_cases c2 : chkV y.1 ≠ 0
    · rw [if_pos c2] at h
      have := congrArg (fun p : GValue × Int × Int => p.2.2) h
      exact absurd this c2
    rw [if_neg c2] at h
    obtain ⟨y1, y2, y3⟩ := y
    simp only at c1 c2 h hu
    have hy3 : y3 = 0 := by omega
    subst hy3
    cases h
    have hc : chkV x = 0 := by omega
    simp only [List.length_cons] at hs
    refine ⟨hc, ?_⟩
    unfold bodyP at hb
    rw [ztk_1] at hb
    by_cases k1 : k.toNat = 1
    · rw [if_pos k1] at hb
      unfold zgo at hb
      simp only [Prod.mk.injEq] at hb
      obtain ⟨b1, b2, b3⟩ := hb
      have hlt := tk_lt t 10 0 0 rfl (by decide)
      have e0 : (tk t 10 0 0).2.2 = 0 := by omega
      obtain ⟨q1, q2⟩ := tk_bytes (l := t) (u := (tk t 10 0 0).1) (n := (tk t 10 0 0).2.1) (Prod.ext rfl (Prod.ext rfl e0))
      rw [if_pos e0] at b2
      subst b1
      refine ⟨⟨⟨zback_lo _ hlt, zback_hi _ hlt⟩, hu, by simp⟩, _, b2.symm, by simp only [List.length_cons]; omega, ?_⟩
      rw [Nat.add_comm, List.take_succ_cons, q2]
      unfold bytesV
      rw [if_pos k1, zfold_back]
    rw [if_neg k1] at hb
    by_cases k2 : k.toNat = 2
    · rw [if_pos k2] at hb
      cases t with
      | nil => simp at hb
      | cons z t =>
        simp only [List.getElem?_cons_succ, List.getElem?_cons_zero, Prod.mk.injEq] at hb
        obtain ⟨b1, b2, b3⟩ := hb
        subst b1
        have hz := UInt8.toNat_lt z
        refine ⟨⟨⟨by simp only; omega, by simp only; omega⟩, hu, by simp⟩, 2, by omega, by simp, ?_⟩
        unfold bytesV
        rw [if_neg (by simp only; omega), if_pos k2]
        have : toU8 ((z.toNat : Nat) : Int) = z := by
          apply UInt8.toNat_inj.1
          rw [toU8_nat]; omega
        rw [this]; rfl
    rw [if_neg k2] at hb
    by_cases k3 : k.toNat = 3
    · rw [if_pos k3] at hb
      rw [show List.drop 1 (k :: t) = t from rfl] at hb
      cases hw : rdW t with
      | none => rw [hw] at hb; simp at hb
      | some w =>
        rw [hw] at hb
        simp only [Prod.mk.injEq] at hb
        obtain ⟨b1, b2, b3⟩ := hb
        subst b1
        have hlt := rdW_lt hw
        unfold rdW at hw
        split at hw
        · cases hw
        · rename_i hl
          have hw := Option.some.inj hw
          refine ⟨⟨⟨by simp, by simp⟩, hu, by simp⟩, 9, by omega, by simp only [List.length_cons]; omega, ?_⟩
          unfold bytesV
          rw [if_neg (by simp only; omega), if_neg (by simp only; omega), if_pos k3, List.take_succ_cons]
          simp only [Int.toNat_natCast]
          rw [← hw, beB_beN 8 _ (by simp; omega)]
    rw [if_neg k3] at hb
    by_cases k4 : k.toNat = 4
    · rw [if_pos k4] at hb
      have hlt := tk_lt t 10 0 0 rfl (by decide)
      unfold zgo at hb
      simp only at hb
      by_cases d1 : (tk t 10 0 0).2.2 = 0
      · rw [if_neg (by simp [d1]), if_pos d1] at hb
        by_cases d2 : 24 < (tk t 10 0 0).1
        · rw [if_pos d2] at hb; simp at hb
        rw [if_neg d2] at hb
        by_cases d3 : (k :: t).length < 1 + (tk t 10 0 0).2.1 + (tk t 10 0 0).1
        · rw [if_pos d3] at hb; simp at hb
        rw [if_neg d3] at hb
        simp only [Prod.mk.injEq] at hb
        obtain ⟨b1, b2, b3⟩ := hb
        obtain ⟨q1, q2⟩ := tk_bytes (l := t) (u := (tk t 10 0 0).1) (n := (tk t 10 0 0).2.1) (Prod.ext rfl (Prod.ext rfl d1))
        generalize (tk t 10 0 0).2.1 = m at *
        generalize (tk t 10 0 0).1 = u at *
        rw [Nat.add_comm 1 m, List.drop_succ_cons] at b1
        subst b1
        simp only [List.length_cons] at d3
        have hlen : ((t.drop m).take u).length = u := by rw [List.length_take, List.length_drop]; omega
        refine ⟨⟨⟨by simp, by simp⟩, hu, by simp only [hlen]; omega⟩, _, b2.symm, by simp only [List.length_cons]; omega, ?_⟩
        unfold bytesV
        rw [if_neg (by simp only; omega), if_neg (by simp only; omega), if_neg (by simp only; omega)]
        simp only [hlen]
        rw [show 1 + m + u = (m + u) + 1 by omega, List.take_succ_cons, List.take_add, q2]
      · rw [if_pos (by simpa using d1)] at hb
        simp only [Prod.mk.injEq] at hb
        omega
    rw [if_neg k4] at hb
    simp at hb
theorem ztk_drop {l : List UInt8} {a b : Nat} (h : a + b ≤ l.length) : ztk l ((a + b : Nat) : Int) = ((ztk (l.drop a) (b : Int)).1, if (ztk (l.drop a) (b : Int)).2.2 = 0 then a + (ztk (l.drop a) (b : Int)).2.1 else 0, (ztk (l.drop a) (b : Int)).2.2) := by
  unfold ztk
  rw [if_neg (by omega), if_neg (by rw [List.length_drop]; omega)]
  simp only [Int.toNat_natCast, List.drop_drop]
  split
  · rw [Nat.add_assoc]
  · rfl
theorem ztk_drop0 {l : List UInt8} {a : Nat} (h : a ≤ l.length) : ztk l (a : Int) = zgo l a (tk (l.drop a) 10 0 0) := by
  unfold ztk zgo
  rw [if_neg (by omega)]
  simp only [Int.toNat_natCast]
/-- A body behind place a. -/
theorem body_drop {k : UInt8} {l : List UInt8} {a b : Nat} (h : a + b ≤ l.length) : (bodyP k l (a + b)).1 = (bodyP k (l.drop a) b).1 ∧ (bodyP k l (a + b)).2.2 = (bodyP k (l.drop a) b).2.2 ∧
    ((bodyP k l (a + b)).2.2 = 0 → (bodyP k l (a + b)).2.1 = (a : Int) + (bodyP k (l.drop a) b).2.1) := by
  have hz := ztk_drop h
  have hd : (l.drop a)[b]? = l[a + b]? := by rw [List.getElem?_drop]
  have hdd : (l.drop a).drop b = l.drop (a + b) := by rw [List.drop_drop]
  unfold bodyP
  rw [hz, hd, hdd]
  generalize ztk (l.drop a) (b : Int) = z
  obtain ⟨z1, z2, z3⟩ := z
  simp only
  by_cases k1 : k.toNat = 1
  · simp only [if_pos k1]
    refine ⟨trivial, trivial, fun h => ?_⟩
    rw [if_pos (by omega)]; omega
  simp only [if_neg k1]
  by_cases k2 : k.toNat = 2
  · simp only [if_pos k2]
    cases l[a + b]? with
    | none => exact ⟨rfl, rfl, fun h => by simp at h⟩
    | some x => exact ⟨rfl, rfl, fun h => by simp only; omega⟩
  simp only [if_neg k2]
  by_cases k3 : k.toNat = 3
  · simp only [if_pos k3]
    cases rdW (l.drop (a + b)) with
    | none => exact ⟨rfl, rfl, fun h => by simp at h⟩
    | some x => exact ⟨rfl, rfl, fun h => by simp only; omega⟩
  simp only [if_neg k3]
  by_cases k4 : k.toNat = 4
  · simp only [if_pos k4]
    by_cases c1 : z3 = 0
    · simp only [c1, ne_eq, not_true_eq_false, if_false, if_true]
      by_cases c2 : 24 < z1
      · simp only [if_pos c2]; exact ⟨trivial, trivial, fun h => by simp at h⟩
      · simp only [if_neg c2]
        by_cases c3 : l.length < a + z2 + z1
        · rw [if_pos c3, if_pos (by rw [List.length_drop]; omega)]; exact ⟨rfl, rfl, fun h => by simp at h⟩
        · rw [if_neg c3, if_neg (by rw [List.length_drop]; omega), List.drop_drop]; exact ⟨rfl, rfl, fun h => by simp only; omega⟩
    · simp only [ne_eq, c1, not_false_eq_true, if_true, if_false]; exact ⟨trivial, trivial, fun h => by omega⟩
  simp only [if_neg k4]
  exact ⟨trivial, trivial, fun h => by simp at h⟩
theorem endV_drop {r q : GValue × Int × Int} {a : Int} (h1 : r.1 = q.1) (h2 : r.2.2 = q.2.2) (h3 : r.2.2 = 0 → r.2.1 = a + q.2.1) : endV r = ((endV q).1, if (endV q).2.2 = 0 then a + (endV q).2.1 else 0, (endV q).2.2) := by
  obtain ⟨r1, r2, r3⟩ := r
  obtain ⟨q1, q2, q3⟩ := q
  simp only at h1 h2 h3
  subst h1; subst h2
  unfold endV
  by_cases c1 : r3 = 0
  · by_cases c2 : chkV r1 = 0
    · have h3 := h3 c1
      subst h3
      simp [c1, c2]
    · simp [c1, c2]
  · simp [c1]
/-- Taken behind place a. -/
theorem vtk_drop {l : List UInt8} {a : Nat} (h : a ≤ l.length) : vtk l (a : Int) = ((vtk (l.drop a) 0).1, if (vtk (l.drop a) 0).2.2 = 0 then (a : Int) + (vtk (l.drop a) 0).2.1 else 0, (vtk (l.drop a) 0).2.2) := by
  unfold vtk
  rw [if_neg (by omega), if_neg (by rw [List.length_drop]; omega), Int.toNat_natCast, Int.toNat_zero, show (l.drop a)[0]? = l[a]? by rw [List.getElem?_drop, Nat.add_zero]]
  by_cases hl : a < l.length
  · rw [List.getElem?_eq_getElem hl]
    simp only
    obtain ⟨b1, b2, b3⟩ := body_drop (k := l[a]) (l := l) (a := a) (b := 1) (by omega)
    exact endV_drop b1 b2 b3
  · rw [List.getElem?_eq_none (by omega)]
    simp
end Go.Proofs.Ytbgioanegbipgaa.K
