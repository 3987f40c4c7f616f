/- Merged: ZigP ZigK Pval Pzig Pztake Pvput Pvtake Pzdec Pvback. -/
import Derived.Lib.BitFns
import Derived.Test.YtaaooafcijdbmaaDoorZOC
import Derived.Test.YtaaooafcijdbmaaDoorZD1
import Derived.Test.YtaaooafcijdbmaaDoorZAm
import Derived.Test.YtaaooafcijdbmaaDoorRows
import Derived.LaidLaws
import Derived.Handed
set_option linter.unusedVariables false
set_option linter.unusedSimpArgs false
namespace Go.Proofs.YtaaooafcijdbmaaDoor

def zs (u : Nat) : List Nat := if u < 128 then [u] else u % 128 :: zs (u / 128)
termination_by u
decreasing_by omega
theorem zs_lt {u : Nat} (h : u < 128) : zs u = [u] := by rw [zs, if_pos h]
theorem zs_ge {u : Nat} (h : ¬ u < 128) : zs u = u % 128 :: zs (u / 128) := by rw [zs, if_neg h]
def zn (u : Nat) : Nat := (zs u).length
theorem zn_lt {u : Nat} (h : u < 128) : zn u = 1 := by rw [zn, zs_lt h]; rfl
theorem zn_ge {u : Nat} (h : ¬ u < 128) : zn u = zn (u / 128) + 1 := by rw [zn, zs_ge h]; rfl
theorem zn_pos (u : Nat) : 1 ≤ zn u := by
  by_cases h : u < 128
  · rw [zn_lt h]; exact Nat.le_refl _
  · rw [zn_ge h]; omega
theorem zs_get : ∀ (u i : Nat), i < zn u → (zs u)[i]? = some (u / 128 ^ i % 128) := by
  intro u
  induction u using Nat.strongRecOn with
  | ind u ih =>
    intro i hi
    by_cases h : u < 128
    · rw [zn_lt h] at hi
      have : i = 0 := by omega
      subst this
      rw [zs_lt h]
      simp [Nat.mod_eq_of_lt h]
    · rw [zs_ge h]
      cases i with
      | zero => simp
      | succ i =>
        rw [zn_ge h] at hi
        rw [List.getElem?_cons_succ, ih (u / 128) (by omega) i (by omega), Nat.div_div_eq_div_mul, Nat.pow_succ, Nat.mul_comm 128]
theorem zn_le (k : Nat) : ∀ u, u < 128 ^ (k + 1) → zn u ≤ k + 1 := by
  induction k with
  | zero => intro u h; rw [zn_lt (by simpa using h)]; exact Nat.le_refl _
  | succ k ih =>
    intro u h
    by_cases hu : u < 128
    · rw [zn_lt hu]; omega
    · rw [zn_ge hu]
      have := ih (u / 128) (by rw [Nat.pow_succ] at h; omega)
      omega
theorem zn_le10 (u : Nat) (h : u < 18446744073709551616) : zn u ≤ 10 := zn_le 9 u (Nat.lt_of_lt_of_le h (by decide))
theorem zn_hi (u : Nat) : u < 128 ^ zn u := by
  induction u using Nat.strongRecOn with
  | ind u ih =>
    by_cases h : u < 128
    · rw [zn_lt h]; simpa using h
    · rw [zn_ge h, Nat.pow_succ]
      have := ih (u / 128) (by omega)
      omega
theorem zn_lo (u : Nat) (h : 1 < zn u) : 128 ^ (zn u - 1) ≤ u := by
  induction u using Nat.strongRecOn with
  | ind u ih =>
    by_cases hu : u < 128
    · rw [zn_lt hu] at h; omega
    · rw [zn_ge hu, Nat.add_sub_cancel]
      by_cases h1 : 1 < zn (u / 128)
      · have := ih (u / 128) (by omega) h1
        have e : zn (u / 128) = (zn (u / 128) - 1) + 1 := by omega
        rw [e, Nat.pow_succ]
        omega
      · have := zn_pos (u / 128)
        have e : zn (u / 128) = 1 := by omega
        rw [e]; omega
/-- The program's way to count: by the bits that a number needs. -/
theorem zn_bits (u : Nat) (h : u < 18446744073709551616) : max 1 ((Lib.bitLen u + 6) / 7) = zn u := by
  induction u using Nat.strongRecOn with
  | ind u ih =>
    by_cases hu : u < 128
    · rw [zn_lt hu]
      have := Lib.bitLen_le u 7 (by omega) (by simpa using hu)
      omega
    · rw [zn_ge hu, ← ih (u / 128) (by omega) (by omega)]
      have := Lib.bitLen_shift 7 u (by simpa using (by omega : 128 ≤ u)) h
      have e : (2 : Nat) ^ 7 = 128 := rfl
      rw [e] at this
      have h0 : 1 ≤ Lib.bitLen (u / 128) := by
        have := Lib.bitLen_half (u / 128) (by omega) (by omega)
        omega
      omega

/-- The byte at a place: the last one says that there is no more. -/
def zbyte (u n i : Nat) : UInt8 := if i + 1 = n then UInt8.ofNat (u / 128 ^ i % 128) else UInt8.ofNat (u / 128 ^ i % 128 + 128)
def zb (u : Nat) : List UInt8 := (List.range (zn u)).map (zbyte u (zn u))
theorem zb_length (u : Nat) : (zb u).length = zn u := by simp [zb]

/-- Folding. -/
def zfold (n : Int) : Nat := if n < 0 then (2 * (-(n + 1)) + 1).toNat else (2 * n).toNat
def zback (u : Nat) : Int := if u % 2 = 1 then -((u / 2 : Nat) : Int) - 1 else ((u / 2 : Nat) : Int)
theorem zfold_lt (n : Int) (h0 : -9223372036854775808 ≤ n) (h1 : n ≤ 9223372036854775807) : zfold n < 18446744073709551616 := by
  unfold zfold; split <;> omega
theorem zback_fold (n : Int) : zback (zfold n) = n := by
  unfold zback zfold; split <;> split <;> omega
theorem zfold_back (u : Nat) : zfold (zback u) = u := by
  unfold zback zfold; split <;> split <;> omega
theorem zback_lo (u : Nat) (h : u < 18446744073709551616) : -9223372036854775808 ≤ zback u := by unfold zback; split <;> omega
theorem zback_hi (u : Nat) (h : u < 18446744073709551616) : zback u ≤ 9223372036854775807 := by unfold zback; split <;> omega
end Go.Proofs.YtaaooafcijdbmaaDoor
namespace Go.Proofs.YtaaooafcijdbmaaDoor
/-- A number read off bytes, from place i on, u being what was read: the number, the place behind it, the error. -/
def tk (l : List UInt8) : Nat → Nat → Nat → Nat × Nat × Nat
  | 0, _, _ => (0, 0, 8)
  | f + 1, i, u => match l[i]? with
    | none => (0, 0, 3)
    | some c => if i = 9 ∧ 1 < c.toNat then (0, 0, 8) else if 0 < i ∧ c.toNat = 0 then (0, 0, 4) else
      if c.toNat < 128 then (u + c.toNat % 128 * 128 ^ i, i + 1, 0) else tk l f (i + 1) (u + c.toNat % 128 * 128 ^ i)
/-- The same from a place of a text. -/
def ztk (l : List UInt8) (a : Int) : Nat × Nat × Nat :=
  if a < 0 ∨ (l.length : Int) < a then (0, 0, 2) else
    let r := tk (l.drop a.toNat) 10 0 0
    (r.1, if r.2.2 = 0 then a.toNat + r.2.1 else 0, r.2.2)
def zgo (l : List UInt8) (a : Nat) (r : Nat × Nat × Nat) : Nat × Nat × Nat := (r.1, if r.2.2 = 0 then a + r.2.1 else 0, r.2.2)

theorem mul_in {v k c : Nat} (hv : v < 128 ^ k) (hk : k ≤ 9) (hc : c < 256) (h9 : k = 9 → c ≤ 1) : v + c % 128 * 128 ^ k < 18446744073709551616 ∧ v + c % 128 * 128 ^ k < 128 ^ (k + 1) := by
  have h128 : (128 : Nat) ^ k ≤ 128 ^ 9 := Nat.pow_le_pow_right (by decide) hk
  have e9 : (128 : Nat) ^ 9 = 9223372036854775808 := by decide
  refine ⟨?_, ?_⟩
  · by_cases hk9 : k = 9
    · subst hk9; have := h9 rfl; rw [e9] at *; omega
    · have h8 : (128 : Nat) ^ k ≤ 128 ^ 8 := Nat.pow_le_pow_right (by decide) (by omega)
      have e8 : (128 : Nat) ^ 8 = 72057594037927936 := by decide
      have h2 : c % 128 * 128 ^ k ≤ 127 * 128 ^ 8 := Nat.mul_le_mul (by omega) h8
      rw [e8] at h2; omega
  · rw [Nat.pow_succ]
    have : c % 128 * 128 ^ k ≤ 127 * 128 ^ k := (Nat.mul_le_mul_right _ (by omega))
    omega
theorem tk_lt (l : List UInt8) : ∀ (f i u : Nat), f + i = 10 → u < 128 ^ i → (tk l f i u).1 < 18446744073709551616
  | 0, _, _, _, _ => by simp [tk]
  | f + 1, i, u, h, hu => by
    rw [tk]
    cases l[i]? with
    | none => simp
    | some c =>
      simp only
      split
      · simp
      · split
        · simp
        · rename_i h1 h2
          have hc : c.toNat < 256 := UInt8.toNat_lt _
          have := mul_in hu (by omega) hc (by omega)
          split
          · exact this.1
          · exact tk_lt l f (i + 1) _ (by omega) this.2
theorem ztk_lt (l : List UInt8) (a : Int) : (ztk l a).1 < 18446744073709551616 := by
  unfold ztk
  split
  · decide
  · exact tk_lt _ 10 0 0 rfl (by decide)
theorem zbyte_last {u n k : Nat} (h : k + 1 = n) : ((zbyte u n k).toNat : Int) = ((u / 128 ^ k % 128 : Nat) : Int) := by
  unfold zbyte; rw [if_pos h, UInt8.toNat_ofNat']; omega
theorem zbyte_more {u n k : Nat} (h : ¬ k + 1 = n) : ((zbyte u n k).toNat : Int) = ((u / 128 ^ k % 128 + 128 : Nat) : Int) := by
  unfold zbyte; rw [if_neg h, UInt8.toNat_ofNat']; omega
theorem zb_get (u : Nat) {i : Nat} (h : i < zn u) : (zb u)[i]? = some (zbyte u (zn u) i) := by
  simp [zb, h]
theorem zbyte_toNat_last {u n k : Nat} (h : k + 1 = n) : (zbyte u n k).toNat = u / 128 ^ k % 128 := by
  have := zbyte_last (u := u) h; omega
theorem zbyte_toNat_more {u n k : Nat} (h : ¬ k + 1 = n) : (zbyte u n k).toNat = u / 128 ^ k % 128 + 128 := by
  have := zbyte_more (u := u) h; omega
theorem digit_join (u k : Nat) : u % 128 ^ k + u / 128 ^ k % 128 * 128 ^ k = u % 128 ^ (k + 1) := by
  rw [Nat.pow_succ, Nat.mod_mul, Nat.mul_comm (128 ^ k)]
/-- Reading on, k bytes of u having been read. -/
theorem tk_zb (u : Nat) (hu : u < 18446744073709551616) (l : List UInt8) (hl : ∀ i, i < zn u → l[i]? = some (zbyte u (zn u) i)) :
    ∀ (m k : Nat), m + k = zn u → 0 < m → tk l (10 - k) k (u % 128 ^ k) = (u, zn u, 0) := by
  intro m
  induction m with
  | zero => intro k _ h; omega
  | succ m ih =>
    intro k hk _
    have h10 := zn_le10 u hu
    have hkn : k < zn u := by omega
    rw [show 10 - k = (9 - k) + 1 by omega, tk, hl k hkn]
    simp only
    have h9 : k = 9 → u / 128 ^ k % 128 ≤ 1 := by
      rintro rfl
      have e9 : (128 : Nat) ^ 9 = 9223372036854775808 := by decide
      rw [e9]; omega
    by_cases hlast : k + 1 = zn u
    · rw [zbyte_toNat_last hlast]
      have hlt : u / 128 ^ k < 128 := by
        have := zn_hi u
        rw [← hlast, Nat.pow_succ, Nat.mul_comm] at this
        exact Nat.div_lt_of_lt_mul (by rwa [Nat.mul_comm] at this)
      have hmod : u / 128 ^ k % 128 = u / 128 ^ k := Nat.mod_eq_of_lt hlt
      rw [if_neg (by rintro ⟨h1, h2⟩; have := h9 h1; omega), if_neg, if_pos (by omega)]
      · rw [hmod, hmod]
        have := Nat.mod_add_div u (128 ^ k)
        rw [Nat.mul_comm] at this
        rw [this, hlast]
      · rintro ⟨h1, h2⟩
        have := zn_lo u (by omega)
        rw [show zn u - 1 = k by omega] at this
        have h3 : 1 ≤ u / 128 ^ k := (Nat.le_div_iff_mul_le (Nat.pow_pos (by decide))).2 (by rw [Nat.one_mul]; exact this)
        omega
    · rw [zbyte_toNat_more hlast]
      have hd := Nat.mod_lt (u / 128 ^ k) (show 0 < 128 by decide)
      rw [if_neg (by rintro ⟨h1, h2⟩; subst h1; omega), if_neg (by omega), if_neg (by omega)]
      have e : (u / 128 ^ k % 128 + 128) % 128 = u / 128 ^ k % 128 := by omega
      rw [e, digit_join, show 9 - k = 10 - (k + 1) by omega]
      exact ih (k + 1) (by omega) (by omega)
theorem tk_put (u : Nat) (hu : u < 18446744073709551616) (r : List UInt8) : tk (zb u ++ r) 10 0 0 = (u, zn u, 0) := by
  have := tk_zb u hu (zb u ++ r) (fun i hi => by rw [List.getElem?_append_left (by rw [zb_length]; exact hi)]; exact zb_get u hi) (zn u) 0 rfl (zn_pos u)
  rw [Nat.sub_zero, Nat.pow_zero, Nat.mod_one] at this
  exact this
theorem zn_eq {u k : Nat} (h1 : u < 128 ^ (k + 1)) (h2 : k = 0 ∨ 128 ^ k ≤ u) : zn u = k + 1 := by
  have h3 := zn_le k u h1
  have h4 := zn_pos u
  rcases h2 with rfl | h2
  · omega
  · rcases Nat.lt_or_ge k (zn u) with h5 | h5
    · omega
    · have h6 := zn_hi u
      have h7 : 128 ^ zn u ≤ 128 ^ k := Nat.pow_le_pow_right (by decide) h5
      omega
/-- What is read has just these bytes. -/
theorem tk_back (l : List UInt8) : ∀ (f k v u n : Nat), f + k = 10 → v < 128 ^ k → tk l f k v = (u, n, 0) →
    k < n ∧ n ≤ l.length ∧ u % 128 ^ k = v ∧ zn u = n ∧ ∀ i, k ≤ i → i < n → l[i]? = some (zbyte u n i)
  | 0, k, v, u, n, _, _, h => by simp [tk] at h
  | f + 1, k, v, u, n, hf, hv, h => by
    rw [tk] at h
    cases hl : l[k]? with
    | none => rw [hl] at h; simp at h
    | some c =>
      rw [hl] at h
      simp only at h
      have hlen : k < l.length := (List.getElem?_eq_some_iff.1 hl).1
      have hc : c.toNat < 256 := UInt8.toNat_lt _
      split at h
      · simp at h
      · split at h
        · simp at h
        · rename_i h1 h2
          have hmul := mul_in hv (by omega) hc (by omega)
          have hpos : 0 < 128 ^ k := Nat.pow_pos (by decide)
          split at h
          · rename_i h3
            have hm : c.toNat % 128 = c.toNat := Nat.mod_eq_of_lt h3
            rw [hm] at h hmul
            simp only [Prod.mk.injEq] at h
            obtain ⟨rfl, rfl, _⟩ := h
            have hdiv : (v + c.toNat * 128 ^ k) / 128 ^ k = c.toNat := by
              rw [Nat.add_mul_div_right _ _ hpos, Nat.div_eq_of_lt hv, Nat.zero_add]
            have hzn : zn (v + c.toNat * 128 ^ k) = k + 1 := by
              refine zn_eq hmul.2 ?_
              by_cases hk0 : k = 0
              · exact .inl hk0
              · right
                have : 1 * 128 ^ k ≤ c.toNat * 128 ^ k := Nat.mul_le_mul_right _ (by omega)
                omega
            refine ⟨by omega, by omega, by rw [Nat.add_mul_mod_self_right, Nat.mod_eq_of_lt hv], hzn, fun i hi1 hi2 => ?_⟩
            obtain rfl : i = k := by omega
            rw [hl]
            congr 1
            apply UInt8.toNat_inj.1
            rw [zbyte_toNat_last rfl, hdiv, hm]
          · rename_i h3
            obtain ⟨h4, h5, h6, h7, h8⟩ := tk_back l f (k + 1) _ u n (by omega) hmul.2 h
            have h9 : u % 128 ^ k = v := by
              have := congrArg (fun x => x % 128 ^ k) h6
              rw [Nat.pow_succ, Nat.mod_mul_right_mod, Nat.add_mul_mod_self_right, Nat.mod_eq_of_lt hv] at this
              exact this
            refine ⟨by omega, h5, h9, h7, fun i hi1 hi2 => ?_⟩
            by_cases hik : i = k
            · subst hik
              rw [hl]
              congr 1
              apply UInt8.toNat_inj.1
              rw [zbyte_toNat_more (by omega)]
              have h10 := digit_join u i
              rw [h9, h6] at h10
              have h11 : u / 128 ^ i % 128 = c.toNat % 128 := Nat.eq_of_mul_eq_mul_right hpos (by omega)
              omega
            · exact h8 i (by omega) hi2
theorem tk_bytes {l : List UInt8} {u n : Nat} (h : tk l 10 0 0 = (u, n, 0)) : n ≤ l.length ∧ l.take n = zb u := by
  obtain ⟨_, h2, _, h4, h5⟩ := tk_back l 10 0 0 u n rfl (by decide) h
  refine ⟨h2, List.ext_getElem? fun i => ?_⟩
  by_cases hi : i < n
  · rw [List.getElem?_take, if_pos hi, h5 i (by omega) hi, zb_get u (by omega), h4]
  · rw [List.getElem?_eq_none (by rw [List.length_take]; omega), List.getElem?_eq_none (by rw [zb_length]; omega)]
/-- At a place of a text. -/
theorem ztk_at {a r : List UInt8} {p : Nat} (hp : p = a.length) : ztk (a ++ r) (p : Int) = zgo (a ++ r) p (tk r 10 0 0) := by
  subst hp
  unfold ztk
  rw [if_neg (by simp; omega)]
  simp [zgo]
end Go.Proofs.YtaaooafcijdbmaaDoor
namespace Go.Proofs.YtaaooafcijdbmaaDoor.K
open Go.RowKit Go.Lib
/-! ### doubles -/
theorem ford_self (n : Nat) : FloatKind.f64.format.order n n = if 9218868437227405312 < n % 9223372036854775808 then none else some .eq := by
  show (Ieee.double.read n).order (Ieee.double.read n) = _
  have e1 : Ieee.double.signWeight = 9223372036854775808 := by decide
  have e2 : Ieee.double.infRung = 9218868437227405312 := by decide
  have e3 : Ieee.double.binade = 4503599627370496 := by decide
  have hc : ∀ a : Int, compare a a = .eq := fun a => by simp [compare, compareOfLessAndEq]
  unfold Ieee.Format.read
  simp only [e1, e2, e3]
  by_cases h1 : n % 9223372036854775808 < 4503599627370496
  · rw [if_pos h1, if_neg (by omega)]; simp only [Ieee.Datum.order]; rw [hc]
  · rw [if_neg h1]
    by_cases h2 : n % 9223372036854775808 < 9218868437227405312
    · rw [if_pos h2, if_neg (by omega)]; simp only [Ieee.Datum.order]; rw [hc]
    · rw [if_neg h2]
      by_cases h3 : n % 9223372036854775808 = 9218868437227405312
      · rw [if_pos h3, if_neg (by omega)]
        simp only [Ieee.Datum.order]
        simp [compare, compareOfLessAndEq]
      · rw [if_neg h3, if_pos (by omega)]; rfl
theorem fne_self (n : Nat) : fne n n = decide (9218868437227405312 < n % 9223372036854775808) := by
  unfold fne
  rw [ford_self]
  by_cases h : 9218868437227405312 < n % 9223372036854775808
  · rw [if_pos h, decide_eq_true h]; rfl
  · rw [if_neg h, decide_eq_false h]; rfl
def nan (n : Int) : Bool := decide ((n / 4503599627370496) % 2048 = 2047) && decide (n % 4503599627370496 ≠ 0)
def clean (n : Int) : Int := if nan n = true then 9221120237041090560 else n
def u64B (n : Int) : Prop := 0 ≤ n ∧ n ≤ 18446744073709551615
theorem clean_ok {n : Int} (h : u64B n) : m_real_Clean n = some (clean n) := by
  unfold m_real_Clean m_real_of clean
  obtain ⟨h1, h2⟩ := h
  rw [obind_some, fne_self]
  have : decide (9218868437227405312 < n.toNat % 9223372036854775808) = nan n := by
    unfold nan
    rw [Bool.eq_iff_iff]
    simp only [Bool.and_eq_true, decide_eq_true_eq]
    omega
  rw [this]
  cases nan n <;> rfl
theorem exp3 {n : Int} (h : u64B n) : m_r03_Exp n = some ((n / 4503599627370496) % 2048) := by
  unfold m_r03_Exp
  obtain ⟨h1, h2⟩ := h
  rw [Int.tdiv_eq_ediv_of_nonneg h1, wu64, Int.emod_eq_of_lt (by omega) (by omega), Int.tmod_eq_emod_of_nonneg (by omega), w64 (by omega) (by omega)]
theorem frac3 {n : Int} (h : u64B n) : m_r03_Frac n = some (n % 4503599627370496) := by
  unfold m_r03_Frac
  rw [Int.tmod_eq_emod_of_nonneg h.1]
theorem rclean_ok {n : Int} (h : u64B n) : m_r03_Clean n = some (clean n) := by
  have hk : ∃ k : UInt8, m_r03_Kind n = some k ∧ decide (((k.toNat : Nat) : Int) = 5) = nan n := by
    have hj : ∃ k : UInt8, m_r03_Kind_j1 n = some k ∧ ((k.toNat : Nat) : Int) ≠ 5 := by
      unfold m_r03_Kind_j1
      rw [exp3 h, frac3 h]
      simp only [obind_some]
      cases decide ((n / 4503599627370496) % 2048 = 2047)
      · cases decide ((n / 4503599627370496) % 2048 ≠ 0)
        · cases decide (n % 4503599627370496 ≠ 0)
          · exact ⟨_, rfl, by decide⟩
          · exact ⟨_, rfl, by decide⟩
        · exact ⟨_, rfl, by decide⟩
      · exact ⟨_, rfl, by decide⟩
    obtain ⟨k, hk, hn⟩ := hj
    unfold m_r03_Kind nan
    rw [exp3 h, frac3 h]
    simp only [obind_some]
    rw [hk]
    cases decide ((n / 4503599627370496) % 2048 = 2047)
    · exact ⟨k, rfl, by simpa using hn⟩
    · cases decide (n % 4503599627370496 ≠ 0)
      · exact ⟨k, rfl, by simpa using hn⟩
      · exact ⟨_, rfl, by decide⟩
  obtain ⟨k, e, q⟩ := hk
  unfold m_r03_Clean clean
  rw [e, obind_some, q]
  cases nan n <;> rfl
/-! ### may it be? -/
theorem natbeq (a b : Nat) : Nat.beq a b = decide (a = b) := by
  cases h : Nat.beq a b with
  | true => rw [decide_eq_true (Nat.eq_of_beq_eq_true h)]
  | false => rw [decide_eq_false (Nat.ne_of_beq_eq_false h)]
def chkV (v : GValue) : Int :=
  if v.Kind.toNat = 1 then (if v.N < -4611686018427387904 ∨ 4611686018427387904 < v.N then 8 else if v.Bits = 0 ∧ v.Text = [] then 0 else 2)
  else if v.Kind.toNat = 2 then (if v.N < 0 ∨ 1 < v.N then 8 else if v.Bits = 0 ∧ v.Text = [] then 0 else 2)
  else if v.Kind.toNat = 3 then (if clean v.Bits ≠ v.Bits then 4 else if v.N = 0 ∧ v.Text = [] then 0 else 2)
  else if v.Kind.toNat = 4 then (if 24 < v.Text.length then 5 else if v.N = 0 ∧ v.Bits = 0 then 0 else 2)
  else 11
theorem check_ok {v : GValue} (hb : u64B v.Bits) : m_value_Check v = some (chkV v) := by
  obtain ⟨k, n, b, t⟩ := v
  simp only at hb
  unfold m_value_Check m_value_core chkV
  simp only
  by_cases h1 : k.toNat = 1
  · rw [decide_eq_true (by omega), if_pos h1, cond_true, obind_some]
    unfold m_value_Check_j9 m_value_Check_j11 m_value_number_whole
    rw [show tasI .i64 _ (Value.iface _ (.int .i64 n)) = some (n, true) from rfl, obind_some]
    simp only [isT, inI, Nat.beq_refl, cond_true, decide_true, obind_some]
    by_cases h2 : n < -4611686018427387904
    · simp [h2]
    · by_cases h3 : 4611686018427387904 < n
      · simp [h2, h3]
      · have : ((1 : UInt8).toNat : Int) = ((k.toNat : Nat) : Int) := by rw [h1]; rfl
        by_cases h4 : b = 0
        · by_cases h5 : t = []
          · simp [h2, h3, h4, h5, h1]
          · simp [h2, h3, h4, h5, h1, Ne.symm h5]
        · simp [h2, h3, h4, h1, Ne.symm h4]
  · rw [decide_eq_false (by omega), if_neg h1, cond_false]
    by_cases h2 : k.toNat = 2
    · rw [decide_eq_true (by omega), if_pos h2, cond_true, obind_some]
      unfold m_value_Check_j9 m_value_Check_j11 m_value_flag_whole
      rw [show tasI .i64 _ (Value.iface _ (.int .i64 n)) = some (0, false) from rfl, obind_some, cond_false, show tasI .i64 _ (Value.iface _ (.int .i64 n)) = some (n, true) from rfl, obind_some]
      simp only [isT, natbeq, inI, cond_true, decide_true, obind_some]
      by_cases h3 : n < 0
      · rw [decide_eq_true (by omega), cond_true, decide_eq_true (by omega), cond_true, if_pos (.inl h3)]
      · by_cases h4 : 1 < n
        · rw [decide_eq_true (by omega), cond_true, decide_eq_true (by omega), cond_true, if_pos (.inr h4)]
        · rw [if_neg (by omega)]
          have hn : n = 0 ∨ n = 1 := by omega
          by_cases h5 : b = 0
          · by_cases h6 : t = []
            · rcases hn with rfl | rfl <;> simp [h5, h6, h2]
            · rcases hn with rfl | rfl <;> simp [h5, h6, h2, Ne.symm h6]
          · rcases hn with rfl | rfl <;> simp [h5, h2, Ne.symm h5]
    · rw [decide_eq_false (by omega), if_neg h2, cond_false]
      by_cases h3 : k.toNat = 3
      · rw [decide_eq_true (by omega), if_pos h3, cond_true, obind_some]
        unfold m_value_Check_j9 m_value_Check_j11 m_value_double_whole
        rw [show tasI .i64 _ (Value.iface _ (.int .u64 b)) = some (0, false) from rfl, obind_some, cond_false, show tasI .i64 _ (Value.iface _ (.int .u64 b)) = some (0, false) from rfl, obind_some, cond_false, show tasI .u64 _ (Value.iface _ (.int .u64 b)) = some (b, true) from rfl, obind_some, cond_true, clean_ok hb, obind_some]
        simp only [isT, natbeq, inI, decide_true, obind_some]
        by_cases h4 : clean b = b
        · rw [decide_eq_false (by simp [h4]), cond_false, if_neg (by simp [h4])]
          by_cases h5 : n = 0
          · by_cases h6 : t = []
            · simp [h5, h6, h3]
            · simp [h5, h6, h3, Ne.symm h6]
          · simp [h5, h3, Ne.symm h5]
        · rw [decide_eq_true h4, cond_true, if_pos h4]
      · rw [decide_eq_false (by omega), if_neg h3, cond_false]
        by_cases h4 : k.toNat = 4
        · rw [decide_eq_true (by omega), if_pos h4, cond_true, obind_some]
          unfold m_value_Check_j9 m_value_Check_j11 m_value_words_whole
          rw [show tasI .i64 _ (Value.iface _ (.string (toS t))) = some (0, false) from rfl, obind_some, cond_false, show tasI .i64 _ (Value.iface _ (.string (toS t))) = some (0, false) from rfl, obind_some, cond_false, show tasI .u64 _ (Value.iface _ (.string (toS t))) = some (0, false) from rfl, obind_some, cond_false, show tasS _ (Value.iface _ (.string (toS t))) = some (t, true) from rfl, obind_some, cond_true]
          simp only [isT, natbeq]
          rw [show inS (Value.iface _ (.string (toS t))) = some t from rfl, obind_some, obind_some, obind_some]
          by_cases h5 : 24 < t.length
          · rw [d_lt (by omega), cond_true, if_pos h5]
          · rw [d_nlt (by omega), cond_false, if_neg h5]
            by_cases h6 : n = 0
            · by_cases h7 : b = 0
              · simp [h6, h7, h4]
              · simp [h6, h7, h4, Ne.symm h7]
            · simp [h6, h4, Ne.symm h6]
        · rw [decide_eq_false (by omega), if_neg h4, cond_false]; rfl
theorem rcheck_ok {v : GValue} (hb : u64B v.Bits) : m_r04_Check v = some (chkV v) := by
  obtain ⟨k, n, b, t⟩ := v
  simp only at hb
  unfold m_r04_Check m_r04_Check_j2 m_r04_Check_j3 m_r04_Check_j4 m_r04_Check_j5 m_r04_Check_j7 m_r04_Check_j9 m_r04_Check_j11 m_r04_Check_j12 m_r04_Check_j13 chkV
  simp only [rclean_ok hb, obind_some]
  have hk : k.toNat = 1 ∨ k.toNat = 2 ∨ k.toNat = 3 ∨ k.toNat = 4 ∨ (k.toNat < 1 ∨ 4 < k.toNat) := by omega
  rcases hk with h | h | h | h | h
  · simp only [h]
    by_cases h2 : n < -4611686018427387904
    · simp [h2]
    · by_cases h3 : 4611686018427387904 < n
      · simp [h2, h3]
      · by_cases h4 : b = 0 <;> by_cases h5 : t = [] <;> simp [h2, h3, h4, h5]
  · simp only [h]
    by_cases h2 : n < 0
    · simp [h2]
    · by_cases h3 : 1 < n
      · simp [h2, h3]
      · by_cases h4 : b = 0 <;> by_cases h5 : t = [] <;> simp [h2, h3, h4, h5]
  · simp only [h]
    by_cases h2 : clean b = b
    · by_cases h4 : n = 0 <;> by_cases h5 : t = [] <;> simp [h2, h4, h5]
    · simp [h2]
  · simp only [h]
    by_cases h2 : 24 < t.length
    · have : (24 : Int) < (t.length : Int) := by omega
      simp [h2, this]
    · have : ¬ (24 : Int) < (t.length : Int) := by omega
      by_cases h4 : n = 0 <;> by_cases h5 : b = 0 <;> simp [h2, this, h4, h5]
  · rw [if_neg (by omega), if_neg (by omega), if_neg (by omega), if_neg (by omega)]
    rcases h with h | h
    · rw [d_lt (by omega), cond_true]
    · rw [d_nlt (by omega), cond_false, d_lt (by omega), cond_true]
end Go.Proofs.YtaaooafcijdbmaaDoor.K
namespace Go.Proofs.YtaaooafcijdbmaaDoor.K
open Go.RowKit Go.Lib
theorem tbl_bind {y : Int} {l : List UInt8} {f : UInt8 → Option Int} {r : Option Int} (hl : ∀ k : Fin 256, (l[k.val]?).map (·.toNat) = some (Lib.bitLen k.val)) (h1 : 0 ≤ y) (h2 : y < 256) (hf : ∀ x : UInt8, x.toNat = Lib.bitLen y.toNat → f x = r) : Option.bind (geti l (((toU8 y).toNat : Nat) : Int)) f = r := by
  have e : (toU8 y).toNat = y.toNat := by
    unfold toU8
    rw [UInt8.toNat_ofNat']
    omega
  rw [e, geti_nat]
  have := hl ⟨y.toNat, by omega⟩
  dsimp only at this
  cases hx : l[y.toNat]? with
  | none => rw [hx] at this; cases this
  | some x => rw [hx] at this; exact hf x (by simpa using this)
theorem l64_j2 {y0 y2 : Int} (h1 : 0 ≤ y0) (h2 : y0 < 256) (h3 : 0 ≤ y2) (h4 : y2 ≤ 1000) : m_math_bits_Len64_j2 y0 y2 = some (y2 + ((Lib.bitLen y0.toNat : Nat) : Int)) := by
  unfold m_math_bits_Len64_j2
  refine tbl_bind ?_ h1 h2 fun x q => ?_
  · decide +kernel
  · have := Lib.bitLen_le8 ⟨y0.toNat, by omega⟩
    dsimp only at this
    rw [q, w64 (by omega) (by omega)]
theorem l64_j1 {y0 y2 : Int} (h1 : 0 ≤ y0) (h2 : y0 < 65536) (h3 : 0 ≤ y2) (h4 : y2 ≤ 900) : m_math_bits_Len64_j1 y0 y2 = some (y2 + ((Lib.bitLen y0.toNat : Nat) : Int)) := by
  unfold m_math_bits_Len64_j1
  by_cases h : 256 ≤ y0
  · rw [decide_eq_true h, cond_true, Int.fdiv_eq_ediv_of_nonneg _ (by decide), show (2 : Int) ^ 8 = 256 from rfl, w64 (by omega) (by omega), l64_j2 (by omega) (by omega) (by omega) (by omega)]
    have := Lib.bitLen_shift8 y0.toNat (by omega) (by omega)
    rw [show (y0 / 256).toNat = y0.toNat / 256 by omega, this]
    congr 1; omega
  · rw [decide_eq_false h, cond_false, l64_j2 h1 (by omega) h3 (by omega)]
theorem l64_j0 {y0 y2 : Int} (h1 : 0 ≤ y0) (h2 : y0 < 4294967296) (h3 : 0 ≤ y2) (h4 : y2 ≤ 800) : m_math_bits_Len64_j0 y0 y2 = some (y2 + ((Lib.bitLen y0.toNat : Nat) : Int)) := by
  unfold m_math_bits_Len64_j0
  by_cases h : 65536 ≤ y0
  · rw [decide_eq_true h, cond_true, Int.fdiv_eq_ediv_of_nonneg _ (by decide), show (2 : Int) ^ 16 = 65536 from rfl, w64 (by omega) (by omega), l64_j1 (by omega) (by omega) (by omega) (by omega)]
    have := Lib.bitLen_shift16 y0.toNat (by omega) (by omega)
    rw [show (y0 / 65536).toNat = y0.toNat / 65536 by omega, this]
    congr 1; omega
  · rw [decide_eq_false h, cond_false, l64_j1 h1 (by omega) h3 (by omega)]
theorem len64_ok {u : Nat} (h : u < 18446744073709551616) : m_math_bits_Len64 (u : Int) = some ((Lib.bitLen u : Nat) : Int) := by
  unfold m_math_bits_Len64
  by_cases hh : 4294967296 ≤ u
  · rw [decide_eq_true (by omega), cond_true, Int.fdiv_eq_ediv_of_nonneg _ (by decide), show (2 : Int) ^ 32 = 4294967296 from rfl, l64_j0 (by omega) (by omega) (by omega) (by omega)]
    have := Lib.bitLen_shift32 u (by omega) (by omega)
    rw [show ((u : Int) / 4294967296).toNat = u / 4294967296 by omega, this]
    congr 1
  · rw [decide_eq_false (by omega), cond_false, l64_j0 (by omega) (by omega) (by omega) (by omega)]
    congr 1; rw [Int.toNat_natCast]; omega
theorem bitLen_64 {u : Nat} (h : u < 18446744073709551616) : Lib.bitLen u ≤ 64 := Lib.bitLen_le u 64 (by omega) (by simpa using h)
theorem size_ok {u : Nat} (h : u < 18446744073709551616) : m_zig_Size (u : Int) = some ((zn u : Nat) : Int) := by
  unfold m_zig_Size
  have hb := bitLen_64 h
  rw [len64_ok h, obind_some, w64 (n := ((Lib.bitLen u : Nat) : Int) + 7) (by omega) (by omega), w64 (n := ((Lib.bitLen u : Nat) : Int) + 7 - 1) (by omega) (by omega), Int.tdiv_eq_ediv_of_nonneg (by omega), w64 (by omega) (by omega), ← zn_bits u h]
  congr 1; omega
theorem or128 (x : UInt8) : toU8 (((BitVec.ofInt 8 ((x.toNat : Nat) : Int) ||| BitVec.ofInt 8 128).toNat : Nat) : Int) = UInt8.ofNat (x.toNat % 128 + 128) := by
  have : ∀ k : Fin 256, toU8 (((BitVec.ofInt 8 ((k.val : Nat) : Int) ||| BitVec.ofInt 8 128).toNat : Nat) : Int) = UInt8.ofNat (k.val % 128 + 128) := by decide +kernel
  exact this ⟨x.toNat, x.toNat_lt⟩
theorem not128 (x : UInt8) : toU8 (((BitVec.ofInt 8 ((x.toNat : Nat) : Int) &&& ~~~ BitVec.ofInt 8 128).toNat : Nat) : Int) = UInt8.ofNat (x.toNat % 128) := by
  have : ∀ k : Fin 256, toU8 (((BitVec.ofInt 8 ((k.val : Nat) : Int) &&& ~~~ BitVec.ofInt 8 128).toNat : Nat) : Int) = UInt8.ofNat (k.val % 128) := by decide +kernel
  exact this ⟨x.toNat, x.toNat_lt⟩
theorem toU8_nat (n : Nat) : (toU8 (n : Int)).toNat = n % 256 := by unfold toU8; rw [UInt8.toNat_ofNat']; omega
theorem sh7 (u i : Nat) : Int.fdiv (u : Int) (2 ^ (Int.toNat (((7 * i : Nat)) : Int))) = ((u / 128 ^ i : Nat) : Int) := by
  rw [Int.toNat_natCast, Int.fdiv_eq_ediv_of_nonneg _ (Int.pow_nonneg (by decide))]
  rw [show (128 : Nat) ^ i = 2 ^ (7 * i) by rw [Nat.pow_mul]]
  rw [Int.natCast_ediv]; congr 1
theorem put_ok {b : List UInt8} {u : Nat} (hb : b.length ≤ 100000000) (h : u < 18446744073709551616) : m_zig_Put b (u : Int) = some (b ++ zb u) := by
  have hn := zn_le10 u h
  have hp := zn_pos u
  unfold m_zig_Put
  rw [size_ok h, obind_some, w64 (by omega) (by omega), show mkc 0 (((List.length b : Nat) : Int) + ((zn u : Nat) : Int)) (0 : UInt8) = some [] by
    unfold mkc; rw [if_pos ⟨by omega, by omega, by omega⟩]; rfl]
  rw [obind_some, app_ok (by simp; omega), obind_some, List.nil_append]
  have := loopG_0 (L := fun fu s i => m_zig_Put_l3 (u : Int) ((zn u : Nat) : Int) fu s i) (n := zn u) (P := fun i s o => s.length ≤ b.length + i → o = some (s ++ ((List.range (zn u)).drop i).map (zbyte u (zn u)))) (by omega)
    (fun fu s hs => by
      unfold m_zig_Put_l3
      rw [d_nlt (by omega), cond_false, List.drop_of_length_le (by simp)]; simp)
    (fun fu s i hi ih hs => by
      unfold m_zig_Put_l3 m_zig_Put_j5
      have hr : (List.range (zn u)).drop i = i :: (List.range (zn u)).drop (i + 1) := by
        rw [List.drop_eq_getElem_cons (by simpa using hi), List.getElem_range]
      rw [d_lt (by omega), cond_true, w64 (n := 7 * (i : Int)) (by omega) (by omega), show 7 * (i : Int) = ((7 * i : Nat) : Int) by omega, chk_ok (by omega), sh7, or128, obind_some, not128, w64 (n := ((zn u : Nat) : Int) - 1) (by omega) (by omega), inc_ok (by omega), app_ok (by simp; omega), obind_some, app_ok (by simp; omega), obind_some]
      dsimp only
      rw [ih _ (by simp; omega), ih _ (by simp; omega), hr, List.map_cons]
      have e1 : (toU8 ((u / 128 ^ i : Nat) : Int)).toNat % 128 = u / 128 ^ i % 128 := by rw [toU8_nat]; omega
      rw [e1]
      unfold zbyte
      by_cases hl : i + 1 = zn u
      · rw [decide_eq_true (by omega), cond_true, if_pos hl, List.append_assoc]
        have : (UInt8.ofNat (u / 128 ^ i % 128 + 128)).toNat % 128 = u / 128 ^ i % 128 := by rw [UInt8.toNat_ofNat']; omega
        rw [this]; rfl
      · rw [decide_eq_false (by omega), cond_false, if_neg hl, List.append_assoc]; rfl) b (by omega)
  rw [this]; rfl
/-! ### the document's -/
theorem sevens_l (k : Nat) : ∀ (fu v : Nat) (s : List Int), v < 18446744073709551616 → v < 128 ^ k → k < fu → s.length + k ≤ 1000 → m_r02_sevens_l1 fu (v : Int) s = some (s ++ if v = 0 then [] else (zs v).map fun (n : Nat) => (n : Int)) := by
  induction k with
  | zero =>
    intro fu v s h1 h2 h4 h3
    obtain ⟨fu, rfl⟩ : ∃ f, fu = f + 1 := ⟨fu - 1, by omega⟩
    obtain rfl : v = 0 := by simp at h2; exact h2
    unfold m_r02_sevens_l1
    rw [d_nlt (by omega), cond_false, if_pos rfl, List.append_nil]
  | succ k ih =>
    intro fu v s h1 h2 h4 h3
    obtain ⟨fu, rfl⟩ : ∃ f, fu = f + 1 := ⟨fu - 1, by omega⟩
    unfold m_r02_sevens_l1
    by_cases h0 : v = 0
    · subst h0; rw [d_nlt (by omega), cond_false, if_pos rfl, List.append_nil]
    · rw [d_lt (by omega), cond_true, Int.tmod_eq_emod_of_nonneg (by omega), w64 (by omega) (by omega), app_ok (by simp; omega), obind_some, Int.tdiv_eq_ediv_of_nonneg (by omega), wu64, Int.emod_eq_of_lt (by omega) (by omega), show (v : Int) / 128 = ((v / 128 : Nat) : Int) by omega, show (v : Int) % 128 = ((v % 128 : Nat) : Int) by omega]
      rw [ih fu (v / 128) _ (by omega) (by rw [Nat.pow_succ] at h2; exact Nat.div_lt_of_lt_mul (by rw [Nat.mul_comm]; exact h2)) (by omega) (by simp; omega), if_neg h0, List.append_assoc]
      congr 2
      by_cases hv : v < 128
      · rw [if_pos (by omega), zs_lt hv, Nat.mod_eq_of_lt hv]; rfl
      · rw [if_neg (by omega), zs_ge hv]; rfl
theorem sevens_ok {u : Nat} (h : u < 18446744073709551616) : m_r02_sevens (u : Int) = some ((zs u).map fun (n : Nat) => (n : Int)) := by
  unfold m_r02_sevens
  rw [Int.tmod_eq_emod_of_nonneg (by omega), w64 (by omega) (by omega), Int.tdiv_eq_ediv_of_nonneg (by omega), wu64, Int.emod_eq_of_lt (by omega) (by omega), show (u : Int) / 128 = ((u / 128 : Nat) : Int) by omega, show (u : Int) % 128 = ((u % 128 : Nat) : Int) by omega]
  rw [sevens_l 10 _ _ _ (by omega) (by omega) (by omega) (by simp)]
  congr 1
  by_cases hv : u < 128
  · rw [if_pos (by omega), zs_lt hv, Nat.mod_eq_of_lt hv]; rfl
  · rw [if_neg (by omega), zs_ge hv]; rfl
theorem rput_ok {b : List UInt8} {u : Nat} (hb : b.length ≤ 100000000) (h : u < 18446744073709551616) : m_r02_Put b (u : Int) = some (b ++ zb u) := by
  have hn := zn_le10 u h
  have hp := zn_pos u
  unfold m_r02_Put
  rw [app_ok (by simp; omega), obind_some, sevens_ok h, obind_some, List.nil_append]
  have hlen : ((zs u).map fun (n : Nat) => (n : Int)).length = zn u := by rw [List.length_map]; rfl
  have hget : ∀ i, (hi : i < ((zs u).map fun (n : Nat) => (n : Int)).length) → ((zs u).map fun (n : Nat) => (n : Int))[i] = ((u / 128 ^ i % 128 : Nat) : Int) := fun i hi => by
    rw [hlen] at hi
    have := zs_get u i hi
    rw [List.getElem_map]
    have h2 := List.getElem_of_getElem? this
    obtain ⟨_, h2⟩ := h2
    rw [h2]
  generalize ((zs u).map fun (n : Nat) => (n : Int)) = l at hlen hget
  have := loopG_0 (L := fun fu s i => m_r02_Put_l2 l fu s i) (n := zn u) (P := fun i s o => s.length ≤ b.length + i → o = some (s ++ ((List.range (zn u)).drop i).map (zbyte u (zn u)))) (by omega)
    (fun fu s hs => by
      unfold m_r02_Put_l2
      rw [d_nlt (by omega), cond_false, List.drop_of_length_le (by simp)]; simp)
    (fun fu s i hi ih hs => by
      unfold m_r02_Put_l2
      have hr : (List.range (zn u)).drop i = i :: (List.range (zn u)).drop (i + 1) := by
        rw [List.drop_eq_getElem_cons (by simpa using hi), List.getElem_range]
      have hil : i < l.length := by omega
      rw [d_lt (by omega), cond_true, hlen, w64 (n := ((zn u : Nat) : Int) - 1) (by omega) (by omega), geti_lt hil, obind_some, obind_some, hget i hil, w64 (n := 128 + ((u / 128 ^ i % 128 : Nat) : Int)) (by omega) (by omega), inc_ok (by omega), app_ok (by simp; omega), obind_some, app_ok (by simp; omega), obind_some, ih _ (by simp; omega), ih _ (by simp; omega), hr, List.map_cons]
      unfold zbyte
      have t1 : toU8 ((u / 128 ^ i % 128 : Nat) : Int) = UInt8.ofNat (u / 128 ^ i % 128) := by
        apply UInt8.toNat_inj.1; rw [toU8_nat, UInt8.toNat_ofNat']
      have t2 : toU8 (128 + ((u / 128 ^ i % 128 : Nat) : Int)) = UInt8.ofNat (u / 128 ^ i % 128 + 128) := by
        rw [show (128 : Int) + ((u / 128 ^ i % 128 : Nat) : Int) = ((u / 128 ^ i % 128 + 128 : Nat) : Int) by omega]
        apply UInt8.toNat_inj.1; rw [toU8_nat, UInt8.toNat_ofNat']
      rw [t1, t2]
      by_cases hl : i + 1 = zn u
      · rw [d_nlt (by omega), cond_false, if_pos hl, List.append_assoc]; rfl
      · rw [d_lt (by omega), cond_true, if_neg hl, List.append_assoc]; rfl) b (by omega)
  rw [this]; rfl
/-! ### folding -/
theorem fold_ok {n : Int} (h0 : -9223372036854775808 ≤ n) (h1 : n ≤ 9223372036854775807) : m_zig_Fold n = some ((zfold n : Nat) : Int) := by
  unfold m_zig_Fold zfold
  rw [obind_some]
  have hp : (2 : Int) ^ 63 = 9223372036854775808 := rfl
  have hp1 : (2 : Int) ^ 1 = 2 := rfl
  rw [Int.fdiv_eq_ediv_of_nonneg _ (by decide), hp, hp1]
  by_cases h : n < 0
  · rw [if_pos h, show n / 9223372036854775808 = -1 by omega, show IntKind.u64.wrap (-1) = 18446744073709551615 by decide, show BitVec.ofInt 64 18446744073709551615 = BitVec.allOnes 64 by decide, BitVec.xor_allOnes, wu64, wu64]
    congr 1
    rw [BitVec.toNat_not, BitVec.toNat_ofInt, wu64]
    simp only [Nat.reducePow]
    omega
  · rw [if_neg h, show n / 9223372036854775808 = 0 by omega, show IntKind.u64.wrap 0 = 0 by decide, show BitVec.ofInt 64 0 = 0#64 by decide, BitVec.xor_zero, wu64, wu64]
    congr 1
    rw [BitVec.toNat_ofInt, wu64]
    omega
theorem rfold_ok {n : Int} (h0 : -9223372036854775808 ≤ n) (h1 : n ≤ 9223372036854775807) : m_r02_Fold n = some ((zfold n : Nat) : Int) := by
  unfold m_r02_Fold zfold
  by_cases h : n < 0
  · rw [d_lt h, cond_true, if_pos h, obind_some, w64 (n := n + 1) (by omega) (by omega), w64 (n := 0 - (n + 1)) (by omega) (by omega), wu64, wu64, wu64]
    congr 1; omega
  · rw [d_nlt h, cond_false, if_neg h, wu64, wu64]
    congr 1; omega
theorem putint_ok {b : List UInt8} {n : Int} (hb : b.length ≤ 100000000) (h0 : -9223372036854775808 ≤ n) (h1 : n ≤ 9223372036854775807) : m_zig_PutInt b n = some (b ++ zb (zfold n)) := by
  unfold m_zig_PutInt
  rw [fold_ok h0 h1, obind_some, put_ok hb (zfold_lt n h0 h1)]; rfl
end Go.Proofs.YtaaooafcijdbmaaDoor.K
namespace Go.Proofs.YtaaooafcijdbmaaDoor.K
open Go.RowKit Go.Lib
def ztkI (r : Nat × Nat × Nat) : Int × Int × Int := ((r.1 : Int), (r.2.1 : Int), (r.2.2 : Int))
theorem orB {a b : Nat} (ha : a < 18446744073709551616) (hb : b < 18446744073709551616) : IntKind.u64.wrap (((BitVec.ofInt 64 (a : Int) ||| BitVec.ofInt 64 (b : Int)).toNat : Nat) : Int) = ((a ||| b : Nat) : Int) := by
  rw [BitVec.toNat_or, BitVec.toNat_ofInt, BitVec.toNat_ofInt, wu64]
  have e1 : ((a : Int) % ((2 ^ 64 : Nat) : Int)).toNat = a := by omega
  have e2 : ((b : Int) % ((2 ^ 64 : Nat) : Int)).toNat = b := by omega
  rw [e1, e2]
  have := Nat.or_lt_two_pow (n := 64) ha hb
  omega
theorem or_step {u i c : Nat} (hu : u < 128 ^ i) (h : u + c % 128 * 128 ^ i < 18446744073709551616) : u ||| (c % 128 * 128 ^ i) = u + c % 128 * 128 ^ i := by
  have e : (128 : Nat) ^ i = 2 ^ (7 * i) := by rw [Nat.pow_mul]
  rw [e] at hu ⊢
  rw [Nat.or_comm, Nat.mul_comm, ← Nat.two_pow_add_eq_or_of_lt hu, Nat.add_comm]
theorem not128i (x : UInt8) : (((toU8 (((BitVec.ofInt 8 ((x.toNat : Nat) : Int) &&& ~~~ BitVec.ofInt 8 128).toNat : Nat) : Int)).toNat : Nat) : Int) = ((x.toNat % 128 : Nat) : Int) := by
  rw [not128, UInt8.toNat_ofNat']; omega
theorem pow7 (i : Nat) : (2 : Int) ^ (Int.toNat ((7 * i : Nat) : Int)) = ((128 ^ i : Nat) : Int) := by
  rw [Int.toNat_natCast, show (128 : Nat) ^ i = 2 ^ (7 * i) by rw [Nat.pow_mul], Int.natCast_pow]; rfl
theorem take_jmp {X : Option (Int × Int × Int)} {i c : Nat} (b : Bool) : cond b (cond (decide ((1 : Int) < (c : Int))) (some ((0 : Int), (0 : Int), (8 : Int))) (cond (decide ((0 : Int) < (i : Int))) (cond (decide ((c : Int) = 0)) (some (0, 0, 4)) X) X)) (cond (decide ((0 : Int) < (i : Int))) (cond (decide ((c : Int) = 0)) (some (0, 0, 4)) X) X) = if b = true ∧ 1 < c then some (0, 0, 8) else if 0 < i ∧ c = 0 then some (0, 0, 4) else X := by
  have e1 : decide ((1 : Int) < (c : Int)) = decide (1 < c) := decide_eq_decide.2 (by omega)
  have e2 : decide ((0 : Int) < (i : Int)) = decide (0 < i) := decide_eq_decide.2 (by omega)
  have e3 : decide ((c : Int) = 0) = decide (c = 0) := decide_eq_decide.2 (by omega)
  rw [e1, e2, e3]
  by_cases h1 : 1 < c <;> by_cases h2 : 0 < i <;> by_cases h3 : c = 0 <;> cases b <;> simp [h1, h2, h3] <;> omega
theorem take_l {l : List UInt8} {p : Nat} (hl : l.length ≤ 1000000) (hp : p ≤ l.length) : ∀ (f fu i u : Nat), f + i = 10 → f < fu → u < 128 ^ i → m_zig_Take_l1 l (p : Int) fu (u : Int) (i : Int) = some (ztkI (zgo l p (tk (l.drop p) f i u)))
  | f, 0, _, _, _, h, _ => by omega
  | 0, fu + 1, i, u, h, _, hu => by
    unfold m_zig_Take_l1
    rw [d_nlt (by omega), cond_false]; rfl
  | f + 1, fu + 1, i, u, h, hf, hu => by
    unfold m_zig_Take_l1 m_zig_Take_j6 m_zig_Take_j8
    rw [d_lt (by omega), cond_true, w64 (n := (p : Int) + i) (by omega) (by omega), show (p : Int) + (i : Int) = ((p + i : Nat) : Int) by omega, tk, List.getElem?_drop]
    by_cases hlen : p + i < l.length
    · rw [decide_eq_false (by omega), cond_false, geti_lt hlen, obind_some, List.getElem?_eq_getElem hlen]
      have hc := UInt8.toNat_lt l[p + i]
      simp only
      rw [not128i]
      generalize l[p + i].toNat = c at hc
      rw [obind_some, w64 (n := 7 * (i : Int)) (by omega) (by omega), show 7 * (i : Int) = ((7 * i : Nat) : Int) by omega, chk_ok (by omega), pow7, w64 (n := ((p + i : Nat) : Int) + 1) (by omega) (by omega), inc_ok (by omega)]
      by_cases h9 : i = 9 ∧ 1 < c
      · rw [decide_eq_true (p := (i : Int) = 9) (by omega), cond_true, d_lt (by omega), cond_true, if_pos h9]; rfl
      · have key : m_zig_Take_l1 l (p : Int) fu (u : Int) (i : Int) = m_zig_Take_l1 l (p : Int) fu (u : Int) (i : Int) := rfl
        have hm := mul_in (c := c) hu (by omega) (by omega) (fun h => by have : ¬ 1 < c := fun h' => h9 ⟨h, h'⟩; omega)
        rw [if_neg h9]
        have hw : IntKind.u64.wrap (((c % 128 : Nat) : Int) * ((128 ^ i : Nat) : Int)) = ((c % 128 * 128 ^ i : Nat) : Int) := by
          rw [wu64, ← Int.natCast_mul]; omega
        rw [hw, orB (by omega) (by omega), or_step hu hm.1, obind_some]
        have fin : (cond (decide ((c : Int) < 128)) (some (((u + c % 128 * 128 ^ i : Nat) : Int), ((p + i : Nat) : Int) + 1, 0)) (m_zig_Take_l1 l (p : Int) fu ((u + c % 128 * 128 ^ i : Nat) : Int) ((i + 1 : Nat) : Int))) = some (ztkI (zgo l p (if c < 128 then (u + c % 128 * 128 ^ i, i + 1, 0) else tk (l.drop p) f (i + 1) (u + c % 128 * 128 ^ i)))) := by
          by_cases hc2 : c < 128
          · rw [d_lt (by omega), cond_true, if_pos hc2]
            unfold zgo ztkI
            simp only
            rw [if_pos trivial]
            congr 3
          · rw [d_nlt (by omega), cond_false, if_neg hc2, take_l hl hp f fu (i + 1) _ (by omega) (by omega) hm.2]
        rw [fin, take_jmp, if_neg (by
          intro hh
          exact h9 ⟨by have := of_decide_eq_true hh.1; omega, hh.2⟩)]
        by_cases hz : 0 < i ∧ c = 0
        · rw [if_pos hz, if_pos hz]; rfl
        · rw [if_neg hz, if_neg hz]
    · rw [decide_eq_true (by omega), cond_true, List.getElem?_eq_none (by omega)]; rfl
theorem take_ok {l : List UInt8} (hl : l.length ≤ 1000000) (a : Int) : m_zig_Take l a = some (ztkI (ztk l a)) := by
  unfold m_zig_Take ztk
  by_cases h1 : a < 0
  · rw [d_lt h1, if_pos (.inl h1)]; rfl
  · rw [d_nlt h1, cond_false]
    by_cases h2 : (l.length : Int) < a
    · rw [d_lt h2, if_pos (.inr h2)]; rfl
    · rw [d_nlt h2, cond_false, if_neg (by omega)]
      have := take_l (p := a.toNat) hl (by omega) 10 1152921504606846976 0 0 rfl (by omega) (by decide)
      rw [show ((a.toNat : Nat) : Int) = a by omega] at this
      exact this
/-! ### unfolding -/
theorem back_ok' {u : Nat} (h : u < 18446744073709551616) : m_zig_Back (u : Int) = some (zback u) := by
  unfold m_zig_Back zback
  rw [obind_some, obind_some, Int.fdiv_eq_ediv_of_nonneg _ (by decide), show (2 : Int) ^ 1 = 2 from rfl, show (u : Int) / 2 = ((u / 2 : Nat) : Int) by omega]
  have e1 : (BitVec.ofInt 64 (u : Int) &&& BitVec.ofInt 64 1).toNat = u % 2 := by
    rw [BitVec.toNat_and, BitVec.toNat_ofInt, BitVec.toNat_ofInt]
    have : ((u : Int) % ((2 ^ 64 : Nat) : Int)).toNat = u := by omega
    rw [this]
    exact Nat.and_one_is_mod u
  rw [e1, wu64, w64 (n := ((u / 2 : Nat) : Int)) (by omega) (by omega)]
  by_cases h2 : u % 2 = 1
  · rw [if_pos h2, h2]
    rw [show IntKind.i64.wrap (0 - IntKind.i64.wrap (((1 : Nat) : Int) % 18446744073709551616)) = -1 by decide, show BitVec.ofInt 64 (-1) = BitVec.allOnes 64 by decide, BitVec.xor_allOnes, BitVec.toNat_not, BitVec.toNat_ofInt]
    have : (((u / 2 : Nat) : Int) % ((2 ^ 64 : Nat) : Int)).toNat = u / 2 := by omega
    rw [this]
    congr 1
    simp [IntKind.wrap, IntKind.signed, IntKind.bits]
    omega
  · rw [if_neg h2, show u % 2 = 0 by omega]
    rw [show IntKind.i64.wrap (0 - IntKind.i64.wrap (((0 : Nat) : Int) % 18446744073709551616)) = 0 by decide, show BitVec.ofInt 64 0 = 0#64 by decide, BitVec.xor_zero, BitVec.toNat_ofInt]
    have : (((u / 2 : Nat) : Int) % ((2 ^ 64 : Nat) : Int)).toNat = u / 2 := by omega
    rw [this, w64 (by omega) (by omega)]
theorem takeint_ok {l : List UInt8} (hl : l.length ≤ 1000000) (a : Int) : m_zig_TakeInt l a = some (zback (ztk l a).1, (((ztk l a).2.1 : Nat) : Int), (((ztk l a).2.2 : Nat) : Int)) := by
  unfold m_zig_TakeInt
  rw [take_ok hl, obind_some]
  unfold ztkI
  simp only
  rw [back_ok' (ztk_lt l a), obind_some]
end Go.Proofs.YtaaooafcijdbmaaDoor.K
namespace Go.Proofs.YtaaooafcijdbmaaDoor.K
open Go.RowKit Go.Lib
/-- A number's k bytes, the highest first. -/
def beB : Nat → Nat → List UInt8
  | 0, _ => []
  | k + 1, u => beB k (u / 256) ++ [UInt8.ofNat (u % 256)]
theorem beB_len : ∀ k u, (beB k u).length = k
  | 0, _ => rfl
  | k + 1, u => by rw [beB, List.length_append, beB_len k]; rfl
theorem toU8_mod {u : Nat} : toU8 (u : Int) = UInt8.ofNat (u % 256) := by
  apply UInt8.toNat_inj.1; rw [toU8_nat, UInt8.toNat_ofNat']; omega
theorem set_mid {b t : List UInt8} {k : Nat} {x : UInt8} : (b ++ (List.replicate (k + 1) 0 ++ t)).set (b.length + k) x = b ++ (List.replicate k 0 ++ x :: t) := by
  rw [List.set_append_right _ _ (by omega), Nat.add_sub_cancel_left, List.replicate_succ', List.append_assoc, List.set_append_right _ _ (by simp)]
  simp
theorem lay_l {b : List UInt8} (hb : b.length ≤ 100000000) : ∀ (k fu u : Nat) (t : List UInt8), k + t.length = 8 → k < fu → u < 18446744073709551616 → m_octet_lay_l1 8 fu (b ++ (List.replicate k 0 ++ t)) (u : Int) ((b.length : Int) + k - 1) = some (b ++ (beB k u ++ t))
  | k, 0, _, _, _, h, _ => by omega
  | 0, fu + 1, u, t, ht, _, hu => by
    unfold m_octet_lay_l1
    rw [w64 (n := ((List.length (b ++ (List.replicate 0 0 ++ t)) : Nat) : Int) - 8) (by simp; omega) (by simp; omega), decide_eq_false (by simp; omega), cond_false]; rfl
  | k + 1, fu + 1, u, t, ht, hf, hu => by
    unfold m_octet_lay_l1
    have hlt : b.length + k < (b ++ (List.replicate (k + 1) 0 ++ t)).length := by simp; omega
    rw [w64 (n := ((List.length (b ++ (List.replicate (k + 1) 0 ++ t)) : Nat) : Int) - 8) (by simp; omega) (by simp; omega), decide_eq_true (by simp; omega), cond_true, show (b.length : Int) + ((k + 1 : Nat) : Int) - 1 = ((b.length + k : Nat) : Int) by omega, geti_lt hlt, obind_some, Int.toNat_natCast, set_mid, toU8_mod, Int.fdiv_eq_ediv_of_nonneg _ (by decide), show (2 : Int) ^ 8 = 256 from rfl, w64 (by omega) (by omega), show (u : Int) / 256 = ((u / 256 : Nat) : Int) by omega, show ((b.length + k : Nat) : Int) - 1 = (b.length : Int) + (k : Int) - 1 by omega]
    rw [lay_l hb k fu (u / 256) (UInt8.ofNat (u % 256) :: t) (by simp; omega) (by omega) (by omega), beB, List.append_assoc]; rfl
theorem word_ok {b : List UInt8} {u : Nat} (hb : b.length ≤ 100000000) (h : u < 18446744073709551616) : m_octet_Word b (u : Int) = some (b ++ beB 8 u) := by
  unfold m_octet_Word m_octet_grown m_octet_lay
  rw [w64 (by omega) (by omega), show mkl (((List.length b : Nat) : Int) + 8) (0 : UInt8) = some (List.replicate (b.length + 8) 0) by
    unfold mkl; rw [if_pos ⟨by omega, by omega⟩]
    congr 2]
  rw [obind_some, show cpy (List.replicate (b.length + 8) (0 : UInt8)) b = some (b ++ (List.replicate 8 0 ++ [])) by
    unfold cpy
    rw [if_pos (by simp)]
    simp]
  rw [obind_some, obind_some, w64 (by simp; omega) (by simp; omega)]
  have := lay_l hb 8 1152921504606846976 u [] (by simp) (by omega) h
  have e : List.length (b ++ (List.replicate 8 (0 : UInt8) ++ [])) = b.length + 8 := by simp
  rw [e, show ((b.length + 8 : Nat) : Int) - 1 = (b.length : Int) + ((8 : Nat) : Int) - 1 by omega, this, obind_some, List.append_nil]
theorem rword_l {b : List UInt8} (hb : b.length ≤ 100000000) : ∀ (k fu u : Nat) (t : List UInt8), k + t.length = 8 → k < fu → u < 18446744073709551616 → m_r01_Word_l0 b fu (u : Int) t (8 - (k : Int)) = some (b ++ (beB k u ++ t))
  | k, 0, _, _, _, h, _ => by omega
  | 0, fu + 1, u, t, ht, _, hu => by
    unfold m_r01_Word_l0
    rw [d_nlt (by omega), cond_false, app_ok (by simp; omega), obind_some, List.nil_append, app_ok (by omega), obind_some]; rfl
  | k + 1, fu + 1, u, t, ht, hf, hu => by
    unfold m_r01_Word_l0
    rw [d_lt (by omega), cond_true, Int.tmod_eq_emod_of_nonneg (by omega), show (u : Int) % 256 = ((u % 256 : Nat) : Int) by omega, toU8_mod, Nat.mod_mod, app_ok (by simp; omega), obind_some, Int.tdiv_eq_ediv_of_nonneg (by omega), wu64, show (u : Int) / 256 = ((u / 256 : Nat) : Int) by omega, Int.emod_eq_of_lt (by omega) (by omega), w64 (by omega) (by omega), show (8 : Int) - ((k + 1 : Nat) : Int) + 1 = 8 - (k : Int) by omega]
    rw [rword_l hb k fu (u / 256) _ (by simp; omega) (by omega) (by omega), beB, List.append_assoc]
theorem rword_ok {b : List UInt8} {u : Nat} (hb : b.length ≤ 100000000) (h : u < 18446744073709551616) : m_r01_Word b (u : Int) = some (b ++ beB 8 u) := by
  unfold m_r01_Word
  have := rword_l hb 8 1152921504606846976 u [] (by simp) (by omega) h
  rw [List.append_nil] at this; exact this
/-- A value's bytes. -/
def bytesV (v : GValue) : List UInt8 :=
  if v.Kind.toNat = 1 then zb (zfold v.N) else if v.Kind.toNat = 2 then [toU8 v.N] else if v.Kind.toNat = 3 then beB 8 v.Bits.toNat else zb v.Text.length ++ v.Text
def putV (b : List UInt8) (v : GValue) : List UInt8 × Int := if chkV v ≠ 0 then ([], chkV v) else (b ++ v.Kind :: bytesV v, 0)
theorem chk_range (v : GValue) : v.Kind.toNat = 1 ∨ v.Kind.toNat = 2 ∨ v.Kind.toNat = 3 ∨ v.Kind.toNat = 4 ∨ chkV v = 11 := by
  unfold chkV
  by_cases h1 : v.Kind.toNat = 1
  · exact .inl h1
  by_cases h2 : v.Kind.toNat = 2
  · exact .inr (.inl h2)
  by_cases h3 : v.Kind.toNat = 3
  · exact .inr (.inr (.inl h3))
  by_cases h4 : v.Kind.toNat = 4
  · exact .inr (.inr (.inr (.inl h4)))
  · rw [if_neg h1, if_neg h2, if_neg h3, if_neg h4]; simp
structure okB (v : GValue) : Prop where
  N : -9223372036854775808 ≤ v.N ∧ v.N ≤ 9223372036854775807
  B : u64B v.Bits
  T : v.Text.length ≤ 1000
theorem vput_ok {b : List UInt8} {v : GValue} (hb : b.length ≤ 1000000) (h : okB v) : m_value_Put b v = some (putV b v) := by
  obtain ⟨hN, hB, hT⟩ := h
  unfold m_value_Put putV
  rw [check_ok hB, obind_some]
  by_cases hc : chkV v = 0
  · rw [decide_eq_false (by simp [hc]), cond_false, if_neg (by simp [hc])]
    rw [w64 (n := ((List.length b : Nat) : Int) + 1) (by omega) (by omega), show mkc ((List.length b : Nat) : Int) (((List.length b : Nat) : Int) + 1) (0 : UInt8) = some (List.replicate b.length 0) by
      unfold mkc; rw [if_pos ⟨by omega, by omega, by omega⟩]; congr 2]
    rw [obind_some, show cpy (List.replicate b.length (0 : UInt8)) b = some b by
      unfold cpy
      rw [if_pos (by simp)]
      simp]
    rw [obind_some, app_ok (by simp; omega), obind_some]
    unfold bytesV
    by_cases k1 : v.Kind.toNat = 1
    · rw [decide_eq_true (by omega), cond_true, if_pos k1, putint_ok (by simp; omega) hN.1 hN.2, obind_some, List.append_assoc]; rfl
    rw [decide_eq_false (by omega), cond_false, if_neg k1]
    by_cases k2 : v.Kind.toNat = 2
    · rw [decide_eq_true (by omega), cond_true, if_pos k2, app_ok (by simp; omega), obind_some, List.append_assoc]; rfl
    rw [decide_eq_false (by omega), cond_false, if_neg k2]
    by_cases k3 : v.Kind.toNat = 3
    · have e : v.Bits = ((v.Bits.toNat : Nat) : Int) := by have := hB.1; omega
      rw [decide_eq_true (by omega), cond_true, if_pos k3, e, word_ok (by simp; omega) (by have := hB.2; omega), obind_some, List.append_assoc, Int.toNat_natCast]; rfl
    rw [decide_eq_false (by omega), cond_false, if_neg k3]
    have hz := zn_le10 v.Text.length (by omega)
    have hzl := zb_length v.Text.length
    rw [wu64, Int.emod_eq_of_lt (by omega) (by omega), put_ok (by simp; omega) (by omega), obind_some, app_ok (by simp; omega), obind_some, List.append_assoc, List.append_assoc]; rfl
  · rw [decide_eq_true (by simp [hc]), cond_true, if_pos (by simp [hc])]
theorem rvput_ok {b : List UInt8} {v : GValue} (hb : b.length ≤ 1000000) (h : okB v) : m_r04_Put b v = some (putV b v) := by
  obtain ⟨hN, hB, hT⟩ := h
  unfold m_r04_Put putV
  rw [rcheck_ok hB, obind_some]
  by_cases hc : chkV v = 0
  · rw [decide_eq_false (by simp [hc]), cond_false, if_neg (by simp [hc])]
    rw [app_ok (by simp; omega), obind_some, List.nil_append, app_ok (by simp; omega), obind_some]
    unfold bytesV
    by_cases k1 : v.Kind.toNat = 1
    · rw [decide_eq_true (by omega), cond_true, if_pos k1, rfold_ok hN.1 hN.2, obind_some, rput_ok (by simp; omega) (zfold_lt _ hN.1 hN.2), obind_some, List.append_assoc]; rfl
    rw [decide_eq_false (by omega), cond_false, if_neg k1]
    by_cases k2 : v.Kind.toNat = 2
    · rw [decide_eq_true (by omega), cond_true, if_pos k2, app_ok (by simp; omega), obind_some, List.append_assoc]; rfl
    rw [decide_eq_false (by omega), cond_false, if_neg k2]
    by_cases k3 : v.Kind.toNat = 3
    · have e : v.Bits = ((v.Bits.toNat : Nat) : Int) := by have := hB.1; omega
      rw [decide_eq_true (by omega), cond_true, if_pos k3, e, rword_ok (by simp; omega) (by have := hB.2; omega), obind_some, List.append_assoc, Int.toNat_natCast]; rfl
    rw [decide_eq_false (by omega), cond_false, if_neg k3]
    have hz := zn_le10 v.Text.length (by omega)
    have hzl := zb_length v.Text.length
    rw [wu64, Int.emod_eq_of_lt (by omega) (by omega), rput_ok (by simp; omega) (by omega), obind_some, app_ok (by simp; omega), obind_some, List.append_assoc, List.append_assoc]; rfl
  · rw [decide_eq_true (by simp [hc]), cond_true, if_pos (by simp [hc])]
end Go.Proofs.YtaaooafcijdbmaaDoor.K
namespace Go.Proofs.YtaaooafcijdbmaaDoor.K
open Go.RowKit Go.Lib
def beN : Nat → List UInt8 → Nat
  | a, [] => a
  | a, x :: l => beN (a * 256 + x.toNat) l
theorem or_byte {a c : Nat} (ha : a < 72057594037927936) (hc : c < 256) : IntKind.u64.wrap (((BitVec.ofInt 64 (IntKind.u64.wrap ((a : Int) * 2 ^ 8)) ||| BitVec.ofInt 64 ((c : Nat) : Int)).toNat : Nat) : Int) = ((a * 256 + c : Nat) : Int) := by
  have e : IntKind.u64.wrap ((a : Int) * 2 ^ 8) = ((2 ^ 8 * a : Nat) : Int) := by rw [wu64, show (2 : Int) ^ 8 = 256 from rfl]; omega
  rw [e, orB (by omega) (by omega), ← Nat.two_pow_add_eq_or_of_lt (i := 8) (by omega)]
  congr 1; omega
theorem pow256 {i : Nat} (h : i ≤ 7) : (256 : Nat) ^ i ≤ 72057594037927936 := by
  have := Nat.pow_le_pow_right (n := 256) (by decide) h
  have e : (256 : Nat) ^ 7 = 72057594037927936 := by decide
  omega
theorem word_l {g : GReader} {n : Int} {s : List UInt8} (hs : s.length ≤ 8) (h0 : 0 ≤ g.At ∧ g.At ≤ 1000) (hn : 0 ≤ n ∧ n ≤ 1000) : m_octet_Reader_take_l4 g n s 1152921504606846976 0 0 = some (GReader.mk g.Text (g.At + n) g.E, ((beN 0 s : Nat) : Int)) := by
  have := loopG_0 (L := fun fu (u : Nat) i => m_octet_Reader_take_l4 g n s fu (u : Int) i) (n := s.length) (P := fun i u o => u < 256 ^ i → o = some (GReader.mk g.Text (g.At + n) g.E, ((beN u (s.drop i) : Nat) : Int))) (by omega)
    (fun fu u hu => by
      unfold m_octet_Reader_take_l4
      rw [d_nlt (by omega), cond_false, List.drop_of_length_le (Nat.le_refl _), w64 (by omega) (by omega)]; rfl)
    (fun fu u i hi ih hu => by
      unfold m_octet_Reader_take_l4
      have hc := UInt8.toNat_lt s[i]
      have hp := pow256 (show i ≤ 7 by omega)
      have := ih (u * 256 + s[i].toNat) (by rw [Nat.pow_succ]; omega)
      rw [d_lt (by omega), cond_true, geti_lt hi, obind_some, or_byte (by omega) (by omega), obind_some, inc_ok (by omega), this, drop_cons hi]; rfl) 0 (by decide)
  exact this
def rdW (s : List UInt8) : Option Nat := if s.length < 8 then none else some (beN 0 (s.take 8))
def rdG (s : List UInt8) : GReader × Int := match rdW s with
  | none => (GReader.mk s 0 3, 0)
  | some w => (GReader.mk s 8 0, (w : Int))
theorem pword_ok {s : List UInt8} (hs : s.length ≤ 1000000) : m_octet_Reader_Word (GReader.mk s 0 0) = some (rdG s) := by
  unfold m_octet_Reader_Word m_octet_Reader_take m_octet_Reader_Left m_octet_Reader_fail rdG rdW
  simp only
  rw [decide_eq_false (by decide), cond_false, d_nlt (by decide), cond_false, d_nlt (by omega), cond_false, w64 (by omega) (by omega), obind_some, Int.sub_zero]
  by_cases h : s.length < 8
  · rw [d_lt (by omega), cond_true, if_pos h]; rfl
  · have e := cut_ok (l := s) (a := 0) (b := 8) (by omega) (by omega)
    rw [Int.natCast_zero] at e
    rw [d_nlt (by omega), cond_false, if_neg h, show IntKind.i64.wrap (0 + 8) = ((8 : Nat) : Int) by decide, e, obind_some, List.drop_zero, Nat.sub_zero, chk_ok (by simp; omega), word_l (g := GReader.mk s 0 0) (n := 8) (by simp; omega) (by simp) (by decide)]
    rfl
theorem beN_lt : ∀ (l : List UInt8) (a k : Nat), a < 256 ^ k → beN a l < 256 ^ (k + l.length)
  | [], a, k, h => h
  | x :: l, a, k, h => by
    have hc := UInt8.toNat_lt x
    have := beN_lt l (a * 256 + x.toNat) (k + 1) (by rw [Nat.pow_succ]; omega)
    rw [show k + (x :: l).length = k + 1 + l.length by simp; omega]
    exact this
theorem rdW_lt {s : List UInt8} {w : Nat} (h : rdW s = some w) : w < 18446744073709551616 := by
  unfold rdW at h
  split at h
  · cases h
  · rename_i hl
    have := beN_lt (s.take 8) 0 0 (by decide)
    rw [show 0 + (s.take 8).length = 8 by simp; omega] at this
    cases h
    exact this
def zeroV : GValue := GValue.mk 0 0 0 []
/-- The body behind the kind, from place a on. -/
def bodyP (k : UInt8) (l : List UInt8) (a : Nat) : GValue × Int × Int :=
  if k.toNat = 1 then (GValue.mk k (zback (ztk l a).1) 0 [], (((ztk l a).2.1 : Nat) : Int), (((ztk l a).2.2 : Nat) : Int))
  else if k.toNat = 2 then (match l[a]? with | none => (GValue.mk k 0 0 [], 0, 3) | some x => (GValue.mk k ((x.toNat : Nat) : Int) 0 [], (a : Int) + 1, 0))
  else if k.toNat = 3 then (match rdW (l.drop a) with | none => (GValue.mk k 0 0 [], (a : Int), 3) | some w => (GValue.mk k 0 (w : Int) [], (a : Int) + 8, 0))
  else if k.toNat = 4 then (if (ztk l a).2.2 ≠ 0 then (GValue.mk k 0 0 [], 0, (((ztk l a).2.2 : Nat) : Int)) else if 24 < (ztk l a).1 then (GValue.mk k 0 0 [], 0, 5) else if l.length < (ztk l a).2.1 + (ztk l a).1 then (GValue.mk k 0 0 [], 0, 3) else (GValue.mk k 0 0 ((l.drop (ztk l a).2.1).take (ztk l a).1), (((ztk l a).2.1 + (ztk l a).1 : Nat) : Int), 0))
  else (GValue.mk k 0 0 [], 0, 11)
theorem tk_place (l : List UInt8) : ∀ (f i u : Nat), (tk l f i u).2.2 = 0 → (tk l f i u).2.1 ≤ l.length
  | 0, _, _, h => by simp [tk] at h
  | f + 1, i, u, h => by
    rw [tk] at h ⊢
    cases hl : l[i]? with
    | none => simp
    | some c =>
      rw [hl] at h
      simp only at h ⊢
      have hi := (List.getElem?_eq_some_iff.1 hl).1
      split
      · simp
      · split
        · simp
        · split
          · simp only; omega
          · rw [if_neg ‹_›, if_neg ‹_›, if_neg ‹_›] at h
            exact tk_place l f _ _ h
theorem ztk_place {l : List UInt8} {a : Nat} (ha : a ≤ l.length) : (ztk l a).2.1 ≤ l.length := by
  unfold ztk
  rw [if_neg (by omega)]
  simp only
  split
  · rename_i h
    have := tk_place _ _ _ _ h
    rw [List.length_drop] at this
    rw [Int.toNat_natCast] at *
    omega
  · omega
theorem body_ok {k : UInt8} {l : List UInt8} {a : Nat} (hl : l.length ≤ 1000000) (ha : a ≤ l.length) : m_value_body k l (a : Int) = some (bodyP k l a) := by
  have hpl := ztk_place (l := l) ha
  unfold m_value_body bodyP
  by_cases k1 : k.toNat = 1
  · rw [decide_eq_true (by omega), cond_true, if_pos k1, takeint_ok hl, obind_some]
  rw [decide_eq_false (by omega), cond_false, if_neg k1]
  by_cases k2 : k.toNat = 2
  · rw [decide_eq_true (by omega), cond_true, if_pos k2]
    by_cases h : a < l.length
    · rw [decide_eq_false (by omega), cond_false, geti_lt h, obind_some, List.getElem?_eq_getElem h, w64 (by omega) (by omega)]
    · rw [decide_eq_true (by omega), cond_true, List.getElem?_eq_none (by omega)]
  rw [decide_eq_false (by omega), cond_false, if_neg k2]
  by_cases k3 : k.toNat = 3
  · rw [decide_eq_true (by omega), cond_true, if_pos k3, cut_ok ha (Nat.le_refl _), obind_some, List.take_of_length_le (by simp)]
    unfold m_octet_Open
    rw [obind_some, pword_ok (by simp; omega), obind_some]
    unfold rdG
    cases rdW (l.drop a) with
    | none => simp only; rw [w64 (by omega) (by omega), Int.add_zero]
    | some w => simp only; rw [w64 (by omega) (by omega)]
  rw [decide_eq_false (by omega), cond_false, if_neg k3]
  by_cases k4 : k.toNat = 4
  · rw [decide_eq_true (by omega), cond_true, if_pos k4, take_ok hl, obind_some]
    unfold ztkI
    simp only
    by_cases c1 : (ztk l a).2.2 = 0
    · rw [decide_eq_false (by omega), cond_false, if_neg (by omega)]
      by_cases c2 : 24 < (ztk l a).1
      · rw [d_lt (by omega), cond_true, if_pos c2]
      · rw [d_nlt (by omega), cond_false, if_neg c2, w64 (n := (((ztk l a).1 : Nat) : Int)) (by omega) (by omega), w64 (n := ((l.length : Nat) : Int) - (((ztk l a).2.1 : Nat) : Int)) (by omega) (by omega)]
        by_cases c3 : l.length < (ztk l a).2.1 + (ztk l a).1
        · rw [d_lt (by omega), cond_true, if_pos c3]
        · rw [d_nlt (by omega), cond_false, if_neg c3, w64 (n := (((ztk l a).2.1 : Nat) : Int) + (((ztk l a).1 : Nat) : Int)) (by omega) (by omega), show (((ztk l a).2.1 : Nat) : Int) + (((ztk l a).1 : Nat) : Int) = (((ztk l a).2.1 + (ztk l a).1 : Nat) : Int) by omega, cut_ok (by omega) (by omega), obind_some, Nat.add_sub_cancel_left]
    · rw [decide_eq_true (by omega), cond_true, if_pos c1]
  · rw [decide_eq_false (by omega), cond_false, if_neg k4]
theorem body_u {k : UInt8} {l : List UInt8} {a : Nat} : u64B (bodyP k l a).1.Bits := by
  unfold bodyP
  split
  · exact ⟨by simp, by simp⟩
  · split
    · split <;> exact ⟨by simp, by simp⟩
    · split
      · split
        · exact ⟨by simp, by simp⟩
        · rename_i w h
          have := rdW_lt h
          exact ⟨by simp only; omega, by simp only; omega⟩
      · split
        · split
          · exact ⟨by simp, by simp⟩
          · split
            · exact ⟨by simp, by simp⟩
            · split <;> exact ⟨by simp, by simp⟩
        · exact ⟨by simp, by simp⟩
def endV (r : GValue × Int × Int) : GValue × Int × Int := if r.2.2 ≠ 0 then (zeroV, 0, r.2.2) else if chkV r.1 ≠ 0 then (zeroV, 0, chkV r.1) else (r.1, r.2.1, 0)
def vtk (l : List UInt8) (a : Int) : GValue × Int × Int :=
  if a < 0 ∨ (l.length : Int) < a then (zeroV, 0, 2) else match l[a.toNat]? with
    | none => (zeroV, 0, 3)
    | some k => endV (bodyP k l (a.toNat + 1))
theorem vtake_ok {l : List UInt8} (hl : l.length ≤ 1000000) (a : Int) : m_value_Take l a = some (vtk l a) := by
  unfold m_value_Take vtk
  by_cases h1 : a < 0
  · rw [d_lt h1, if_pos (.inl h1)]; rfl
  rw [d_nlt h1, cond_false]
  by_cases h2 : (l.length : Int) < a
  · rw [d_lt h2, if_pos (.inr h2)]; rfl
  rw [d_nlt h2, cond_false, if_neg (by omega)]
  obtain ⟨n, rfl⟩ : ∃ n : Nat, a = n := ⟨a.toNat, by omega⟩
  rw [Int.toNat_natCast]
  by_cases h3 : n < l.length
  · rw [decide_eq_false (by omega), cond_false, geti_lt h3, obind_some, List.getElem?_eq_getElem h3, inc_ok (by omega), body_ok hl (by omega), obind_some, check_ok body_u, obind_some]
    show _ = some (endV (bodyP l[n] l (n + 1)))
    unfold m_value_Take_j4 endV
    by_cases c1 : (bodyP l[n] l (n + 1)).2.2 = 0
    · rw [decide_eq_true c1, cond_true, if_neg (by simp [c1])]
      by_cases c2 : chkV (bodyP l[n] l (n + 1)).1 = 0
      · rw [decide_eq_false (by simp [c2]), cond_false, if_neg (by simp [c2])]
      · rw [decide_eq_true c2, cond_true, if_pos c2]; rfl
    · rw [decide_eq_false c1, cond_false, decide_eq_true c1, cond_true, if_pos c1]; rfl
  · rw [decide_eq_true (by omega), cond_true, List.getElem?_eq_none (by omega)]; rfl
end Go.Proofs.YtaaooafcijdbmaaDoor.K
namespace Go.Proofs.YtaaooafcijdbmaaDoor.K
open Go.RowKit Go.Lib
end Go.Proofs.YtaaooafcijdbmaaDoor.K
namespace Go.Proofs.YtaaooafcijdbmaaDoor.K
open Go.RowKit Go.Lib
theorem ztk_1 (k : UInt8) (t : List UInt8) : ztk (k :: t) ((1 : Nat) : Int) = zgo (k :: t) 1 (tk t 10 0 0) := by
  unfold ztk
  rw [if_neg (by simp only [List.length_cons]; omega)]
  rfl
theorem beN_snoc : ∀ (l : List UInt8) (a : Nat) (x : UInt8), beN a (l ++ [x]) = beN a l * 256 + x.toNat
  | [], a, x => rfl
  | y :: l, a, x => beN_snoc l (a * 256 + y.toNat) x
theorem beN_beB : ∀ (k u : Nat), u < 256 ^ k → beN 0 (beB k u) = u
  | 0, u, h => by simp at h; subst h; rfl
  | k + 1, u, h => by
    rw [Nat.pow_succ] at h
    rw [beB, beN_snoc, beN_beB k (u / 256) (by omega), UInt8.toNat_ofNat']; omega
theorem beB_beN : ∀ (n : Nat) (l : List UInt8), l.length = n → beB n (beN 0 l) = l
  | 0, l, h => by rw [List.length_eq_zero_iff.1 h]; rfl
  | n + 1, l, h => by
    have hne : l ≠ [] := fun e => by rw [e] at h; simp at h
    obtain ⟨r, x, rfl⟩ : ∃ r x, l = r ++ [x] := ⟨_, _, (List.dropLast_concat_getLast hne).symm⟩
    have hx := UInt8.toNat_lt x
    rw [beN_snoc, beB, show (beN 0 r * 256 + x.toNat) / 256 = beN 0 r by omega, show (beN 0 r * 256 + x.toNat) % 256 = x.toNat by omega, beB_beN n r (by simpa using h)]
    simp
theorem chk1 {v : GValue} (k1 : v.Kind.toNat = 1) (h : chkV v = 0) : v.Bits = 0 ∧ v.Text = [] := by
  unfold chkV at h
  rw [if_pos k1] at h
  split at h
  · omega
  · split at h
    · assumption
    · omega
theorem chk2 {v : GValue} (k2 : v.Kind.toNat = 2) (h : chkV v = 0) : (0 ≤ v.N ∧ v.N ≤ 1) ∧ v.Bits = 0 ∧ v.Text = [] := by
  unfold chkV at h
  rw [if_neg (by omega), if_pos k2] at h
  split at h
  · omega
  · split at h
    · exact ⟨by omega, by assumption⟩
    · omega
theorem chk3 {v : GValue} (k3 : v.Kind.toNat = 3) (h : chkV v = 0) : clean v.Bits = v.Bits ∧ v.N = 0 ∧ v.Text = [] := by
  unfold chkV at h
  rw [if_neg (by omega), if_neg (by omega), if_pos k3] at h
  split at h
  · omega
  · rename_i hc
    split at h
    · exact ⟨by simpa using hc, by assumption⟩
    · omega
theorem chk4 {v : GValue} (k4 : v.Kind.toNat = 4) (h : chkV v = 0) : v.Text.length ≤ 24 ∧ v.N = 0 ∧ v.Bits = 0 := by
  unfold chkV at h
  rw [if_neg (by omega), if_neg (by omega), if_neg (by omega), if_pos k4] at h
  split at h
  · omega
  · split at h
    · exact ⟨by omega, by assumption⟩
    · omega
theorem end_good {v : GValue} {n : Int} (h : chkV v = 0) : endV (v, n, 0) = (v, n, 0) := by
  unfold endV; rw [if_neg (by simp), if_neg (by simp [h])]
/-- What was put is taken. -/
theorem put_take {v : GValue} (hv : okB v) (hc : chkV v = 0) (r : List UInt8) : vtk ((v.Kind :: bytesV v) ++ r) 0 = (v, (((v.Kind :: bytesV v).length : Nat) : Int), 0) := by
  have hk := chk_range v
  unfold vtk
  rw [if_neg (by simp only [List.cons_append, List.length_cons]; omega), List.cons_append]
  show endV (bodyP v.Kind (v.Kind :: (bytesV v ++ r)) 1) = _
  obtain ⟨k, n, b, t⟩ := v
  simp only at *
  unfold bodyP
  rw [ztk_1]
  rcases hk with k1 | k2 | k3 | k4 | h
  · obtain ⟨h1, h2⟩ := chk1 (v := ⟨k, n, b, t⟩) k1 hc
    simp only at h1 h2
    subst h1; subst h2
    have hb : bytesV ⟨k, n, 0, []⟩ = zb (zfold n) := by unfold bytesV; rw [if_pos k1]
    rw [hb, if_pos k1, tk_put _ (zfold_lt n hv.N.1 hv.N.2)]
    unfold zgo
    simp only
    rw [if_pos trivial, zback_fold]
    show endV ((⟨k, n, 0, []⟩ : GValue), _, 0) = _
    rw [end_good hc]
    simp only [List.length_cons, zb_length]
    congr 2; omega
  · obtain ⟨h0, h1, h2⟩ := chk2 (v := ⟨k, n, b, t⟩) k2 hc
    simp only at h0 h1 h2
    subst h1; subst h2
    have hb : bytesV ⟨k, n, 0, []⟩ = [toU8 n] := by unfold bytesV; rw [if_neg (by simp only; omega), if_pos k2]
    have e : (((toU8 n).toNat : Nat) : Int) = n := by
      obtain ⟨m, rfl⟩ : ∃ m : Nat, n = m := ⟨n.toNat, by omega⟩
      rw [toU8_nat]; omega
    rw [hb, if_neg (by omega), if_pos k2]
    show endV ((⟨k, (((toU8 n).toNat : Nat) : Int), 0, []⟩ : GValue), _, 0) = _
    rw [e, end_good hc]
    rfl
  · obtain ⟨h0, h1, h2⟩ := chk3 (v := ⟨k, n, b, t⟩) k3 hc
    simp only at h0 h1 h2
    subst h1; subst h2
    have hb : bytesV ⟨k, 0, b, []⟩ = beB 8 b.toNat := by unfold bytesV; rw [if_neg (by simp only; omega), if_neg (by simp only; omega), if_pos k3]
    have hu := hv.B
    simp only at hu
    have hr : rdW (beB 8 b.toNat ++ r) = some b.toNat := by
      unfold rdW
      rw [if_neg (by rw [List.length_append, beB_len]; omega), List.take_left' (beB_len 8 _), beN_beB 8 _ (by have := hu.2; omega)]
    rw [hb, if_neg (by omega), if_neg (by omega), if_pos k3]
    rw [show List.drop 1 (k :: (beB 8 b.toNat ++ r)) = beB 8 b.toNat ++ r from rfl, hr]
    simp only
    rw [show ((b.toNat : Nat) : Int) = b by have := hu.1; omega]
    show endV ((⟨k, 0, b, []⟩ : GValue), _, 0) = _
    rw [end_good hc]
    simp only [List.length_cons, beB_len]
    rfl
  · obtain ⟨h0, h1, h2⟩ := chk4 (v := ⟨k, n, b, t⟩) k4 hc
    simp only at h0 h1 h2
    subst h1; subst h2
    have hb : bytesV ⟨k, 0, 0, t⟩ = zb t.length ++ t := by unfold bytesV; rw [if_neg (by simp only; omega), if_neg (by simp only; omega), if_neg (by simp only; omega)]
    rw [hb, if_neg (by omega), if_neg (by omega), if_neg (by omega), if_pos k4, List.append_assoc, tk_put _ (by omega)]
    unfold zgo
    simp only
    rw [if_neg (by simp), if_neg (by omega), if_pos trivial, if_neg (by simp [zb_length]; omega)]
    have ht : (List.drop (1 + zn t.length) (k :: (zb t.length ++ (t ++ r)))).take t.length = t := by
      rw [Nat.add_comm, List.drop_succ_cons, List.drop_left' (zb_length _), List.take_left' rfl]
    rw [ht]
    rw [end_good hc]
    simp only [List.length_cons, List.length_append, zb_length]
    congr 2; omega
  · rw [hc] at h; cases h
/-- What is taken has just these bytes. -/
theorem take_put {s : List UInt8} {x : GValue} {n : Int} (hs : s.length ≤ 100000) (h : vtk s 0 = (x, n, 0)) : chkV x = 0 ∧ okB x ∧ ∃ m : Nat, n = m ∧ m ≤ s.length ∧ x.Kind :: bytesV x = s.take m := by
  unfold vtk at h
  rw [if_neg (by simp)] at h
  cases s with
  | nil => simp at h
  | cons k t =>
    replace h : endV (bodyP k (k :: t) 1) = (x, n, 0) := h
    have hu := body_u (k := k) (l := k :: t) (a := 1)
    generalize hb : bodyP k (k :: t) 1 = y at h hu
    unfold endV at h
    by_cases c1 : y.2.2 ≠ 0
    · rw [if_pos c1] at h
      have := congrArg (fun p : GValue × Int × Int => p.2.2) h
      exact absurd this c1
    rw [if_neg c1] at h
    by_cases c2 : chkV y.1 ≠ 0
    · rw [if_pos c2] at h
      have := congrArg (fun p : GValue × Int × Int => p.2.2) h
      exact absurd this c2
    rw [if_neg c2] at h
    obtain ⟨y1, y2, y3⟩ := y
    simp only at c1 c2 h hu
    have hy3 : y3 = 0 := by omega
    subst hy3
    cases h
    have hc : chkV x = 0 := by omega
    simp only [List.length_cons] at hs
    refine ⟨hc, ?_⟩
    unfold bodyP at hb
    rw [ztk_1] at hb
    by_cases k1 : k.toNat = 1
    · rw [if_pos k1] at hb
      unfold zgo at hb
      simp only [Prod.mk.injEq] at hb
      obtain ⟨b1, b2, b3⟩ := hb
      have hlt := tk_lt t 10 0 0 rfl (by decide)
      have e0 : (tk t 10 0 0).2.2 = 0 := by omega
      obtain ⟨q1, q2⟩ := tk_bytes (l := t) (u := (tk t 10 0 0).1) (n := (tk t 10 0 0).2.1) (Prod.ext rfl (Prod.ext rfl e0))
      rw [if_pos e0] at b2
      subst b1
      refine ⟨⟨⟨zback_lo _ hlt, zback_hi _ hlt⟩, hu, by simp⟩, _, b2.symm, by simp only [List.length_cons]; omega, ?_⟩
      rw [Nat.add_comm, List.take_succ_cons, q2]
      unfold bytesV
      rw [if_pos k1, zfold_back]
    rw [if_neg k1] at hb
    by_cases k2 : k.toNat = 2
    · rw [if_pos k2] at hb
      cases t with
      | nil => simp at hb
      | cons z t =>
        simp only [List.getElem?_cons_succ, List.getElem?_cons_zero, Prod.mk.injEq] at hb
        obtain ⟨b1, b2, b3⟩ := hb
        subst b1
        have hz := UInt8.toNat_lt z
        refine ⟨⟨⟨by simp only; omega, by simp only; omega⟩, hu, by simp⟩, 2, by omega, by simp, ?_⟩
        unfold bytesV
        rw [if_neg (by simp only; omega), if_pos k2]
        have : toU8 ((z.toNat : Nat) : Int) = z := by
          apply UInt8.toNat_inj.1
          rw [toU8_nat]; omega
        rw [this]; rfl
    rw [if_neg k2] at hb
    by_cases k3 : k.toNat = 3
    · rw [if_pos k3] at hb
      rw [show List.drop 1 (k :: t) = t from rfl] at hb
      cases hw : rdW t with
      | none => rw [hw] at hb; simp at hb
      | some w =>
        rw [hw] at hb
        simp only [Prod.mk.injEq] at hb
        obtain ⟨b1, b2, b3⟩ := hb
        subst b1
        have hlt := rdW_lt hw
        unfold rdW at hw
        split at hw
        · cases hw
        · rename_i hl
          have hw := Option.some.inj hw
          refine ⟨⟨⟨by simp, by simp⟩, hu, by simp⟩, 9, by omega, by simp only [List.length_cons]; omega, ?_⟩
          unfold bytesV
          rw [if_neg (by simp only; omega), if_neg (by simp only; omega), if_pos k3, List.take_succ_cons]
          simp only [Int.toNat_natCast]
          rw [← hw, beB_beN 8 _ (by simp; omega)]
    rw [if_neg k3] at hb
    by_cases k4 : k.toNat = 4
    · rw [if_pos k4] at hb
      have hlt := tk_lt t 10 0 0 rfl (by decide)
      unfold zgo at hb
      simp only at hb
      by_cases d1 : (tk t 10 0 0).2.2 = 0
      · rw [if_neg (by simp [d1]), if_pos d1] at hb
        by_cases d2 : 24 < (tk t 10 0 0).1
        · rw [if_pos d2] at hb; simp at hb
        rw [if_neg d2] at hb
        by_cases d3 : (k :: t).length < 1 + (tk t 10 0 0).2.1 + (tk t 10 0 0).1
        · rw [if_pos d3] at hb; simp at hb
        rw [if_neg d3] at hb
        simp only [Prod.mk.injEq] at hb
        obtain ⟨b1, b2, b3⟩ := hb
        obtain ⟨q1, q2⟩ := tk_bytes (l := t) (u := (tk t 10 0 0).1) (n := (tk t 10 0 0).2.1) (Prod.ext rfl (Prod.ext rfl d1))
        generalize (tk t 10 0 0).2.1 = m at *
        generalize (tk t 10 0 0).1 = u at *
        rw [Nat.add_comm 1 m, List.drop_succ_cons] at b1
        subst b1
        simp only [List.length_cons] at d3
        have hlen : ((t.drop m).take u).length = u := by rw [List.length_take, List.length_drop]; omega
        refine ⟨⟨⟨by simp, by simp⟩, hu, by simp only [hlen]; omega⟩, _, b2.symm, by simp only [List.length_cons]; omega, ?_⟩
        unfold bytesV
        rw [if_neg (by simp only; omega), if_neg (by simp only; omega), if_neg (by simp only; omega)]
        simp only [hlen]
        rw [show 1 + m + u = (m + u) + 1 by omega, List.take_succ_cons, List.take_add, q2]
      · rw [if_pos (by simpa using d1)] at hb
        simp only [Prod.mk.injEq] at hb
        omega
    rw [if_neg k4] at hb
    simp at hb
theorem ztk_drop {l : List UInt8} {a b : Nat} (h : a + b ≤ l.length) : ztk l ((a + b : Nat) : Int) = ((ztk (l.drop a) (b : Int)).1, if (ztk (l.drop a) (b : Int)).2.2 = 0 then a + (ztk (l.drop a) (b : Int)).2.1 else 0, (ztk (l.drop a) (b : Int)).2.2) := by
  unfold ztk
  rw [if_neg (by omega), if_neg (by rw [List.length_drop]; omega)]
  simp only [Int.toNat_natCast, List.drop_drop]
  split
  · rw [Nat.add_assoc]
  · rfl
theorem ztk_drop0 {l : List UInt8} {a : Nat} (h : a ≤ l.length) : ztk l (a : Int) = zgo l a (tk (l.drop a) 10 0 0) := by
  unfold ztk zgo
  rw [if_neg (by omega)]
  simp only [Int.toNat_natCast]
/-- A body behind place a. -/
theorem body_drop {k : UInt8} {l : List UInt8} {a b : Nat} (h : a + b ≤ l.length) : (bodyP k l (a + b)).1 = (bodyP k (l.drop a) b).1 ∧ (bodyP k l (a + b)).2.2 = (bodyP k (l.drop a) b).2.2 ∧
    ((bodyP k l (a + b)).2.2 = 0 → (bodyP k l (a + b)).2.1 = (a : Int) + (bodyP k (l.drop a) b).2.1) := by
  have hz := ztk_drop h
  have hd : (l.drop a)[b]? = l[a + b]? := by rw [List.getElem?_drop]
  have hdd : (l.drop a).drop b = l.drop (a + b) := by rw [List.drop_drop]
  unfold bodyP
  rw [hz, hd, hdd]
  generalize ztk (l.drop a) (b : Int) = z
  obtain ⟨z1, z2, z3⟩ := z
  simp only
  by_cases k1 : k.toNat = 1
  · simp only [if_pos k1]
    refine ⟨trivial, trivial, fun h => ?_⟩
    rw [if_pos (by omega)]; omega
  simp only [if_neg k1]
  by_cases k2 : k.toNat = 2
  · simp only [if_pos k2]
    cases l[a + b]? with
    | none => exact ⟨rfl, rfl, fun h => by simp at h⟩
    | some x => exact ⟨rfl, rfl, fun h => by simp only; omega⟩
  simp only [if_neg k2]
  by_cases k3 : k.toNat = 3
  · simp only [if_pos k3]
    cases rdW (l.drop (a + b)) with
    | none => exact ⟨rfl, rfl, fun h => by simp at h⟩
    | some x => exact ⟨rfl, rfl, fun h => by simp only; omega⟩
  simp only [if_neg k3]
  by_cases k4 : k.toNat = 4
  · simp only [if_pos k4]
    by_cases c1 : z3 = 0
    · simp only [c1, ne_eq, not_true_eq_false, if_false, if_true]
      by_cases c2 : 24 < z1
      · simp only [if_pos c2]; exact ⟨trivial, trivial, fun h => by simp at h⟩
      · simp only [if_neg c2]
        by_cases c3 : l.length < a + z2 + z1
        · rw [if_pos c3, if_pos (by rw [List.length_drop]; omega)]; exact ⟨rfl, rfl, fun h => by simp at h⟩
        · rw [if_neg c3, if_neg (by rw [List.length_drop]; omega), List.drop_drop]; exact ⟨rfl, rfl, fun h => by simp only; omega⟩
    · simp only [ne_eq, c1, not_false_eq_true, if_true, if_false]; exact ⟨trivial, trivial, fun h => by omega⟩
  simp only [if_neg k4]
  exact ⟨trivial, trivial, fun h => by simp at h⟩
theorem endV_drop {r q : GValue × Int × Int} {a : Int} (h1 : r.1 = q.1) (h2 : r.2.2 = q.2.2) (h3 : r.2.2 = 0 → r.2.1 = a + q.2.1) : endV r = ((endV q).1, if (endV q).2.2 = 0 then a + (endV q).2.1 else 0, (endV q).2.2) := by
  obtain ⟨r1, r2, r3⟩ := r
  obtain ⟨q1, q2, q3⟩ := q
  simp only at h1 h2 h3
  subst h1; subst h2
  unfold endV
  by_cases c1 : r3 = 0
  · by_cases c2 : chkV r1 = 0
    · have h3 := h3 c1
      subst h3
      simp [c1, c2]
    · simp [c1, c2]
  · simp [c1]
/-- Taken behind place a. -/
theorem vtk_drop {l : List UInt8} {a : Nat} (h : a ≤ l.length) : vtk l (a : Int) = ((vtk (l.drop a) 0).1, if (vtk (l.drop a) 0).2.2 = 0 then (a : Int) + (vtk (l.drop a) 0).2.1 else 0, (vtk (l.drop a) 0).2.2) := by
  unfold vtk
  rw [if_neg (by omega), if_neg (by rw [List.length_drop]; omega), Int.toNat_natCast, Int.toNat_zero, show (l.drop a)[0]? = l[a]? by rw [List.getElem?_drop, Nat.add_zero]]
  by_cases hl : a < l.length
  · rw [List.getElem?_eq_getElem hl]
    simp only
    obtain ⟨b1, b2, b3⟩ := body_drop (k := l[a]) (l := l) (a := a) (b := 1) (by omega)
    exact endV_drop b1 b2 b3
  · rw [List.getElem?_eq_none (by omega)]
    simp
end Go.Proofs.YtaaooafcijdbmaaDoor.K

namespace Go.Proofs.YtaaooafcijdbmaaDoor.K
open Go.RowKit Go.Lib

structure wf_GField (x : GField) : Prop where
  Name : wfS x.Name
  Kind : wfT x.Kind
theorem td_69 {ds : List D} (h : TD Tryd.prog 69 ds) : ∃ x : GField, ds = enc_GField x ∧ wf_GField x := by
  have h0 := TD.of_struct Tryd.underlying69 h
  obtain ⟨p0, q0, e0, t0, h1⟩ := h0
  obtain ⟨x0, f0, w0⟩ := td_str Tryd.underlying9 t0
  obtain ⟨p1, q1, e1, t1, h2⟩ := h1
  obtain ⟨x1, f1, w1⟩ := td_u8 Tryd.underlying5 t1
  have h2 : q1 = [] := h2
  refine ⟨⟨x0, x1⟩, ?_, ⟨w0, w1⟩⟩
  rw [e0, f0, e1, f1, h2]; rfl
structure wf_GType (x : GType) : Prop where
  Name : wfS x.Name
  Fields : (wfL wf_GField) x.Fields
theorem td_67 {ds : List D} (h : TD Tryd.prog 67 ds) : ∃ x : GType, ds = enc_GType x ∧ wf_GType x := by
  have h0 := TD.of_struct Tryd.underlying67 h
  obtain ⟨p0, q0, e0, t0, h1⟩ := h0
  obtain ⟨x0, f0, w0⟩ := td_str Tryd.underlying9 t0
  obtain ⟨p1, q1, e1, t1, h2⟩ := h1
  obtain ⟨x1, f1, w1⟩ := td_slice (enc := enc_GField) (q := wf_GField) Tryd.underlying65 (fun {r} h => td_69 h) t1
  have h2 : q1 = [] := h2
  refine ⟨⟨x0, x1⟩, ?_, ⟨w0, w1⟩⟩
  rw [e0, f0, e1, f1, h2]; rfl
structure wf_GValue (x : GValue) : Prop where
  Kind : wfT x.Kind
  N : (inK .i64) x.N
  Bits : (inK .u64) x.Bits
  Text : wfS x.Text
theorem td_98 {ds : List D} (h : TD Tryd.prog 98 ds) : ∃ x : GValue, ds = enc_GValue x ∧ wf_GValue x := by
  have h0 := TD.of_struct Tryd.underlying98 h
  obtain ⟨p0, q0, e0, t0, h1⟩ := h0
  obtain ⟨x0, f0, w0⟩ := td_u8 Tryd.underlying5 t0
  obtain ⟨p1, q1, e1, t1, h2⟩ := h1
  obtain ⟨x1, f1, w1⟩ := td_int Tryd.underlying3 t1
  obtain ⟨p2, q2, e2, t2, h3⟩ := h2
  obtain ⟨x2, f2, w2⟩ := td_int Tryd.underlying84 t2
  obtain ⟨p3, q3, e3, t3, h4⟩ := h3
  obtain ⟨x3, f3, w3⟩ := td_str Tryd.underlying9 t3
  have h4 : q3 = [] := h4
  refine ⟨⟨x0, x1, x2, x3⟩, ?_, ⟨w0, w1, w2, w3⟩⟩
  rw [e0, f0, e1, f1, e2, f2, e3, f3, h4]; rfl
structure wf_GEvent (x : GEvent) : Prop where
  Time : (inK .i64) x.Time
  Source : (inK .i64) x.Source
  Seq : (inK .i64) x.Seq
  Type_ : wfS x.Type_
  Vals : (wfL wf_GValue) x.Vals
theorem td_44 {ds : List D} (h : TD Tryd.prog 44 ds) : ∃ x : GEvent, ds = enc_GEvent x ∧ wf_GEvent x := by
  have h0 := TD.of_struct Tryd.underlying44 h
  obtain ⟨p0, q0, e0, t0, h1⟩ := h0
  obtain ⟨x0, f0, w0⟩ := td_int Tryd.underlying3 t0
  obtain ⟨p1, q1, e1, t1, h2⟩ := h1
  obtain ⟨x1, f1, w1⟩ := td_int Tryd.underlying3 t1
  obtain ⟨p2, q2, e2, t2, h3⟩ := h2
  obtain ⟨x2, f2, w2⟩ := td_int Tryd.underlying3 t2
  obtain ⟨p3, q3, e3, t3, h4⟩ := h3
  obtain ⟨x3, f3, w3⟩ := td_str Tryd.underlying9 t3
  obtain ⟨p4, q4, e4, t4, h5⟩ := h4
  obtain ⟨x4, f4, w4⟩ := td_slice (enc := enc_GValue) (q := wf_GValue) Tryd.underlying42 (fun {r} h => td_98 h) t4
  have h5 : q4 = [] := h5
  refine ⟨⟨x0, x1, x2, x3, x4⟩, ?_, ⟨w0, w1, w2, w3, w4⟩⟩
  rw [e0, f0, e1, f1, e2, f2, e3, f3, e4, f4, h5]; rfl
structure wf_GCommand (x : GCommand) : Prop where
  Kind : wfT x.Kind
  Text : wfS x.Text
  A : (inK .i64) x.A
  B : (inK .i64) x.B
  E : wf_GEvent x.E
theorem td_46 {ds : List D} (h : TD Tryd.prog 46 ds) : ∃ x : GCommand, ds = enc_GCommand x ∧ wf_GCommand x := by
  have h0 := TD.of_struct Tryd.underlying46 h
  obtain ⟨p0, q0, e0, t0, h1⟩ := h0
  obtain ⟨x0, f0, w0⟩ := td_u8 Tryd.underlying5 t0
  obtain ⟨p1, q1, e1, t1, h2⟩ := h1
  obtain ⟨x1, f1, w1⟩ := td_str Tryd.underlying9 t1
  obtain ⟨p2, q2, e2, t2, h3⟩ := h2
  obtain ⟨x2, f2, w2⟩ := td_int Tryd.underlying3 t2
  obtain ⟨p3, q3, e3, t3, h4⟩ := h3
  obtain ⟨x3, f3, w3⟩ := td_int Tryd.underlying3 t3
  obtain ⟨p4, q4, e4, t4, h5⟩ := h4
  obtain ⟨x4, f4, w4⟩ := td_44 t4
  have h5 : q4 = [] := h5
  refine ⟨⟨x0, x1, x2, x3, x4⟩, ?_, ⟨w0, w1, w2, w3, w4⟩⟩
  rw [e0, f0, e1, f1, e2, f2, e3, f3, e4, f4, h5]; rfl
end Go.Proofs.YtaaooafcijdbmaaDoor.K

namespace Go.Proofs.YtaaooafcijdbmaaDoor.K
open Go.RowKit Go.Lib
theorem eq_loop {α : Type} [DecidableEq α] {L : Nat → Int → Option Bool} {a b : List α} (hl : a.length = b.length) (hb : a.length ≤ 1000000000) (hend : ∀ fu, L (fu + 1) (a.length : Int) = some true)
    (hstep : ∀ (fu i : Nat) (h1 : i < a.length) (h2 : i < b.length), L (fu + 1) (i : Int) = if a[i] = b[i] then L fu ((i + 1 : Nat) : Int) else some false) : L 1152921504606846976 0 = some (decide (a = b)) := by
  have := loop1_0 (L := L) (n := a.length) (P := fun i o => o = some (decide (a.drop i = b.drop i))) (by omega)
    (fun fu => by
      rw [hend, List.drop_eq_nil_of_le (Nat.le_refl _), List.drop_eq_nil_of_le (by omega)]; rfl)
    (fun fu i hi ih => by
      rw [hstep fu i hi (by omega), drop_cons hi, drop_cons (l := b) (by omega)]
      by_cases h : a[i] = b[i]'(by omega)
      · rw [if_pos h, ih]
        congr 1
        exact decide_eq_decide.2 ⟨fun e => by rw [h, e], fun e => (List.cons.inj e).2⟩
      · rw [if_neg h]
        congr 1
        exact (decide_eq_false fun e => h (List.cons.inj e).1).symm)
  simpa using this
end Go.Proofs.YtaaooafcijdbmaaDoor.K
namespace Go.Proofs.YtaaooafcijdbmaaDoor.K
open Go.RowKit Go.Lib
theorem same4 (v w : GValue) : (decide (((v.Kind.toNat : Nat) : Int) = ((w.Kind.toNat : Nat) : Int)) && (decide (v.N = w.N) && (decide (v.Bits = w.Bits) && (decide (v.Text = w.Text) && true)))) = decide (v = w) := by
  rw [Bool.eq_iff_iff]
  obtain ⟨k, n, b, t⟩ := v
  obtain ⟨k', n', b', t'⟩ := w
  simp only [Bool.and_eq_true, decide_eq_true_eq, and_true, GValue.mk.injEq]
  constructor
  · rintro ⟨h1, h2, h3, h4⟩
    exact ⟨UInt8.toNat_inj.1 (by omega), h2, h3, h4⟩
  · rintro ⟨h1, h2, h3, h4⟩
    exact ⟨by rw [h1], h2, h3, h4⟩
theorem evEq {a b : GEvent} (h1 : a.Time = b.Time) (h2 : a.Source = b.Source) (h3 : a.Seq = b.Seq) (h4 : a.Type_ = b.Type_) (h5 : a.Vals = b.Vals) : a = b := by
  cases a; cases b; simp_all
theorem rsame_ok {a b : GEvent} (ha : a.Vals.length ≤ 1000000) (hb : b.Vals.length ≤ 1000000) : m_r07_Same a b = some (decide (a = b)) := by
  unfold m_r07_Same m_r07_Same_j1
  by_cases h1 : a.Time = b.Time
  · rw [decide_eq_false (by simp [h1]), cond_false]
    by_cases h2 : a.Source = b.Source
    · rw [decide_eq_false (by simp [h2]), cond_false]
      by_cases h3 : a.Seq = b.Seq
      · rw [decide_eq_false (by simp [h3]), cond_false]
        by_cases h4 : a.Type_ = b.Type_
        · rw [decide_eq_false (by simp [h4]), cond_false]
          by_cases h5 : a.Vals.length = b.Vals.length
          · rw [decide_eq_false (by simp [h5]), cond_false]
            have := eq_loop (L := fun fu i => m_r07_Same_l2 a b fu i) (a := a.Vals) (b := b.Vals) h5 (by omega)
              (fun fu => by unfold m_r07_Same_l2; rw [d_nlt (by omega)]; rfl)
              (fun fu i i1 i2 => by
                conv => lhs; unfold m_r07_Same_l2
                rw [d_lt (by omega), cond_true, geti_lt i1, obind_some, geti_lt i2, obind_some, same4, obind_some, inc_ok (by omega)]
                by_cases h : a.Vals[i] = b.Vals[i]
                · rw [decide_eq_true h, if_pos h]; rfl
                · rw [decide_eq_false h, if_neg h]; rfl)
            refine this.trans ?_
            congr 1
            exact decide_eq_decide.2 ⟨fun h => evEq h1 h2 h3 h4 h, fun h => by rw [h]⟩
          · rw [decide_eq_true (by omega), decide_eq_false (fun h : a = b => h5 (by rw [h]))]; rfl
        · rw [decide_eq_true h4, decide_eq_false (fun h : a = b => h4 (by rw [h]))]; rfl
      · rw [decide_eq_true h3, decide_eq_false (fun h : a = b => h3 (by rw [h]))]; rfl
    · rw [decide_eq_true h2, decide_eq_false (fun h : a = b => h2 (by rw [h]))]; rfl
  · rw [decide_eq_true h1, decide_eq_false (fun h : a = b => h1 (by rw [h]))]; rfl
end Go.Proofs.YtaaooafcijdbmaaDoor.K
namespace Go.Proofs.YtaaooafcijdbmaaDoor.K
open Go.RowKit Go.Lib
def lett (c : UInt8) : Bool := decide (97 ≤ c.toNat) && decide (c.toNat ≤ 122)
def tailc (c : UInt8) : Bool := lett c || (decide (48 ≤ c.toNat) && decide (c.toNat ≤ 57)) || decide (c.toNat = 95)
def resW : List (List UInt8) := [[119, 105, 116, 104, 105, 110], [98, 121], [97, 110, 100], [111, 114], [110, 111, 116], [97, 110, 121], [110, 101, 120, 116], [115, 116, 114, 105, 99, 116], [116, 114, 117, 101], [102, 97, 108, 115, 101]]
def resv (s : List UInt8) : Bool := decide (s ∈ resW)
def nameB : List UInt8 → Bool
  | [] => false
  | c :: t => decide (t.length < 12) && !resv (c :: t) && lett c && t.all tailc
theorem nameB_cons (c : UInt8) (t : List UInt8) : nameB (c :: t) = (decide (t.length < 12) && !resv (c :: t) && lett c && t.all tailc) := rfl
theorem letter_ok (c : UInt8) : m_schema_letter c = some (lett c) := by
  unfold m_schema_letter lett
  by_cases h : 97 ≤ c.toNat
  · rw [decide_eq_true (by omega), cond_true, decide_eq_true h, Bool.true_and]
    congr 1; exact decide_eq_decide.2 (by omega)
  · rw [decide_eq_false (by omega), decide_eq_false h]; rfl
theorem tail_ok (c : UInt8) : m_schema_tail c = some (tailc c) := by
  unfold m_schema_tail tailc
  rw [letter_ok, obind_some]
  cases lett c with
  | true => rfl
  | false =>
    rw [cond_false, Bool.false_or]
    have e : decide (((c.toNat : Nat) : Int) = 95) = decide (c.toNat = 95) := decide_eq_decide.2 (by omega)
    rw [e]
    by_cases h : 48 ≤ c.toNat
    · rw [decide_eq_true (by omega), cond_true, decide_eq_true h, Bool.true_and]
      by_cases h2 : c.toNat ≤ 57
      · rw [decide_eq_true (by omega), decide_eq_true h2]; rfl
      · rw [decide_eq_false (by omega), decide_eq_false h2, cond_false, Bool.false_or]
    · rw [decide_eq_false (by omega), decide_eq_false h, cond_false, Bool.false_and, Bool.false_or]
theorem reserved_ok (s : List UInt8) : m_schema_Reserved s = some (resv s) := by
  unfold resv
  by_cases h : s ∈ resW
  · rw [decide_eq_true h]
    simp only [resW, List.mem_cons, List.not_mem_nil, or_false] at h
    rcases h with rfl | rfl | rfl | rfl | rfl | rfl | rfl | rfl | rfl | rfl <;> decide +kernel
  · rw [decide_eq_false h]
    simp only [resW, List.mem_cons, List.not_mem_nil, or_false, not_or] at h
    obtain ⟨h1, h2, h3, h4, h5, h6, h7, h8, h9, h10⟩ := h
    unfold m_schema_Reserved m_schema_Reserved_j0
    rw [decide_eq_false h1, cond_false, decide_eq_false h2, cond_false, decide_eq_false h3, cond_false, decide_eq_false h4, cond_false, decide_eq_false h5, cond_false, decide_eq_false h6, cond_false, decide_eq_false h7, cond_false, decide_eq_false h8, cond_false, decide_eq_false h9, cond_false, decide_eq_false h10, cond_false]
theorem rres_step (s : List UInt8) (fu i : Nat) : m_r06_Reserved_l0 s (fu + 1) (i : Int) = cond (decide ((i : Int) < ((resW.length : Nat) : Int))) (Option.bind (geti resW (i : Int)) fun x => cond (decide (x = s)) (some true) (m_r06_Reserved_l0 s fu (IntKind.i64.wrap ((i : Int) + 1)))) (some false) := rfl
theorem rreserved_ok (s : List UInt8) : m_r06_Reserved s = some (resv s) := by
  unfold m_r06_Reserved resv
  have := loop1_0 (L := fun fu i => m_r06_Reserved_l0 s fu i) (n := resW.length) (P := fun i o => o = some (decide (s ∈ resW.drop i))) (by decide)
    (fun fu => by rw [rres_step, d_nlt (by omega), List.drop_of_length_le (Nat.le_refl _)]; rfl)
    (fun fu i hi ih => by
      have hl : resW.length = 10 := rfl
      rw [rres_step, d_lt (by omega), cond_true, geti_lt hi, obind_some, inc_ok (by omega), ih, drop_cons hi]
      by_cases h : resW[i] = s
      · rw [decide_eq_true h, cond_true, decide_eq_true (by rw [h]; simp)]
      · rw [decide_eq_false h, cond_false]
        congr 1
        exact decide_eq_decide.2 ⟨fun q => List.mem_cons_of_mem _ q, fun q => (List.mem_cons.1 q).resolve_left fun e => h e.symm⟩)
  rw [List.drop_zero] at this; exact this
theorem name_l {s : List UInt8} (hs : s.length ≤ 1000) (fu i : Nat) (h1 : i ≤ s.length) (h2 : s.length - i < fu) : m_schema_Name_l2 s fu (i : Int) = some ((s.drop i).all tailc) :=
  loop1 (L := fun fu i => m_schema_Name_l2 s fu i) (n := s.length) (P := fun i o => o = some ((s.drop i).all tailc))
    (fun fu => by unfold m_schema_Name_l2; rw [d_nlt (by omega), List.drop_of_length_le (Nat.le_refl _)]; rfl)
    (fun fu i hi ih => by
      unfold m_schema_Name_l2
      rw [d_lt (by omega), cond_true, geti_lt hi, obind_some, tail_ok, obind_some, inc_ok (by omega), ih, drop_cons hi, List.all_cons]
      cases tailc s[i] <;> rfl) fu i h1 h2
theorem name_ok (s : List UInt8) : m_schema_Name s = some (nameB s) := by
  unfold m_schema_Name m_schema_Name_j1
  cases s with
  | nil => rfl
  | cons c t =>
    rw [decide_eq_false (by simp), cond_false]
    rw [nameB_cons]
    by_cases h : t.length < 12
    · rw [d_nlt (by simp; omega), cond_false, geti_0, obind_some, letter_ok, obind_some, reserved_ok, obind_some, decide_eq_true h, Bool.true_and]
      cases lett c with
      | false => simp
      | true =>
        cases resv (c :: t) with
        | true => rfl
        | false =>
          have := name_l (s := c :: t) (by simp; omega) 1152921504606846976 1 (by simp) (by simp; omega)
          simpa using this
    · rw [d_lt (by simp; omega), decide_eq_false h]; rfl
theorem rn_step {s : List UInt8} {i : Nat} (hi : i < s.length) (hs : s.length ≤ 1000) (fu : Nat) : m_r06_Name_l2 s (fu + 1) (i : Int) =
    if lett s[i] = true then m_r06_Name_l2 s fu ((i + 1 : Nat) : Int) else if i = 0 then some false else if tailc s[i] = true then m_r06_Name_l2 s fu ((i + 1 : Nat) : Int) else some false := by
  conv => lhs; unfold m_r06_Name_l2 m_r06_Name_j6 m_r06_Name_j10 m_r06_Name_j11
  rw [d_lt (by omega), cond_true, geti_lt hi, inc_ok (by omega)]
  simp only [obind_some]
  unfold tailc lett
  generalize hc : s[i].toNat = c
  by_cases h1 : 97 ≤ c <;> by_cases h2 : c ≤ 122 <;> by_cases h3 : 48 ≤ c <;> by_cases h4 : c ≤ 57 <;> by_cases h5 : c = 95 <;> by_cases h6 : i = 0 <;>
    first
    | (exfalso; omega)
    | (rw [show decide ((97 : Int) ≤ (c : Int)) = decide (97 ≤ c) from decide_eq_decide.2 (by omega), show decide ((48 : Int) ≤ (c : Int)) = decide (48 ≤ c) from decide_eq_decide.2 (by omega), show decide ((c : Int) ≤ 57) = decide (c ≤ 57) from decide_eq_decide.2 (by omega), show decide ((c : Int) ≤ 122) = decide (c ≤ 122) from decide_eq_decide.2 (by omega), show decide ((c : Int) = 95) = decide (c = 95) from decide_eq_decide.2 (by omega), show decide ((i : Int) = 0) = decide (i = 0) from decide_eq_decide.2 (by omega)]; simp [h1, h2, h3, h4, h5, h6])
theorem rname_ok (s : List UInt8) : m_r06_Name s = some (nameB s) := by
  unfold m_r06_Name m_r06_Name_j1
  cases s with
  | nil => rfl
  | cons c t =>
    rw [d_nlt (by simp; omega), cond_false]
    rw [nameB_cons]
    by_cases h : t.length < 12
    · rw [d_nlt (by simp; omega), cond_false, rreserved_ok, obind_some, decide_eq_true h, Bool.true_and]
      cases resv (c :: t) with
      | true => rfl
      | false =>
        have hlen : (c :: t).length ≤ 12 := by simp; omega
        have := loop1_0 (L := fun fu i => m_r06_Name_l2 (c :: t) fu i) (n := (c :: t).length) (P := fun i o => o = some (if i = 0 then lett c && t.all tailc else ((c :: t).drop i).all tailc)) (by simp; omega)
          (fun fu => by unfold m_r06_Name_l2; rw [d_nlt (by omega), List.drop_of_length_le (Nat.le_refl _)]; simp)
          (fun fu i hi ih => by
            rw [if_neg (Nat.succ_ne_zero i)] at ih
            rw [rn_step hi (by omega), ih]
            cases i with
            | zero =>
              show (if lett c = true then some (t.all tailc) else if (0 : Nat) = 0 then some false else if tailc c = true then some (t.all tailc) else some false) = some (if (0 : Nat) = 0 then lett c && t.all tailc else (c :: t).all tailc)
              cases lett c <;> rfl
            | succ i =>
              rw [if_neg (Nat.succ_ne_zero i), if_neg (Nat.succ_ne_zero i), drop_cons hi, List.all_cons]
              by_cases h1 : lett (c :: t)[i + 1] = true
              · rw [if_pos h1, show tailc (c :: t)[i + 1] = true by unfold tailc; rw [h1]; rfl]; rfl
              · rw [if_neg h1]
                cases tailc (c :: t)[i + 1] <;> rfl)
        rw [if_pos rfl] at this
        rw [cond_false, this]; rfl
    · rw [d_lt (by simp; omega), decide_eq_false h]; rfl
end Go.Proofs.YtaaooafcijdbmaaDoor.K
namespace Go.Proofs.YtaaooafcijdbmaaDoor.K
open Go.RowKit Go.Lib
/-- A loop that looks for one of a list. -/
theorem any_loop {α R : Type} {L : Nat → Int → Option R} {A : List α} {q : α → Bool} {y n : Option R} (hA : A.length ≤ 1000000000) (hend : ∀ fu, L (fu + 1) (A.length : Int) = n)
    (hstep : ∀ (fu j : Nat) (h : j < A.length), L (fu + 1) (j : Int) = if q A[j] = true then y else L fu ((j + 1 : Nat) : Int)) : L 1152921504606846976 0 = if A.any q = true then y else n := by
  have := loop1_0 (L := L) (n := A.length) (P := fun j o => o = if (A.drop j).any q = true then y else n) (by omega)
    (fun fu => by rw [hend, List.drop_of_length_le (Nat.le_refl _), if_neg (by simp)])
    (fun fu j hj ih => by
      rw [hstep fu j hj, ih, drop_cons hj, List.any_cons]
      cases q A[j] with
      | true => rw [if_pos rfl, Bool.true_or, if_pos rfl]
      | false => rw [if_neg (by simp), Bool.false_or])
  rw [List.drop_zero] at this; exact this
def kindB (k : UInt8) : Bool := decide (k.toNat = 1) || decide (k.toNat = 2) || decide (k.toNat = 3) || decide (k.toNat = 4)
theorem word_k (k : UInt8) : ∃ w, m_value_Word k = some w ∧ m_r04_Word k = some w ∧ decide (w = []) = !kindB k := by
  unfold m_value_Word m_r04_Word kindB
  by_cases h1 : k.toNat = 1
  · rw [decide_eq_true (p := ((k.toNat : Nat) : Int) = 1) (by omega)]; exact ⟨_, rfl, rfl, by simp [h1]⟩
  rw [decide_eq_false (p := ((k.toNat : Nat) : Int) = 1) (by omega)]
  by_cases h2 : k.toNat = 2
  · rw [decide_eq_true (p := ((k.toNat : Nat) : Int) = 2) (by omega)]; exact ⟨_, rfl, rfl, by simp [h2]⟩
  rw [decide_eq_false (p := ((k.toNat : Nat) : Int) = 2) (by omega)]
  by_cases h3 : k.toNat = 3
  · rw [decide_eq_true (p := ((k.toNat : Nat) : Int) = 3) (by omega)]; exact ⟨_, rfl, rfl, by simp [h3]⟩
  rw [decide_eq_false (p := ((k.toNat : Nat) : Int) = 3) (by omega)]
  by_cases h4 : k.toNat = 4
  · rw [decide_eq_true (p := ((k.toNat : Nat) : Int) = 4) (by omega)]; exact ⟨_, rfl, rfl, by simp [h4]⟩
  rw [decide_eq_false (p := ((k.toNat : Nat) : Int) = 4) (by omega)]
  exact ⟨_, rfl, rfl, by simp [h1, h2, h3, h4]⟩
/-- The place of a field by its name, and its kind. -/
def fAt : List GField → List UInt8 → Nat → Int × UInt8
  | [], _, _ => (-1, 0)
  | f :: r, n, i => if f.Name = n then ((i : Int), f.Kind) else fAt r n (i + 1)
theorem field_ok {t : GType} (n : List UInt8) (h : t.Fields.length ≤ 1000) : m_schema_Type_Field t n = some (fAt t.Fields n 0) := by
  unfold m_schema_Type_Field
  have := loop1_0 (L := fun fu i => m_schema_Type_Field_l1 t n fu i) (n := t.Fields.length) (P := fun i o => o = some (fAt (t.Fields.drop i) n i)) (by omega)
    (fun fu => by unfold m_schema_Type_Field_l1; rw [d_nlt (by omega), List.drop_of_length_le (Nat.le_refl _)]; rfl)
    (fun fu i hi ih => by
      unfold m_schema_Type_Field_l1
      rw [d_lt (by omega), cond_true, geti_lt hi, obind_some, inc_ok (by omega), ih, drop_cons hi, fAt]
      by_cases hn : t.Fields[i].Name = n
      · rw [decide_eq_true hn, if_pos hn]; rfl
      · rw [decide_eq_false hn, if_neg hn]; rfl)
  rw [List.drop_zero] at this; exact this
def hasN (l : List GField) (n : List UInt8) : Bool := l.any fun f => decide (f.Name = n)
theorem fAt_pre : ∀ (pre : List GField) (f : GField) (r : List GField) (k : Nat), decide ((fAt (pre ++ f :: r) f.Name k).1 ≠ ((k + pre.length : Nat) : Int)) = hasN pre f.Name
  | [], f, r, k => by
    rw [List.nil_append, fAt, if_pos rfl]; simp [hasN]
  | g :: pre, f, r, k => by
    have ih := fAt_pre pre f r (k + 1)
    rw [List.cons_append, fAt]
    unfold hasN at ih ⊢
    rw [List.any_cons]
    by_cases h : g.Name = f.Name
    · rw [if_pos h, decide_eq_true h, Bool.true_or]; simp only [List.length_cons]; exact decide_eq_true (by omega)
    · rw [if_neg h, decide_eq_false h, Bool.false_or, ← ih, List.length_cons]
      exact decide_eq_decide.2 (by rw [show k + (pre.length + 1) = k + 1 + pre.length by omega])
def fldC : List GField → List GField → Int
  | _, [] => 0
  | pre, f :: r => if nameB f.Name = false then 4 else if kindB f.Kind = false then 11 else if hasN pre f.Name = true then 21 else fldC (pre ++ [f]) r
def typC (t : GType) : Int := if nameB t.Name = false then 4 else if 6 < t.Fields.length then 5 else fldC [] t.Fields
theorem split_at {α : Type} {l : List α} {i : Nat} (h : i < l.length) : l = l.take i ++ l[i] :: l.drop (i + 1) := by
  rw [← drop_cons h, List.take_append_drop]
theorem tcheck_ok {t : GType} (h : t.Fields.length ≤ 1000) : m_schema_Type_check t = some (typC t) := by
  unfold m_schema_Type_check typC
  rw [name_ok, obind_some]
  cases nameB t.Name with
  | false => rfl
  | true =>
    rw [if_neg (by simp), Bool.not_true, cond_false]
    by_cases h6 : 6 < t.Fields.length
    · rw [d_lt (by omega), if_pos h6]; rfl
    · rw [d_nlt (by omega), if_neg h6, cond_false]
      have := loop1_0 (L := fun fu i => m_schema_Type_check_l3 t fu i) (n := t.Fields.length) (P := fun i o => o = some (fldC (t.Fields.take i) (t.Fields.drop i))) (by omega)
        (fun fu => by unfold m_schema_Type_check_l3; rw [d_nlt (by omega), List.drop_of_length_le (Nat.le_refl _)]; rfl)
        (fun fu i hi ih => by
          unfold m_schema_Type_check_l3
          obtain ⟨w, e1, _, e3⟩ := word_k t.Fields[i].Kind
          have e4 := fAt_pre (t.Fields.take i) t.Fields[i] (t.Fields.drop (i + 1)) 0
          rw [← split_at hi, List.length_take, Nat.min_eq_left (by omega), Nat.zero_add] at e4
          rw [d_lt (by omega), cond_true, geti_lt hi, obind_some, field_ok _ h, obind_some, name_ok, obind_some, e1, obind_some, e3, e4, inc_ok (by omega), ih, drop_cons hi, fldC, take_snoc hi]
          cases nameB t.Fields[i].Name with
          | false => rfl
          | true =>
            rw [if_neg (by simp), Bool.not_true, cond_false]
            cases kindB t.Fields[i].Kind with
            | false => rfl
            | true =>
              rw [if_neg (by simp), Bool.not_true, cond_false]
              cases hasN (t.Fields.take i) t.Fields[i].Name with
              | false => rfl
              | true => rfl)
      exact this
theorem rone_ok {t : GType} (h : t.Fields.length ≤ 1000) : m_r06_one t = some (typC t) := by
  unfold m_r06_one typC
  rw [rname_ok, obind_some]
  cases nameB t.Name with
  | false => rfl
  | true =>
    rw [if_neg (by simp), Bool.not_true, cond_false]
    by_cases h6 : 6 < t.Fields.length
    · rw [d_lt (by omega), if_pos h6]; rfl
    · rw [d_nlt (by omega), if_neg h6, cond_false]
      have := loop1_0 (L := fun fu i => m_r06_one_l2 t fu i) (n := t.Fields.length) (P := fun i o => o = some (fldC (t.Fields.take i) (t.Fields.drop i))) (by omega)
        (fun fu => by unfold m_r06_one_l2; rw [d_nlt (by omega), List.drop_of_length_le (Nat.le_refl _)]; rfl)
        (fun fu i hi ih => by
          unfold m_r06_one_l2
          obtain ⟨w, _, e1, e3⟩ := word_k t.Fields[i].Kind
          have hA : (t.Fields.take i).length = i := by rw [List.length_take]; omega
          have e4 : _ = if hasN (t.Fields.take i) t.Fields[i].Name = true then _ else _ := any_loop (L := fun fu2 j => m_r06_one_l7 t t.Fields[i] (i : Int) (fun y3_2 => m_r06_one_l2 t fu y3_2) fu2 j) (A := t.Fields.take i) (q := fun f => decide (f.Name = t.Fields[i].Name)) (y := some 21) (n := m_r06_one_l2 t fu ((i + 1 : Nat) : Int)) (by omega)
            (fun fu2 => by unfold m_r06_one_l7; rw [hA, d_nlt (by omega), cond_false, inc_ok (by omega)])
            (fun fu2 j hj => by
              conv => lhs; unfold m_r06_one_l7
              rw [d_lt (by omega), cond_true, geti_lt (by omega), obind_some, inc_ok (by omega), List.getElem_take]
              cases decide (t.Fields[j].Name = t.Fields[i].Name) <;> rfl)
          rw [d_lt (by omega), cond_true, geti_lt hi, obind_some, rname_ok, obind_some, e1, obind_some, e3, e4, ih, drop_cons hi, fldC, take_snoc hi]
          cases nameB t.Fields[i].Name with
          | false => rfl
          | true =>
            cases kindB t.Fields[i].Kind with
            | false => rfl
            | true =>
              cases hasN (t.Fields.take i) t.Fields[i].Name with
              | false => rfl
              | true => rfl)
      exact this
/-! ### lists of types -/
def hasT (l : List GType) (n : List UInt8) : Bool := l.any fun t => decide (t.Name = n)
def schL : List GType → List GType → Int
  | _, [] => 0
  | pre, t :: r => if typC t ≠ 0 then typC t else if hasT pre t.Name = true then 21 else schL (pre ++ [t]) r
def schC (l : List GType) : Int := if 8 < l.length then 5 else schL [] l
def fnd : List GType → List UInt8 → GType × Bool
  | [], _ => (GType.mk [] [], false)
  | t :: r, n => if t.Name = n then (t, true) else fnd r n
theorem fnd_2 (n : List UInt8) : ∀ l : List GType, (fnd l n).2 = hasT l n
  | [] => rfl
  | t :: r => by
    have ih := fnd_2 n r
    rw [fnd]; unfold hasT at ih ⊢
    rw [List.any_cons]
    by_cases h : t.Name = n
    · rw [if_pos h, decide_eq_true h, Bool.true_or]
    · rw [if_neg h, decide_eq_false h, Bool.false_or, ih]
theorem find_ok {l : List GType} (n : List UInt8) (h : l.length ≤ 1000) (hf : ∀ t ∈ l, t.Fields.length ≤ 1000) : m_schema_Find l n = some (fnd l n) := by
  unfold m_schema_Find
  have := loop1_0 (L := fun fu i => m_schema_Find_l1 l n fu i) (n := l.length) (P := fun i o => o = some (fnd (l.drop i) n)) (by omega)
    (fun fu => by unfold m_schema_Find_l1; rw [d_nlt (by omega), List.drop_of_length_le (Nat.le_refl _)]; rfl)
    (fun fu i hi ih => by
      have hfi := hf _ (List.getElem_mem hi)
      unfold m_schema_Find_l1 m_slices_Clone_Field
      rw [d_lt (by omega), cond_true, geti_lt hi, obind_some, inc_ok (by omega), ih, drop_cons hi, fnd, app_ok (by simp; omega), obind_some, obind_some, List.nil_append]
      by_cases hn : l[i].Name = n
      · rw [decide_eq_true hn, if_pos hn]; subst hn; rfl
      · rw [decide_eq_false hn, if_neg hn]; rfl)
  rw [List.drop_zero] at this; exact this
theorem rfind_ok {l : List GType} (n : List UInt8) (h : l.length ≤ 1000) : m_r06_Find l n = some (fnd l n) := by
  unfold m_r06_Find
  have := loop1_0 (L := fun fu i => m_r06_Find_l0 l n fu i) (n := l.length) (P := fun i o => o = some (fnd (l.drop i) n)) (by omega)
    (fun fu => by unfold m_r06_Find_l0; rw [d_nlt (by omega), List.drop_of_length_le (Nat.le_refl _)]; rfl)
    (fun fu i hi ih => by
      unfold m_r06_Find_l0
      rw [d_lt (by omega), cond_true, geti_lt hi, obind_some, inc_ok (by omega), ih, drop_cons hi, fnd]
      by_cases hn : l[i].Name = n
      · rw [decide_eq_true hn, if_pos hn]; rfl
      · rw [decide_eq_false hn, if_neg hn]; rfl)
  rw [List.drop_zero] at this; exact this
theorem scheck_ok {l : List GType} (h : l.length ≤ 1000) (hf : ∀ t ∈ l, t.Fields.length ≤ 1000) : m_schema_Check l = some (schC l) := by
  unfold m_schema_Check schC
  by_cases h8 : 8 < l.length
  · rw [d_lt (by omega), if_pos h8]; rfl
  · rw [d_nlt (by omega), if_neg h8, cond_false]
    have := loop1_0 (L := fun fu i => m_schema_Check_l2 l fu i) (n := l.length) (P := fun i o => o = some (schL (l.take i) (l.drop i))) (by omega)
      (fun fu => by unfold m_schema_Check_l2; rw [d_nlt (by omega), List.drop_of_length_le (Nat.le_refl _)]; rfl)
      (fun fu i hi ih => by
        have hfi := hf _ (List.getElem_mem hi)
        have hc : cut l 0 (i : Int) = some (l.take i) := by
          have := cut_ok (l := l) (a := 0) (b := i) (by omega) (by omega)
          rwa [List.drop_zero, Nat.sub_zero] at this
        unfold m_schema_Check_l2
        rw [d_lt (by omega), cond_true, geti_lt hi, obind_some, tcheck_ok hfi, obind_some, bind_of hc, find_ok _ (by rw [List.length_take]; omega) (fun t ht => hf t (List.mem_of_mem_take ht)), obind_some, fnd_2, inc_ok (by omega), ih, drop_cons hi, schL, take_snoc hi]
        by_cases h0 : typC l[i] ≠ 0
        · rw [decide_eq_true h0, if_pos h0]; rfl
        · rw [decide_eq_false h0, if_neg h0, cond_false]
          cases hasT (l.take i) l[i].Name with
          | false => rfl
          | true => rfl)
    exact this
theorem rscheck_ok {l : List GType} (h : l.length ≤ 1000) (hf : ∀ t ∈ l, t.Fields.length ≤ 1000) : m_r06_Check l = some (schC l) := by
  unfold m_r06_Check schC
  by_cases h8 : 8 < l.length
  · rw [d_lt (by omega), if_pos h8]; rfl
  · rw [d_nlt (by omega), if_neg h8, cond_false]
    have := loop1_0 (L := fun fu i => m_r06_Check_l1 l fu i) (n := l.length) (P := fun i o => o = some (schL (l.take i) (l.drop i))) (by omega)
      (fun fu => by unfold m_r06_Check_l1; rw [d_nlt (by omega), List.drop_of_length_le (Nat.le_refl _)]; rfl)
      (fun fu i hi ih => by
        have hfi := hf _ (List.getElem_mem hi)
        unfold m_r06_Check_l1
        have hA : (l.take i).length = i := by rw [List.length_take]; omega
        have e4 : _ = if hasT (l.take i) l[i].Name = true then _ else _ := any_loop (L := fun fu2 j => m_r06_Check_l4 l (i : Int) (fun y3_1 => m_r06_Check_l1 l fu y3_1) fu2 j) (A := l.take i) (q := fun t => decide (t.Name = l[i].Name)) (y := some 21) (n := m_r06_Check_l1 l fu ((i + 1 : Nat) : Int)) (by omega)
          (fun fu2 => by unfold m_r06_Check_l4; rw [hA, d_nlt (by omega), cond_false, inc_ok (by omega)])
          (fun fu2 j hj => by
            conv => lhs; unfold m_r06_Check_l4
            rw [d_lt (by omega), cond_true, geti_lt (by omega), obind_some, geti_lt hi, obind_some, inc_ok (by omega), List.getElem_take]
            cases decide (l[j].Name = l[i].Name) <;> rfl)
        rw [d_lt (by omega), cond_true, geti_lt hi, obind_some, rone_ok hfi, obind_some, e4, ih, drop_cons hi, schL, take_snoc hi]
        by_cases h0 : typC l[i] ≠ 0
        · rw [decide_eq_true h0, if_pos h0]; rfl
        · rw [decide_eq_false h0, if_neg h0, cond_false]
          cases hasT (l.take i) l[i].Name with
          | false => rfl
          | true => rfl)
    exact this
/-! ### values that fit -/
def fitL : List GField → List GValue → Int
  | _, [] => 0
  | [], _ :: _ => 0
  | f :: fs, v :: vs => if chkV v ≠ 0 then chkV v else if v.Kind.toNat ≠ f.Kind.toNat then 19 else fitL fs vs
def fitC (fs : List GField) (vs : List GValue) : Int := if vs.length ≠ fs.length then 5 else fitL fs vs
theorem fits_ok {t : GType} {vs : List GValue} (h : vs.length ≤ 1000) (hf : t.Fields.length ≤ 1000) (hb : ∀ v ∈ vs, u64B v.Bits) : m_schema_Fits t vs = some (fitC t.Fields vs) := by
  unfold m_schema_Fits fitC
  by_cases hl : vs.length ≠ t.Fields.length
  · rw [decide_eq_true (by omega), if_pos hl]; rfl
  · rw [decide_eq_false (by omega), if_neg hl, cond_false]
    have := loop1_0 (L := fun fu i => m_schema_Fits_l2 t vs fu i) (n := vs.length) (P := fun i o => o = some (fitL (t.Fields.drop i) (vs.drop i))) (by omega)
      (fun fu => by unfold m_schema_Fits_l2; rw [d_nlt (by omega), List.drop_of_length_le (Nat.le_refl _), List.drop_of_length_le (by omega)]; rfl)
      (fun fu i hi ih => by
        have hbi := hb _ (List.getElem_mem hi)
        have hi2 : i < t.Fields.length := by omega
        unfold m_schema_Fits_l2
        rw [d_lt (by omega), cond_true, geti_lt hi, obind_some, check_ok hbi, obind_some, geti_lt hi2, obind_some, inc_ok (by omega), ih, drop_cons hi, drop_cons hi2, fitL]
        by_cases h0 : chkV vs[i] ≠ 0
        · rw [decide_eq_true h0, if_pos h0]; rfl
        · rw [decide_eq_false h0, if_neg h0, cond_false]
          by_cases h1 : vs[i].Kind.toNat ≠ (t.Fields[i]'(by omega)).Kind.toNat
          · rw [decide_eq_true (by omega), if_pos h1]; rfl
          · rw [decide_eq_false (by omega), if_neg h1]; rfl)
    exact this
theorem rfits_ok {t : GType} {vs : List GValue} (h : vs.length ≤ 1000) (hf : t.Fields.length ≤ 1000) (hb : ∀ v ∈ vs, u64B v.Bits) : m_r06_Fits t vs = some (fitC t.Fields vs) := by
  unfold m_r06_Fits fitC
  by_cases hl : vs.length ≠ t.Fields.length
  · rw [decide_eq_true (by omega), if_pos hl]; rfl
  · rw [decide_eq_false (by omega), if_neg hl, cond_false]
    have := loop1_0 (L := fun fu i => m_r06_Fits_l1 t vs fu i) (n := vs.length) (P := fun i o => o = some (fitL (t.Fields.drop i) (vs.drop i))) (by omega)
      (fun fu => by unfold m_r06_Fits_l1; rw [d_nlt (by omega), List.drop_of_length_le (Nat.le_refl _), List.drop_of_length_le (by omega)]; rfl)
      (fun fu i hi ih => by
        have hbi := hb _ (List.getElem_mem hi)
        have hi2 : i < t.Fields.length := by omega
        unfold m_r06_Fits_l1
        rw [d_lt (by omega), cond_true, geti_lt hi, obind_some, rcheck_ok hbi, obind_some, obind_some, geti_lt hi2, obind_some, inc_ok (by omega), ih, drop_cons hi, drop_cons hi2, fitL]
        by_cases h0 : chkV vs[i] ≠ 0
        · rw [decide_eq_true h0, if_pos h0]; rfl
        · rw [decide_eq_false h0, if_neg h0, cond_false]
          by_cases h1 : vs[i].Kind.toNat ≠ (t.Fields[i]'(by omega)).Kind.toNat
          · rw [decide_eq_true (by omega), if_pos h1]; rfl
          · rw [decide_eq_false (by omega), if_neg h1]; rfl)
    exact this
end Go.Proofs.YtaaooafcijdbmaaDoor.K
namespace Go.Proofs.YtaaooafcijdbmaaDoor.K
open Go.RowKit Go.Lib
/-- A loop that lays f of each behind what there is, and goes on. -/
theorem map_loopK {α β R : Type} {L : Nat → List β → Int → Option R} {l : List α} {f : α → β} {K : List β → Option R} (hl : l.length ≤ 400000000)
    (hend : ∀ fu s, L (fu + 1) s (l.length : Int) = K s) (hstep : ∀ fu s i, (h : i < l.length) → s.length ≤ 400000000 → L (fu + 1) s (i : Int) = L fu (s ++ [f l[i]]) ((i + 1 : Nat) : Int)) : L 1152921504606846976 [] 0 = K (l.map f) := by
  have := loopG_0 (L := L) (n := l.length) (P := fun i s o => s.length = i → o = K (s ++ (l.drop i).map f)) (by omega) (fun fu s hs => by rw [hend]; simp) (fun fu s i hi ih hs => by
    rw [hstep fu s i hi (by omega), ih (s ++ [f l[i]]) (by simp [hs]), drop_cons hi, List.map_cons, List.append_assoc]; rfl) [] rfl
  simpa using this
/-- Short enough. -/
structure tyB (t : GType) : Prop where
  N : t.Name.length ≤ 40
  F : t.Fields.length ≤ 12
  M : ∀ f ∈ t.Fields, f.Name.length ≤ 40
structure tyM (t : GType) : Prop where
  N : t.Name.length ≤ maxLen
  F : t.Fields.length ≤ maxLen
  M : ∀ f ∈ t.Fields, f.Name.length ≤ maxLen
structure scB (l : List GType) : Prop where
  L : l.length ≤ 12
  T : ∀ t ∈ l, tyB t
theorem over06_ok {l : List GType} (hl : l.length ≤ maxLen) (hm : ∀ t ∈ l, tyM t) : ∃ r, m_w06_Over l = some r ∧ (r = 1 ∨ r = 0 ∧ scB l) := by
  unfold m_w06_Over
  have hl := maxLen_le hl
  by_cases h : 12 < l.length
  · rw [d_lt (by omega)]; exact ⟨1, rfl, .inl rfl⟩
  · rw [d_nlt (by omega), cond_false]
    have := loop1_0 (L := fun fu i => m_w06_Over_l1 l fu i) (n := l.length) (P := fun i o => ∃ r, o = some r ∧ (r = 1 ∨ r = 0 ∧ ∀ t ∈ l.drop i, tyB t)) (by omega)
      (fun fu => by unfold m_w06_Over_l1; rw [d_nlt (by omega)]; exact ⟨0, rfl, .inr ⟨rfl, by simp⟩⟩)
      (fun fu i hi ih => by
        have hmi := hm l[i] (List.getElem_mem hi)
        have h1 := maxLen_le hmi.N
        have h2 := maxLen_le hmi.F
        unfold m_w06_Over_l1
        rw [d_lt (by omega), cond_true, geti_lt hi, obind_some]
        by_cases ht : 40 < l[i].Name.length
        · rw [d_lt (by omega)]; exact ⟨1, rfl, .inl rfl⟩
        · rw [d_nlt (by omega), cond_false, obind_some]
          by_cases hv : 12 < l[i].Fields.length
          · rw [d_lt (by omega)]; exact ⟨1, rfl, .inl rfl⟩
          · rw [d_nlt (by omega), cond_false]
            have := loop1_0 (L := fun fu2 j => m_w06_Over_l4 l (i : Int) (fun y3_1 => m_w06_Over_l1 l fu y3_1) fu2 j) (n := l[i].Fields.length) (P := fun j o => (∀ f ∈ l[i].Fields.take j, f.Name.length ≤ 40) → ∃ r, o = some r ∧ (r = 1 ∨ r = 0 ∧ ∀ t ∈ l.drop i, tyB t)) (by omega)
              (fun fu2 hj => by
                unfold m_w06_Over_l4
                rw [geti_lt hi, obind_some, d_nlt (by omega), cond_false, inc_ok (by omega)]
                obtain ⟨r, e, q⟩ := ih
                refine ⟨r, e, q.imp id fun ⟨q1, q2⟩ => ⟨q1, ?_⟩⟩
                rw [drop_cons hi]
                intro e he
                rcases List.mem_cons.1 he with rfl | he
                · exact ⟨by omega, by omega, by rw [List.take_of_length_le (Nat.le_refl _)] at hj; exact hj⟩
                · exact q2 e he)
              (fun fu2 j hj ih2 hq => by
                unfold m_w06_Over_l4
                have hvm := hmi.M _ (List.getElem_mem hj)
                have hvl := maxLen_le hvm
                rw [geti_lt hi, obind_some, d_lt (by omega), cond_true, obind_some, geti_lt hj, obind_some]
                by_cases hs : 40 < l[i].Fields[j].Name.length
                · rw [d_lt (by omega)]; exact ⟨1, rfl, .inl rfl⟩
                · rw [d_nlt (by omega), cond_false, inc_ok (by omega)]
                  refine ih2 fun v hv => ?_
                  rw [take_snoc hj] at hv
                  rcases List.mem_append.1 hv with hv | hv
                  · exact hq v hv
                  · simp only [List.mem_singleton] at hv; subst hv; omega)
            exact this (by simp))
    obtain ⟨r, e, q⟩ := this
    exact ⟨r, e, q.imp id fun ⟨q1, q2⟩ => ⟨q1, ⟨by omega, by simpa using q2⟩⟩⟩
theorem own06_ok {l : List GType} (h : scB l) : m_w06_Own l = some l := by
  have hl := h.L
  have := map_loop (L := fun fu s i => m_w06_Own_l0 l fu s i) (l := l) (f := id) (e := id) (by omega) (fun fu s => by unfold m_w06_Own_l0; rw [d_nlt (by omega)]; rfl)
    (fun fu s i hi hs => by
      have hf := (h.T _ (List.getElem_mem hi)).F
      conv => lhs; unfold m_w06_Own_l0
      rw [d_lt (by omega), cond_true, geti_lt hi, obind_some]
      have := map_loopK (L := fun fu2 s2 j => m_w06_Own_l3 l l[i] s (i : Int) (fun y3_0 y4_0 => m_w06_Own_l0 l fu y3_0 y4_0) fu2 s2 j) (l := l[i].Fields) (f := id) (K := fun s2 => m_w06_Own_l0 l fu (s ++ [GType.mk l[i].Name s2]) ((i + 1 : Nat) : Int)) (by omega)
        (fun fu2 s2 => by
          unfold m_w06_Own_l3
          rw [geti_lt hi, obind_some, d_nlt (by omega), cond_false, app_ok (by simp; omega), obind_some, inc_ok (by omega)])
        (fun fu2 s2 j hj hs2 => by
          conv => lhs; unfold m_w06_Own_l3
          rw [geti_lt hi, obind_some, d_lt (by omega), cond_true, obind_some, geti_lt hj, obind_some, app_ok (by simp; omega), obind_some, inc_ok (by omega)]; rfl)
      rw [List.map_id] at this
      exact this)
  rw [List.map_id] at this; exact this
end Go.Proofs.YtaaooafcijdbmaaDoor.K
namespace Go.Proofs.YtaaooafcijdbmaaDoor.K
open Go.RowKit Go.Lib
theorem vals_ok {l : List GValue} (hl : l.length ≤ 400000000) : m_w06_Vals l = some l := by
  have := map_loop (L := fun fu s i => m_w06_Vals_l0 l fu s i) (l := l) (f := id) (e := id) hl (fun fu s => by unfold m_w06_Vals_l0; rw [d_nlt (by omega)]; rfl)
    (fun fu s i h hs => by
      conv => lhs; unfold m_w06_Vals_l0
      rw [d_lt (by omega), cond_true, geti_lt h, obind_some, app_ok (by simp; omega), obind_some, inc_ok (by omega)]; rfl)
  rw [List.map_id] at this; exact this
theorem own_ok {e : GEvent} (h : e.Vals.length ≤ 400000000) : m_w07_Own e = some e := by unfold m_w07_Own; rw [vals_ok h]; rfl
/-- Short enough. -/
def evB (e : GEvent) : Prop := e.Type_.length ≤ 40 ∧ e.Vals.length ≤ 12 ∧ ∀ v ∈ e.Vals, v.Text.length ≤ 100
theorem small_ok {v : GValue} (h : v.Text.length ≤ maxLen) : m_w04_Small v = some (max 0 ((v.Text.length : Int) - 100)) := by
  unfold m_w04_Small
  have := maxLen_le h
  rw [w64 (by omega) (by omega)]
/-- Lengths that memory allows. -/
def evM (e : GEvent) : Prop := e.Type_.length ≤ maxLen ∧ e.Vals.length ≤ maxLen ∧ ∀ v ∈ e.Vals, v.Text.length ≤ maxLen
theorem over_ok {l : List GEvent} {k : Int} (hk : k ≤ 1000000) (hm : ∀ e ∈ l, evM e) : ∃ r, m_w07_Over l k = some r ∧ (r = 1 ∨ r = 0 ∧ (l.length : Int) ≤ k ∧ ∀ e ∈ l, evB e) := by
  unfold m_w07_Over
  by_cases h : k < (l.length : Int)
  · rw [d_lt h]; exact ⟨1, rfl, .inl rfl⟩
  · rw [d_nlt h, cond_false]
    have := loop1_0 (L := fun fu i => m_w07_Over_l1 l fu i) (n := l.length) (P := fun i o => ∃ r, o = some r ∧ (r = 1 ∨ r = 0 ∧ ∀ e ∈ l.drop i, evB e)) (by omega)
      (fun fu => by unfold m_w07_Over_l1; rw [d_nlt (by omega)]; exact ⟨0, rfl, .inr ⟨rfl, by simp⟩⟩)
      (fun fu i hi ih => by
        have hmi := hm l[i] (List.getElem_mem hi)
        have h1 := maxLen_le hmi.1
        have h2 := maxLen_le hmi.2.1
        unfold m_w07_Over_l1
        rw [d_lt (by omega), cond_true, geti_lt hi, obind_some]
        by_cases ht : 40 < l[i].Type_.length
        · rw [d_lt (by omega)]; exact ⟨1, rfl, .inl rfl⟩
        · rw [d_nlt (by omega), cond_false, obind_some]
          by_cases hv : 12 < l[i].Vals.length
          · rw [d_lt (by omega)]; exact ⟨1, rfl, .inl rfl⟩
          · rw [d_nlt (by omega), cond_false]
            have := loop1_0 (L := fun fu2 j => m_w07_Over_l4 l (i : Int) (fun y5_1 => m_w07_Over_l1 l fu y5_1) fu2 j) (n := l[i].Vals.length) (P := fun j o => (∀ v ∈ l[i].Vals.take j, v.Text.length ≤ 100) → ∃ r, o = some r ∧ (r = 1 ∨ r = 0 ∧ ∀ e ∈ l.drop i, evB e)) (by omega)
              (fun fu2 hj => by
                unfold m_w07_Over_l4
                rw [geti_lt hi, obind_some, d_nlt (by omega), cond_false, inc_ok (by omega)]
                obtain ⟨r, e, q⟩ := ih
                refine ⟨r, e, q.imp id fun ⟨q1, q2⟩ => ⟨q1, ?_⟩⟩
                rw [drop_cons hi]
                intro e he
                rcases List.mem_cons.1 he with rfl | he
                · exact ⟨by omega, by omega, by rw [List.take_of_length_le (Nat.le_refl _)] at hj; exact hj⟩
                · exact q2 e he)
              (fun fu2 j hj ih2 hq => by
                unfold m_w07_Over_l4
                have hvm := hmi.2.2 _ (List.getElem_mem hj)
                have hvl := maxLen_le hvm
                rw [geti_lt hi, obind_some, d_lt (by omega), cond_true, obind_some, geti_lt hj, obind_some, small_ok hvm, obind_some]
                by_cases hs : 100 < l[i].Vals[j].Text.length
                · rw [d_lt (by omega)]; exact ⟨1, rfl, .inl rfl⟩
                · rw [d_nlt (by omega), cond_false, inc_ok (by omega)]
                  refine ih2 fun v hv => ?_
                  rw [take_snoc hj] at hv
                  rcases List.mem_append.1 hv with hv | hv
                  · exact hq v hv
                  · simp only [List.mem_singleton] at hv; subst hv; omega)
            exact this (by simp))
    obtain ⟨r, e, q⟩ := this
    exact ⟨r, e, q.imp id fun ⟨q1, q2⟩ => ⟨q1, by omega, by simpa using q2⟩⟩
end Go.Proofs.YtaaooafcijdbmaaDoor.K
namespace Go.Proofs.YtaaooafcijdbmaaDoor.K
open Go.RowKit Go.Lib
/-- An event's parts, as a law lays them. -/
structure evO (e : GEvent) : Prop where
  T : -9223372036854775808 ≤ e.Time ∧ e.Time ≤ 9223372036854775807
  S : -9223372036854775808 ≤ e.Source ∧ e.Source ≤ 9223372036854775807
  Q : -9223372036854775808 ≤ e.Seq ∧ e.Seq ≤ 9223372036854775807
  L : e.Vals.length ≤ 12
  V : ∀ v ∈ e.Vals, okB v
structure mayB (e : GEvent) : Prop where
  T : 0 ≤ e.Time ∧ e.Time ≤ 1099511627776
  S : 0 ≤ e.Source ∧ e.Source < 16
  Q : 0 ≤ e.Seq ∧ e.Seq ≤ 1099511627776
instance (e : GEvent) : Decidable (mayB e) := decidable_of_iff ((0 ≤ e.Time ∧ e.Time ≤ 1099511627776) ∧ (0 ≤ e.Source ∧ e.Source < 16) ∧ (0 ≤ e.Seq ∧ e.Seq ≤ 1099511627776)) ⟨fun ⟨a, b, c⟩ => ⟨a, b, c⟩, fun ⟨a, b, c⟩ => ⟨a, b, c⟩⟩
theorem may_ok (e : GEvent) : m_event_ID_may (GID.mk e.Time e.Source e.Seq) = some (decide (mayB e)) := by
  unfold m_event_ID_may
  simp only
  by_cases h1 : 0 ≤ e.Time
  · rw [decide_eq_true h1, cond_true]
    by_cases h2 : e.Time ≤ 1099511627776
    · rw [decide_eq_true h2, cond_true]
      by_cases h3 : 0 ≤ e.Source
      · rw [decide_eq_true h3, cond_true]
        by_cases h4 : e.Source < 16
        · rw [decide_eq_true h4, cond_true]
          by_cases h5 : 0 ≤ e.Seq
          · rw [decide_eq_true h5, cond_true]
            congr 1
            exact decide_eq_decide.2 ⟨fun h => ⟨⟨h1, h2⟩, ⟨h3, h4⟩, ⟨h5, h⟩⟩, fun h => h.Q.2⟩
          · rw [decide_eq_false h5, decide_eq_false (fun h : mayB e => h5 h.Q.1)]; rfl
        · rw [decide_eq_false h4, decide_eq_false (fun h : mayB e => h4 h.S.2)]; rfl
      · rw [decide_eq_false h3, decide_eq_false (fun h : mayB e => h3 h.S.1)]; rfl
    · rw [decide_eq_false h2, decide_eq_false (fun h : mayB e => h2 h.T.2)]; rfl
  · rw [decide_eq_false h1, decide_eq_false (fun h : mayB e => h1 h.T.1)]; rfl
def evC (p : List GType) (e : GEvent) : Int :=
  if schC p ≠ 0 then 2 else if ¬ mayB e then 8 else if (fnd p e.Type_).2 = false then 6 else fitC (fnd p e.Type_).1.Fields e.Vals
theorem fnd_F {k : Nat} (n : List UInt8) : ∀ {l : List GType}, (∀ t ∈ l, t.Fields.length ≤ k) → (fnd l n).1.Fields.length ≤ k
  | [], _ => by simp [fnd]
  | t :: r, h => by
    rw [fnd]
    split
    · exact h t (by simp)
    · exact fnd_F n fun t ht => h t (by simp [ht])
theorem scB.F {p : List GType} (h : scB p) : ∀ t ∈ p, t.Fields.length ≤ 1000 := fun t ht => by have := (h.T t ht).F; omega
theorem scB.L' {p : List GType} (h : scB p) : p.length ≤ 1000 := by have := h.L; omega
theorem echeck_ok {p : List GType} {e : GEvent} (hp : scB p) (he : evO e) : m_event_Check p e = some (evC p e) := by
  unfold m_event_Check m_event_Event_ID evC
  have hL := he.L
  rw [scheck_ok hp.L' hp.F, obind_some, obind_some, may_ok, obind_some, find_ok _ hp.L' hp.F, obind_some, fits_ok (by omega) (fnd_F _ hp.F) (fun v hv => (he.V v hv).B), obind_some]
  by_cases h1 : schC p ≠ 0
  · rw [decide_eq_true h1, if_pos h1]; rfl
  · rw [decide_eq_false h1, if_neg h1, cond_false]
    by_cases h2 : mayB e
    · rw [decide_eq_true h2, if_neg (by simp [h2])]
      cases (fnd p e.Type_).2 <;> rfl
    · rw [decide_eq_false h2, if_pos h2]; rfl
theorem recheck_ok {p : List GType} {e : GEvent} (hp : scB p) (he : evO e) : m_r07_Check p e = some (evC p e) := by
  unfold m_r07_Check m_r07_Check_j2 evC
  have hL := he.L
  rw [rscheck_ok hp.L' hp.F, obind_some, rfind_ok _ hp.L', obind_some, rfits_ok (by omega) (fnd_F _ hp.F) (fun v hv => (he.V v hv).B), obind_some]
  by_cases h1 : schC p ≠ 0
  · rw [decide_eq_true h1, if_pos h1]; rfl
  · rw [decide_eq_false h1, if_neg h1, cond_false]
    by_cases h2 : mayB e
    · have a := h2.T; have b := h2.S; have c := h2.Q
      rw [if_neg (by simp [h2]), decide_eq_false (by omega), cond_false, decide_eq_false (by omega), cond_false, decide_eq_false (by omega), cond_false, decide_eq_false (by omega), cond_false, decide_eq_false (by omega), cond_false, decide_eq_false (by omega), cond_false]
      cases (fnd p e.Type_).2 <;> rfl
    · rw [if_pos h2]
      by_cases c1 : e.Time < 0
      · rw [decide_eq_true c1]; rfl
      rw [decide_eq_false c1, cond_false]
      by_cases c2 : (1099511627776 : Int) < e.Time
      · rw [decide_eq_true c2]; rfl
      rw [decide_eq_false c2, cond_false]
      by_cases c3 : e.Source < 0
      · rw [decide_eq_true c3]; rfl
      rw [decide_eq_false c3, cond_false]
      by_cases c4 : 16 ≤ e.Source
      · rw [decide_eq_true c4]; rfl
      rw [decide_eq_false c4, cond_false]
      by_cases c5 : e.Seq < 0
      · rw [decide_eq_true c5]; rfl
      rw [decide_eq_false c5, cond_false]
      by_cases c6 : (1099511627776 : Int) < e.Seq
      · rw [decide_eq_true c6]; rfl
      exact absurd ⟨⟨by omega, by omega⟩, ⟨by omega, by omega⟩, ⟨by omega, by omega⟩⟩ h2
/-! ### the place of a type -/
def plc : List GType → List UInt8 → Nat → Int
  | [], _, _ => -1
  | t :: r, n, i => if t.Name = n then (i : Int) else plc r n (i + 1)
theorem plc_ok {p : List GType} (e : GEvent) (h : p.length ≤ 1000) : m_slices_IndexFunc_Type__event_Put_1 p e = some (plc p e.Type_ 0) := by
  unfold m_slices_IndexFunc_Type__event_Put_1
  have := loop1_0 (L := fun fu i => m_slices_IndexFunc_Type__event_Put_1_l1 p e fu i) (n := p.length) (P := fun i o => o = some (plc (p.drop i) e.Type_ i)) (by omega)
    (fun fu => by unfold m_slices_IndexFunc_Type__event_Put_1_l1; rw [d_nlt (by omega), List.drop_of_length_le (Nat.le_refl _)]; rfl)
    (fun fu i hi ih => by
      unfold m_slices_IndexFunc_Type__event_Put_1_l1 m_event_Put_1
      rw [d_lt (by omega), cond_true, geti_lt hi, obind_some, inc_ok (by omega), ih, drop_cons hi, plc, obind_some]
      by_cases hn : p[i].Name = e.Type_
      · rw [decide_eq_true hn, if_pos hn]; rfl
      · rw [decide_eq_false hn, if_neg hn]; rfl)
  rw [List.drop_zero] at this; exact this
theorem rplc_ok {p : List GType} (n : List UInt8) (h : p.length ≤ 1000) : m_r07_place p n = some (plc p n 0) := by
  unfold m_r07_place
  have := loop1_0 (L := fun fu i => m_r07_place_l0 p n fu i) (n := p.length) (P := fun i o => o = some (plc (p.drop i) n i)) (by omega)
    (fun fu => by unfold m_r07_place_l0; rw [d_nlt (by omega), List.drop_of_length_le (Nat.le_refl _)]; rfl)
    (fun fu i hi ih => by
      unfold m_r07_place_l0
      rw [d_lt (by omega), cond_true, geti_lt hi, obind_some, inc_ok (by omega), ih, drop_cons hi, plc]
      by_cases hn : p[i].Name = n
      · rw [decide_eq_true hn, if_pos hn]; rfl
      · rw [decide_eq_false hn, if_neg hn]; rfl)
  rw [List.drop_zero] at this; exact this
theorem plc_in (n : List UInt8) : ∀ (p : List GType) (i : Nat), hasT p n = true → ∃ k : Nat, k < p.length ∧ plc p n i = ((i + k : Nat) : Int) ∧ ∃ t, p[k]? = some t ∧ t.Name = n ∧ (fnd p n).1 = t
  | [], _, h => by simp [hasT] at h
  | t :: r, i, h => by
    rw [plc, fnd]
    by_cases hn : t.Name = n
    · rw [if_pos hn, if_pos hn]
      exact ⟨0, by simp, rfl, t, rfl, hn, rfl⟩
    · rw [if_neg hn, if_neg hn]
      obtain ⟨k, h1, h2, t', h3, h4, h5⟩ := plc_in n r (i + 1) (by simpa [hasT, hn] using h)
      exact ⟨k + 1, by simp; omega, by rw [h2]; congr 1; omega, t', by simpa using h3, h4, h5⟩
/-! ### bytes -/
def valsB (l : List GValue) : List UInt8 := l.flatMap fun v => v.Kind :: bytesV v
def headB (p : List GType) (e : GEvent) : List UInt8 := zb e.Time.toNat ++ zb e.Source.toNat ++ zb e.Seq.toNat ++ zb (plc p e.Type_ 0).toNat
def evB' (p : List GType) (e : GEvent) : List UInt8 := headB p e ++ valsB e.Vals
theorem fitL_zero : ∀ {fs : List GField} {vs : List GValue}, vs.length ≤ fs.length → fitL fs vs = 0 → ∀ v ∈ vs, chkV v = 0
  | _, [], _, _ => by simp
  | [], v :: vs, h, _ => by simp at h
  | f :: fs, v :: vs, h, hf => by
    rw [fitL] at hf
    by_cases h0 : chkV v = 0
    · rw [if_neg (by simp [h0])] at hf
      split at hf
      · cases hf
      · intro x hx
        rcases List.mem_cons.1 hx with rfl | hx
        · exact h0
        · exact fitL_zero (by simpa using h) hf x hx
    · rw [if_pos h0] at hf; exact absurd hf h0
structure evGood (p : List GType) (e : GEvent) : Prop where
  C : schC p = 0
  M : mayB e
  H : hasT p e.Type_ = true
  F : e.Vals.length = (fnd p e.Type_).1.Fields.length
  I : fitL (fnd p e.Type_).1.Fields e.Vals = 0
theorem evC_zero {p : List GType} {e : GEvent} (h : evC p e = 0) : evGood p e := by
  unfold evC at h
  split at h
  · cases h
  · rename_i h1
    split at h
    · cases h
    · rename_i h2
      split at h
      · cases h
      · rename_i h3
        unfold fitC at h
        split at h
        · cases h
        · rename_i h4
          exact ⟨by omega, by simpa using h2, by rw [← fnd_2]; simpa using h3, by omega, h⟩
theorem evGood.zero {p : List GType} {e : GEvent} (h : evGood p e) : evC p e = 0 := by
  unfold evC fitC
  rw [if_neg (by simp [h.C]), if_neg (by simp [h.M]), if_neg (by rw [fnd_2, h.H]; simp), if_neg (by simp [h.F]), h.I]
theorem evGood.V {p : List GType} {e : GEvent} (h : evGood p e) : ∀ v ∈ e.Vals, chkV v = 0 := fitL_zero (by have := h.F; omega) h.I
theorem bytesV_le {v : GValue} (h : okB v) : (bytesV v).length ≤ 1100 := by
  have := h.T
  have h1 := zn_le10 (zfold v.N) (zfold_lt _ h.N.1 h.N.2)
  have h2 := zn_le10 v.Text.length (by omega)
  unfold bytesV
  split
  · rw [zb_length]; omega
  · split
    · simp
    · split
      · rw [beB_len]; omega
      · rw [List.length_append, zb_length]; omega
theorem valsB_le : ∀ {l : List GValue}, (∀ v ∈ l, okB v) → (valsB l).length ≤ 1101 * l.length
  | [], _ => by simp [valsB]
  | v :: l, h => by
    have h1 := bytesV_le (h v (by simp))
    have h2 := valsB_le (l := l) fun v hv => h v (by simp [hv])
    unfold valsB at h2 ⊢
    rw [List.flatMap_cons, List.length_append, List.length_cons, List.length_cons]
    omega
theorem valsB_snoc {l : List GValue} {i : Nat} (hi : i < l.length) : valsB (l.take (i + 1)) = valsB (l.take i) ++ l[i].Kind :: bytesV l[i] := by
  rw [take_snoc hi]; unfold valsB; rw [List.flatMap_append]; simp only [List.flatMap_cons, List.flatMap_nil, List.append_nil]
theorem valsB_drop {l : List GValue} {i : Nat} (hi : i < l.length) : valsB (l.drop i) = (l[i].Kind :: bytesV l[i]) ++ valsB (l.drop (i + 1)) := by
  rw [drop_cons hi]; unfold valsB; rw [List.flatMap_cons]
theorem pvals_l {e : GEvent} {b : List UInt8} (hb : b.length ≤ 900000) (he : evO e) (hc : ∀ v ∈ e.Vals, chkV v = 0) : m_event_Put_l6 e 1152921504606846976 b 0 = some (b ++ valsB e.Vals, 0) := by
  have hL := he.L
  have := loopG_0 (L := fun fu s i => m_event_Put_l6 e fu s i) (n := e.Vals.length) (P := fun i s o => s = b ++ valsB (e.Vals.take i) → o = some (s ++ valsB (e.Vals.drop i), 0)) (by omega)
    (fun fu s hs => by unfold m_event_Put_l6; rw [d_nlt (by omega), List.drop_of_length_le (Nat.le_refl _)]; simp [valsB])
    (fun fu s i hi ih hs => by
      have hm := List.getElem_mem hi
      have hsl : s.length ≤ 1000000 := by
        have := valsB_le (l := e.Vals.take i) fun v hv => he.V v (List.mem_of_mem_take hv)
        rw [hs, List.length_append]; rw [List.length_take] at this; omega
      unfold m_event_Put_l6
      rw [d_lt (by omega), cond_true, geti_lt hi, obind_some, vput_ok hsl (he.V _ hm), obind_some]
      unfold putV
      rw [if_neg (by simp [hc _ hm])]
      simp only
      rw [decide_eq_false (by simp), cond_false, inc_ok (by omega), ih _ (by rw [hs, valsB_snoc hi, List.append_assoc]), valsB_drop hi, List.append_assoc])
    b (by simp [valsB])
  rw [List.drop_zero] at this; exact this
theorem rpvals_l {e : GEvent} {b : List UInt8} (hb : b.length ≤ 900000) (he : evO e) (hc : ∀ v ∈ e.Vals, chkV v = 0) : m_r07_Put_l5 e 1152921504606846976 b 0 = some (b ++ valsB e.Vals, 0) := by
  have hL := he.L
  have := loopG_0 (L := fun fu s i => m_r07_Put_l5 e fu s i) (n := e.Vals.length) (P := fun i s o => s = b ++ valsB (e.Vals.take i) → o = some (s ++ valsB (e.Vals.drop i), 0)) (by omega)
    (fun fu s hs => by unfold m_r07_Put_l5; rw [d_nlt (by omega), List.drop_of_length_le (Nat.le_refl _)]; simp [valsB])
    (fun fu s i hi ih hs => by
      have hm := List.getElem_mem hi
      have hsl : s.length ≤ 1000000 := by
        have := valsB_le (l := e.Vals.take i) fun v hv => he.V v (List.mem_of_mem_take hv)
        rw [hs, List.length_append]; rw [List.length_take] at this; omega
      unfold m_r07_Put_l5
      rw [d_lt (by omega), cond_true, geti_lt hi, obind_some, rvput_ok hsl (he.V _ hm), obind_some]
      unfold putV
      rw [if_neg (by simp [hc _ hm])]
      simp only
      rw [inc_ok (by omega), ih _ (by rw [hs, valsB_snoc hi, List.append_assoc]), valsB_drop hi, List.append_assoc])
    b (by simp [valsB])
  rw [List.drop_zero] at this; exact this
def putE (b : List UInt8) (p : List GType) (e : GEvent) : List UInt8 × Int := if evC p e ≠ 0 then ([], evC p e) else (b ++ evB' p e, 0)
theorem uw {n : Int} (h : 0 ≤ n ∧ n ≤ 1099511627776) : IntKind.u64.wrap n = ((n.toNat : Nat) : Int) := by rw [wu64]; omega
theorem zb_le {u : Nat} (h : u ≤ 1099511627776) : (zb u).length ≤ 10 := by rw [zb_length]; exact zn_le10 u (by omega)
theorem eput_ok {p : List GType} {e : GEvent} {b : List UInt8} (hb : b.length ≤ 500000) (hp : scB p) (he : evO e) : m_event_Put b p e = some (putE b p e) := by
  unfold m_event_Put putE
  rw [echeck_ok hp he, obind_some]
  by_cases h : evC p e ≠ 0
  · rw [decide_eq_true h, if_pos h]; rfl
  · rw [decide_eq_false h, if_neg h, cond_false, plc_ok _ hp.L', obind_some]
    have g := evC_zero (by omega : evC p e = 0)
    obtain ⟨k, k1, k2, _⟩ := plc_in e.Type_ p 0 g.H
    have hL := hp.L
    have a1 := zb_le (u := e.Time.toNat) (by have := g.M.T; omega)
    have a2 := zb_le (u := e.Source.toNat) (by have := g.M.S; omega)
    have a3 := zb_le (u := e.Seq.toNat) (by have := g.M.Q; omega)
    have a4 := zb_le (u := (plc p e.Type_ 0).toNat) (by omega)
    have m1 := g.M.T; have m2 := g.M.S; have m3 := g.M.Q
    rw [show (1152921504606846976 : Nat) = 1152921504606846971 + 1 + 1 + 1 + 1 + 1 from rfl]
    have step : ∀ (fu i : Nat) (y x : Int) (s : List UInt8), i < 4 → ([e.Time, e.Source, e.Seq, plc p e.Type_ 0] : List Int)[i]? = some x → 0 ≤ x ∧ x ≤ 1099511627776 → s.length ≤ 800000 →
        m_event_Put_l2 e (plc p e.Type_ 0) (fu + 1) s (i : Int) = m_event_Put_l2 e (plc p e.Type_ 0) fu (s ++ zb x.toNat) ((i + 1 : Nat) : Int) := by
      intro fu i y x s hi hx hb hs
      conv => lhs; unfold m_event_Put_l2
      rw [d_lt (by omega), cond_true, geti_nat, hx, obind_some, uw hb, put_ok (by omega) (by omega), obind_some, inc_ok (by omega)]
    have q1 := step 1152921504606846975 0 0 e.Time b (by omega) rfl (by omega) (by omega)
    have q2 := step 1152921504606846974 1 0 e.Source (b ++ zb e.Time.toNat) (by omega) rfl (by omega) (by rw [List.length_append]; omega)
    have q3 := step 1152921504606846973 2 0 e.Seq (b ++ zb e.Time.toNat ++ zb e.Source.toNat) (by omega) rfl (by omega) (by simp only [List.length_append]; omega)
    have q4 := step 1152921504606846972 3 0 (plc p e.Type_ 0) (b ++ zb e.Time.toNat ++ zb e.Source.toNat ++ zb e.Seq.toNat) (by omega) rfl (by omega) (by simp only [List.length_append]; omega)
    have q := q1.trans (q2.trans (q3.trans q4))
    refine q.trans ?_
    conv => lhs; unfold m_event_Put_l2
    rw [d_nlt (by omega), cond_false, pvals_l (by simp only [List.length_append]; omega) he g.V]
    unfold evB' headB
    simp only [List.append_assoc]
theorem reput_ok {p : List GType} {e : GEvent} {b : List UInt8} (hb : b.length ≤ 500000) (hp : scB p) (he : evO e) : m_r07_Put b p e = some (putE b p e) := by
  unfold m_r07_Put putE
  rw [recheck_ok hp he, obind_some]
  by_cases h : evC p e ≠ 0
  · rw [decide_eq_true h, if_pos h]; rfl
  · rw [decide_eq_false h, if_neg h, cond_false]
    have g := evC_zero (by omega : evC p e = 0)
    obtain ⟨k, k1, k2, _⟩ := plc_in e.Type_ p 0 g.H
    have hL := hp.L
    have a1 := zb_le (u := e.Time.toNat) (by have := g.M.T; omega)
    have a2 := zb_le (u := e.Source.toNat) (by have := g.M.S; omega)
    have a3 := zb_le (u := e.Seq.toNat) (by have := g.M.Q; omega)
    have a4 := zb_le (u := (plc p e.Type_ 0).toNat) (by omega)
    have m1 := g.M.T; have m2 := g.M.S; have m3 := g.M.Q
    rw [uw (by omega), rput_ok (by omega) (by omega), obind_some, uw (n := e.Source) (by omega), rput_ok (by simp only [List.length_append]; omega) (by omega), obind_some, uw (n := e.Seq) (by omega), rput_ok (by simp only [List.length_append]; omega) (by omega), obind_some, rplc_ok _ hp.L', obind_some, uw (n := plc p e.Type_ 0) (by omega), rput_ok (by simp only [List.length_append]; omega) (by omega), obind_some, rpvals_l (by simp only [List.length_append]; omega) he g.V]
    unfold evB' headB
    simp only [List.append_assoc]
/-! ### a value by its name -/
end Go.Proofs.YtaaooafcijdbmaaDoor.K
namespace Go.Proofs.YtaaooafcijdbmaaDoor.K
open Go.RowKit Go.Lib
theorem wf_tyM {t : GType} (h : wf_GType t) : tyM t := ⟨h.Name, h.Fields.1, fun f hf => (h.Fields.2 f hf).Name⟩
theorem wf_evM {e : GEvent} (h : wf_GEvent e) : evM e := ⟨h.Type_, h.Vals.1, fun v hv => (h.Vals.2 v hv).Text⟩
theorem wf_evO {e : GEvent} (h : wf_GEvent e) (b : evB e) : evO e :=
  ⟨in_i64 h.Time, in_i64 h.Source, in_i64 h.Seq, b.2.1, fun v hv => ⟨in_i64 (h.Vals.2 v hv).N, in_u64 (h.Vals.2 v hv).Bits, by have := b.2.2 v hv; omega⟩⟩
end Go.Proofs.YtaaooafcijdbmaaDoor.K

namespace Go.Proofs.YtaaooafcijdbmaaDoor.K
open Go.RowKit Go.Lib
abbrev zeroE : GEvent := GEvent.mk 0 0 0 [] []
/-- Four numbers, one behind the other. -/
def tk4 (l : List UInt8) (a : Int) : Nat ⊕ (Nat × Nat × Nat × Nat × Nat) :=
  if (ztk l a).2.2 ≠ 0 then .inl (ztk l a).2.2 else
  if (ztk l ((ztk l a).2.1 : Int)).2.2 ≠ 0 then .inl (ztk l ((ztk l a).2.1 : Int)).2.2 else
  if (ztk l ((ztk l ((ztk l a).2.1 : Int)).2.1 : Int)).2.2 ≠ 0 then .inl (ztk l ((ztk l ((ztk l a).2.1 : Int)).2.1 : Int)).2.2 else
  if (ztk l ((ztk l ((ztk l ((ztk l a).2.1 : Int)).2.1 : Int)).2.1 : Int)).2.2 ≠ 0 then .inl (ztk l ((ztk l ((ztk l ((ztk l a).2.1 : Int)).2.1 : Int)).2.1 : Int)).2.2 else
  .inr ((ztk l a).1, (ztk l ((ztk l a).2.1 : Int)).1, (ztk l ((ztk l ((ztk l a).2.1 : Int)).2.1 : Int)).1, (ztk l ((ztk l ((ztk l ((ztk l a).2.1 : Int)).2.1 : Int)).2.1 : Int)).1, (ztk l ((ztk l ((ztk l ((ztk l a).2.1 : Int)).2.1 : Int)).2.1 : Int)).2.1)
section
variable {l : List UInt8} (hl : l.length ≤ 1000000)
include hl
theorem nst_0 (fu : Nat) (a : Int) (A : GArr4_Int_) : m_event_numbers_l0 l (fu + 1) a A 0 = if (ztk l a).2.2 ≠ 0 then some (A, 0, (((ztk l a).2.2 : Nat) : Int)) else m_event_numbers_l0 l fu (((ztk l a).2.1 : Nat) : Int) (GArr4_Int_.mk (((ztk l a).1 : Nat) : Int) A.a1 A.a2 A.a3) 1 := by
  conv => lhs; unfold m_event_numbers_l0
  rw [decide_eq_true (by decide), cond_true, take_ok hl, obind_some]
  unfold ztkI
  by_cases h : (ztk l a).2.2 ≠ 0
  · rw [decide_eq_true (by simpa using h), if_pos h]; rfl
  · rw [decide_eq_false (by simpa using h), if_neg h]; rfl
theorem nst_1 (fu : Nat) (a : Int) (A : GArr4_Int_) : m_event_numbers_l0 l (fu + 1) a A 1 = if (ztk l a).2.2 ≠ 0 then some (A, 0, (((ztk l a).2.2 : Nat) : Int)) else m_event_numbers_l0 l fu (((ztk l a).2.1 : Nat) : Int) (GArr4_Int_.mk A.a0 (((ztk l a).1 : Nat) : Int) A.a2 A.a3) 2 := by
  conv => lhs; unfold m_event_numbers_l0
  rw [decide_eq_true (by decide), cond_true, take_ok hl, obind_some]
  unfold ztkI
  by_cases h : (ztk l a).2.2 ≠ 0
  · rw [decide_eq_true (by simpa using h), if_pos h]; rfl
  · rw [decide_eq_false (by simpa using h), if_neg h]; rfl
theorem nst_2 (fu : Nat) (a : Int) (A : GArr4_Int_) : m_event_numbers_l0 l (fu + 1) a A 2 = if (ztk l a).2.2 ≠ 0 then some (A, 0, (((ztk l a).2.2 : Nat) : Int)) else m_event_numbers_l0 l fu (((ztk l a).2.1 : Nat) : Int) (GArr4_Int_.mk A.a0 A.a1 (((ztk l a).1 : Nat) : Int) A.a3) 3 := by
  conv => lhs; unfold m_event_numbers_l0
  rw [decide_eq_true (by decide), cond_true, take_ok hl, obind_some]
  unfold ztkI
  by_cases h : (ztk l a).2.2 ≠ 0
  · rw [decide_eq_true (by simpa using h), if_pos h]; rfl
  · rw [decide_eq_false (by simpa using h), if_neg h]; rfl
theorem nst_3 (fu : Nat) (a : Int) (A : GArr4_Int_) : m_event_numbers_l0 l (fu + 1) a A 3 = if (ztk l a).2.2 ≠ 0 then some (A, 0, (((ztk l a).2.2 : Nat) : Int)) else m_event_numbers_l0 l fu (((ztk l a).2.1 : Nat) : Int) (GArr4_Int_.mk A.a0 A.a1 A.a2 (((ztk l a).1 : Nat) : Int)) 4 := by
  conv => lhs; unfold m_event_numbers_l0
  rw [decide_eq_true (by decide), cond_true, take_ok hl, obind_some]
  unfold ztkI
  by_cases h : (ztk l a).2.2 ≠ 0
  · rw [decide_eq_true (by simpa using h), if_pos h]; rfl
  · rw [decide_eq_false (by simpa using h), if_neg h]; rfl
omit hl in
theorem nst_4 (fu : Nat) (a : Int) (A : GArr4_Int_) : m_event_numbers_l0 l (fu + 1) a A 4 = some (A, a, 0) := by
  unfold m_event_numbers_l0; rfl
theorem numbers_ok (a : Int) : match tk4 l a with
    | .inl e => ∃ A, m_event_numbers l a = some (A, 0, (e : Int)) ∧ e ≠ 0
    | .inr (n0, n1, n2, n3, b) => m_event_numbers l a = some (GArr4_Int_.mk n0 n1 n2 n3, (b : Int), 0) := by
  unfold m_event_numbers tk4
  rw [show (1152921504606846976 : Nat) = 1152921504606846971 + 1 + 1 + 1 + 1 + 1 from rfl, nst_0 hl]
  by_cases h0 : (ztk l a).2.2 ≠ 0
  · rw [if_pos h0, if_pos h0]; exact ⟨_, rfl, h0⟩
  rw [if_neg h0, if_neg h0, nst_1 hl]
  generalize (((ztk l a).2.1 : Nat) : Int) = a1
  by_cases h1 : (ztk l a1).2.2 ≠ 0
  · rw [if_pos h1, if_pos h1]; exact ⟨_, rfl, h1⟩
  rw [if_neg h1, if_neg h1, nst_2 hl]
  generalize (((ztk l a1).2.1 : Nat) : Int) = a2
  by_cases h2 : (ztk l a2).2.2 ≠ 0
  · rw [if_pos h2, if_pos h2]; exact ⟨_, rfl, h2⟩
  rw [if_neg h2, if_neg h2, nst_3 hl]
  generalize (((ztk l a2).2.1 : Nat) : Int) = a3
  by_cases h3 : (ztk l a3).2.2 ≠ 0
  · rw [if_pos h3, if_pos h3]; exact ⟨_, rfl, h3⟩
  rw [if_neg h3, if_neg h3, nst_4]
end
/-- Values, one behind the other. -/
def valsT (l : List UInt8) : Nat → Int → List GValue → Int ⊕ (List GValue × Int)
  | 0, a, vs => .inr (vs, a)
  | k + 1, a, vs => if (vtk l a).2.2 ≠ 0 then .inl (vtk l a).2.2 else valsT l k (vtk l a).2.1 (vs ++ [(vtk l a).1])
theorem vals_loop {R : Type} {l : List UInt8} {L : Nat → List GValue → Int → Int → Option R} {n : Nat} {E : Int → Option R} {K : List GValue → Int → Option R}
    (hend : ∀ fu vs a, L (fu + 1) vs a (n : Int) = K vs a)
    (hstep : ∀ fu vs a (i : Nat), i < n → vs.length ≤ n → L (fu + 1) vs a (i : Int) = if (vtk l a).2.2 ≠ 0 then E (vtk l a).2.2 else L fu (vs ++ [(vtk l a).1]) (vtk l a).2.1 ((i + 1 : Nat) : Int)) :
    ∀ (k i fu : Nat) (vs : List GValue) (a : Int), i + k = n → vs.length = i → k < fu → L fu vs a (i : Int) = match valsT l k a vs with | .inl e => E e | .inr (vs', b) => K vs' b
  | _, _, 0, _, _, _, _, h => by omega
  | 0, i, fu + 1, vs, a, h1, _, _ => by
    obtain rfl : i = n := by omega
    rw [hend]; rfl
  | k + 1, i, fu + 1, vs, a, h1, h2, h3 => by
    rw [hstep fu vs a i (by omega) (by omega), valsT]
    by_cases h : (vtk l a).2.2 ≠ 0
    · rw [if_pos h, if_pos h]
    · rw [if_neg h, if_neg h, vals_loop hend hstep k (i + 1) fu _ _ (by omega) (by simp [h2]) (by omega)]
def num40 (n : Nat) : Int := if 1099511627776 < n then -1 else (n : Int)
def num15 (n : Nat) : Int := if 15 < n then -1 else (n : Int)
def etk (p : List GType) (l : List UInt8) (a : Int) : GEvent × Int × Int :=
  if schC p ≠ 0 ∨ a < 0 ∨ (l.length : Int) < a then (zeroE, 0, 2) else match tk4 l a with
    | .inl e => (zeroE, 0, (e : Int))
    | .inr (n0, n1, n2, n3, b) => match p[n3]? with
      | none => (zeroE, 0, 6)
      | some t => match valsT l t.Fields.length (b : Int) [] with
        | .inl e => (zeroE, 0, e)
        | .inr (vs, c) => if evC p (GEvent.mk (num40 n0) (num15 n1) (num40 n2) t.Name vs) ≠ 0 then (zeroE, 0, evC p (GEvent.mk (num40 n0) (num15 n1) (num40 n2) t.Name vs)) else (GEvent.mk (num40 n0) (num15 n1) (num40 n2) t.Name vs, c, 0)
theorem vtk_good {l : List UInt8} {a : Int} (hl : l.length ≤ 100000) (h : (vtk l a).2.2 = 0) : okB (vtk l a).1 ∧ chkV (vtk l a).1 = 0 ∧ ∃ m k : Nat, a = m ∧ m + k ≤ l.length ∧ (vtk l a).2.1 = ((m + k : Nat) : Int) ∧ (vtk l a).1.Kind :: bytesV (vtk l a).1 = (l.drop m).take k := by
  by_cases ha : a < 0 ∨ (l.length : Int) < a
  · exfalso; unfold vtk at h; rw [if_pos ha] at h; simp at h
  · obtain ⟨m, rfl⟩ : ∃ m : Nat, a = m := ⟨a.toNat, by omega⟩
    have e := vtk_drop (l := l) (a := m) (by omega)
    rw [e] at h ⊢
    simp only at h ⊢
    generalize hx : vtk (l.drop m) 0 = x at h e ⊢
    obtain ⟨x, n, er⟩ := x
    simp only at h ⊢
    subst h
    obtain ⟨c, ok, k, rfl, hk, hb⟩ := take_put (by rw [List.length_drop]; omega) hx
    rw [List.length_drop] at hk
    exact ⟨ok, c, m, k, rfl, by omega, by rw [if_pos rfl]; omega, hb⟩
theorem valsT_good {l : List UInt8} (hl : l.length ≤ 100000) : ∀ (k : Nat) (a : Int) (vs vs' : List GValue) (b : Int), valsT l k a vs = .inr (vs', b) → (∀ v ∈ vs, okB v ∧ chkV v = 0) → vs'.length = vs.length + k ∧ ∀ v ∈ vs', okB v ∧ chkV v = 0
  | 0, a, vs, vs', b, h, hv => by
    rw [valsT] at h; cases h; exact ⟨rfl, hv⟩
  | k + 1, a, vs, vs', b, h, hv => by
    rw [valsT] at h
    by_cases h0 : (vtk l a).2.2 ≠ 0
    · rw [if_pos h0] at h; cases h
    · rw [if_neg h0] at h
      obtain ⟨o, c, _⟩ := vtk_good hl (by omega : (vtk l a).2.2 = 0)
      obtain ⟨q1, q2⟩ := valsT_good hl k _ _ vs' b h fun v hv' => by
        rcases List.mem_append.1 hv' with h1 | h1
        · exact hv v h1
        · simp only [List.mem_singleton] at h1; subst h1; exact ⟨o, c⟩
      exact ⟨by rw [q1]; simp; omega, q2⟩
theorem valsT_err {l : List UInt8} : ∀ (k : Nat) (a : Int) (vs : List GValue), valsT l k a vs ≠ .inl 0
  | 0, a, vs => by rw [valsT]; exact fun h => by cases h
  | k + 1, a, vs => by
    rw [valsT]
    split
    · rename_i h; exact fun q => h (Sum.inl.inj q)
    · exact valsT_err k _ _
theorem tk4_lt {l : List UInt8} {a : Int} {n0 n1 n2 n3 b : Nat} (h : tk4 l a = .inr (n0, n1, n2, n3, b)) : n0 < 18446744073709551616 ∧ n1 < 18446744073709551616 ∧ n2 < 18446744073709551616 ∧ n3 < 18446744073709551616 := by
  unfold tk4 at h
  split at h
  · cases h
  split at h
  · cases h
  split at h
  · cases h
  split at h
  · cases h
  cases h
  exact ⟨ztk_lt _ _, ztk_lt _ _, ztk_lt _ _, ztk_lt _ _⟩
theorem num40_r (n : Nat) : -1 ≤ num40 n ∧ num40 n ≤ 1099511627776 := by unfold num40; split <;> omega
theorem num15_r (n : Nat) : -1 ≤ num15 n ∧ num15 n ≤ 15 := by unfold num15; split <;> omega
theorem tk_evO {n0 n1 n2 : Nat} {t : List UInt8} {vs : List GValue} (h1 : vs.length ≤ 12) (h2 : ∀ v ∈ vs, okB v) : evO (GEvent.mk (num40 n0) (num15 n1) (num40 n2) t vs) := by
  have := num40_r n0; have := num15_r n1; have := num40_r n2
  exact ⟨by simp only; omega, by simp only; omega, by simp only; omega, h1, h2⟩
theorem number_ok {n : Nat} (h : n < 18446744073709551616) : m_event_number (n : Int) 1099511627776 = some (num40 n) ∧ m_event_number (n : Int) 15 = some (num15 n) := by
  unfold m_event_number num40 num15
  rw [wu64, wu64]
  refine ⟨?_, ?_⟩
  · by_cases c : 1099511627776 < n
    · rw [decide_eq_true (by omega), if_pos c]; rfl
    · rw [decide_eq_false (by omega), if_neg c, cond_false, w64 (by omega) (by omega)]
  · by_cases c : 15 < n
    · rw [decide_eq_true (by omega), if_pos c]; rfl
    · rw [decide_eq_false (by omega), if_neg c, cond_false, w64 (by omega) (by omega)]
theorem etake_ok {p : List GType} {l : List UInt8} (a : Int) (hl : l.length ≤ 100000) (hp : scB p) : m_event_Take p l a = some (etk p l a) := by
  unfold m_event_Take m_event_Take_j1 etk
  have hL := hp.L
  rw [scheck_ok hp.L' hp.F, obind_some]
  by_cases h1 : schC p ≠ 0
  · rw [decide_eq_true h1, if_pos (.inl h1)]; rfl
  rw [decide_eq_false h1, cond_false]
  by_cases h2 : a < 0
  · rw [decide_eq_true h2, if_pos (.inr (.inl h2))]; rfl
  rw [decide_eq_false h2, cond_false]
  by_cases h3 : (l.length : Int) < a
  · rw [decide_eq_true h3, if_pos (.inr (.inr h3))]; rfl
  rw [decide_eq_false h3, cond_false, if_neg (by omega)]
  have hn := numbers_ok (l := l) (by omega) a
  cases ht : tk4 l a with
  | inl e =>
    rw [ht] at hn
    obtain ⟨A, e1, e2⟩ := hn
    rw [e1, obind_some, decide_eq_true (by simp only; omega)]; rfl
  | inr q =>
    obtain ⟨n0, n1, n2, n3, b⟩ := q
    rw [ht] at hn
    obtain ⟨b0, b1, b2, b3⟩ := tk4_lt ht
    simp only at hn ⊢
    rw [hn, obind_some, decide_eq_false (by simp), cond_false]
    simp only
    rw [wu64, Int.emod_eq_of_lt (by omega) (by omega)]
    by_cases h4 : p.length ≤ n3
    · rw [decide_eq_true (by omega), List.getElem?_eq_none h4]; rfl
    have h4 : n3 < p.length := by omega
    have hF := (hp.T _ (List.getElem_mem h4)).F
    rw [decide_eq_false (by omega), cond_false, List.getElem?_eq_getElem h4, geti_lt h4, obind_some, (number_ok b0).1, obind_some, (number_ok b1).2, obind_some, (number_ok b2).1, obind_some]
    simp only
    have hvl := vals_loop (l := l) (L := fun fu vs a i => m_event_Take_l7 p l (num40 n0) (num15 n1) (num40 n2) p[n3] fu vs a i) (n := p[n3].Fields.length) (E := fun e => some (zeroE, 0, e))
      (K := fun vs c => Option.bind (m_event_Check p (GEvent.mk (num40 n0) (num15 n1) (num40 n2) p[n3].Name vs)) fun r => cond (decide (r ≠ 0)) (some (zeroE, 0, r)) (some (GEvent.mk (num40 n0) (num15 n1) (num40 n2) p[n3].Name vs, c, 0)))
      (fun fu vs a => by unfold m_event_Take_l7; rw [d_nlt (by omega)]; rfl)
      (fun fu vs a i hi hvs => by
        conv => lhs; unfold m_event_Take_l7
        rw [d_lt (by omega), cond_true, vtake_ok (by omega), obind_some, app_ok (by simp; omega), obind_some, inc_ok (by omega)]
        by_cases h : (vtk l a).2.2 ≠ 0
        · rw [decide_eq_true h, if_pos h]; rfl
        · rw [decide_eq_false h, if_neg h]; rfl) p[n3].Fields.length 0 1152921504606846976 [] (b : Int) (by omega) rfl (by omega)
    refine Eq.trans hvl ?_
    cases hv : valsT l p[n3].Fields.length (b : Int) [] with
    | inl e => rfl
    | inr q =>
      obtain ⟨vs, c⟩ := q
      obtain ⟨g1, g2⟩ := valsT_good hl _ _ _ _ _ hv (by simp)
      simp only at g1 ⊢
      rw [echeck_ok hp (tk_evO (by rw [g1]; simp; omega) fun v hv => (g2 v hv).1), obind_some]
      split
      · rename_i h; rw [decide_eq_true h]; rfl
      · rename_i h; rw [decide_eq_false h]; rfl
/-! ### the mirror -/
end Go.Proofs.YtaaooafcijdbmaaDoor.K

namespace Go.Proofs.YtaaooafcijdbmaaDoor.K
open Go.RowKit Go.Lib
theorem schL_names : ∀ (r pre : List GType), schL pre r = 0 → ∀ i (h : i < r.length), hasT (pre ++ r.take i) r[i].Name = false
  | [], _, _, i, h => by simp at h
  | t :: r, pre, hs, i, h => by
    rw [schL] at hs
    by_cases h0 : typC t ≠ 0
    · rw [if_pos h0] at hs; exact absurd hs h0
    rw [if_neg h0] at hs
    cases hT : hasT pre t.Name with
    | true => rw [if_pos hT] at hs; cases hs
    | false =>
      rw [if_neg (by simp [hT])] at hs
      cases i with
      | zero => simpa using hT
      | succ i =>
        have := schL_names r (pre ++ [t]) hs i (by simpa using h)
        simpa using this
theorem sch_names {p : List GType} (h : schC p = 0) {i : Nat} (hi : i < p.length) : hasT (p.take i) p[i].Name = false := by
  unfold schC at h
  split at h
  · cases h
  · simpa using schL_names p [] h i hi
theorem plc_pre (t : GType) (r : List GType) : ∀ (pre : List GType) (k : Nat), hasT pre t.Name = false → plc (pre ++ t :: r) t.Name k = ((k + pre.length : Nat) : Int) ∧ fnd (pre ++ t :: r) t.Name = (t, true)
  | [], k, _ => by rw [List.nil_append, plc, fnd, if_pos rfl, if_pos rfl]; exact ⟨rfl, rfl⟩
  | x :: pre, k, h => by
    unfold hasT at h
    rw [List.any_cons, Bool.or_eq_false_iff] at h
    have hx : x.Name ≠ t.Name := by simpa using h.1
    obtain ⟨h1, h2⟩ := plc_pre t r pre (k + 1) h.2
    rw [List.cons_append, plc, fnd, if_neg hx, if_neg hx, h1, h2, List.length_cons]
    exact ⟨by congr 1; omega, rfl⟩
theorem plc_at {p : List GType} (h : schC p = 0) {i : Nat} (hi : i < p.length) : plc p p[i].Name 0 = (i : Int) ∧ fnd p p[i].Name = (p[i], true) := by
  obtain ⟨h1, h2⟩ := plc_pre p[i] (p.drop (i + 1)) (p.take i) 0 (sch_names h hi)
  rw [← split_at hi] at h1 h2
  refine ⟨?_, h2⟩
  rw [h1, List.length_take, Nat.min_eq_left (by omega), Nat.zero_add]
/-! ### taken, so put -/
theorem ztk_good {l : List UInt8} {a : Int} (h : (ztk l a).2.2 = 0) : ∃ m k : Nat, a = m ∧ m + k ≤ l.length ∧ (ztk l a).2.1 = m + k ∧ (l.drop m).take k = zb (ztk l a).1 := by
  by_cases ha : a < 0 ∨ (l.length : Int) < a
  · unfold ztk at h; rw [if_pos ha] at h; simp at h
  · obtain ⟨m, rfl⟩ : ∃ m : Nat, a = m := ⟨a.toNat, by omega⟩
    have e := ztk_drop0 (l := l) (a := m) (by omega)
    rw [e] at h ⊢
    unfold zgo at h ⊢
    simp only at h ⊢
    obtain ⟨q1, q2⟩ := tk_bytes (l := l.drop m) (u := (tk (l.drop m) 10 0 0).1) (n := (tk (l.drop m) 10 0 0).2.1) (Prod.ext rfl (Prod.ext rfl h))
    rw [List.length_drop] at q1
    exact ⟨m, (tk (l.drop m) 10 0 0).2.1, rfl, by omega, by rw [if_pos h], q2⟩
theorem tk4_bytes {l : List UInt8} {n0 n1 n2 n3 b : Nat} (h : tk4 l 0 = .inr (n0, n1, n2, n3, b)) : b ≤ l.length ∧ l.take b = zb n0 ++ zb n1 ++ zb n2 ++ zb n3 := by
  unfold tk4 at h
  by_cases c0 : (ztk l 0).2.2 ≠ 0
  · rw [if_pos c0] at h; cases h
  rw [if_neg c0] at h
  obtain ⟨m0, k0, a0, d0, e0, f0⟩ := ztk_good (by omega : (ztk l 0).2.2 = 0)
  obtain rfl : m0 = 0 := by omega
  generalize (ztk l 0).1 = u0 at h f0
  generalize (ztk l 0).2.1 = p1 at h e0
  by_cases c1 : (ztk l (p1 : Int)).2.2 ≠ 0
  · rw [if_pos c1] at h; cases h
  rw [if_neg c1] at h
  obtain ⟨m1, k1, a1, d1, e1, f1⟩ := ztk_good (by omega : (ztk l (p1 : Int)).2.2 = 0)
  generalize (ztk l (p1 : Int)).1 = u1 at h f1
  generalize (ztk l (p1 : Int)).2.1 = p2 at h e1
  by_cases c2 : (ztk l (p2 : Int)).2.2 ≠ 0
  · rw [if_pos c2] at h; cases h
  rw [if_neg c2] at h
  obtain ⟨m2, k2, a2, d2, e2, f2⟩ := ztk_good (by omega : (ztk l (p2 : Int)).2.2 = 0)
  generalize (ztk l (p2 : Int)).1 = u2 at h f2
  generalize (ztk l (p2 : Int)).2.1 = p3 at h e2
  by_cases c3 : (ztk l (p3 : Int)).2.2 ≠ 0
  · rw [if_pos c3] at h; cases h
  rw [if_neg c3] at h
  obtain ⟨m3, k3, a3, d3, e3, f3⟩ := ztk_good (by omega : (ztk l (p3 : Int)).2.2 = 0)
  generalize (ztk l (p3 : Int)).1 = u3 at h f3
  generalize (ztk l (p3 : Int)).2.1 = p4 at h e3
  cases h
  refine ⟨by omega, ?_⟩
  obtain rfl : m1 = k0 := by omega
  obtain rfl : m2 = m1 + k1 := by omega
  obtain rfl : m3 = m1 + k1 + k2 := by omega
  rw [e3, List.take_add, f3, List.take_add, f2, List.take_add, f1]
  rw [List.drop_zero] at f0
  rw [f0]
theorem valsT_bytes {l : List UInt8} (hl : l.length ≤ 100000) : ∀ (k : Nat) (a : Nat) (vs vs' : List GValue) (b : Int), a ≤ l.length → valsT l k (a : Int) vs = .inr (vs', b) → ∃ c : Nat, b = c ∧ a ≤ c ∧ c ≤ l.length ∧ valsB vs' = valsB vs ++ (l.drop a).take (c - a)
  | 0, a, vs, vs', b, ha, h => by
    rw [valsT] at h; cases h
    exact ⟨a, rfl, Nat.le_refl _, ha, by simp⟩
  | k + 1, a, vs, vs', b, ha, h => by
    rw [valsT] at h
    by_cases h0 : (vtk l (a : Int)).2.2 ≠ 0
    · rw [if_pos h0] at h; cases h
    rw [if_neg h0] at h
    obtain ⟨_, _, m, j, e1, e2, e3, e4⟩ := vtk_good hl (by omega : (vtk l (a : Int)).2.2 = 0)
    obtain rfl : m = a := by omega
    rw [e3] at h
    obtain ⟨c, q1, q2, q3, q4⟩ := valsT_bytes hl k _ _ vs' b e2 h
    refine ⟨c, q1, by omega, q3, ?_⟩
    rw [q4, show c - m = j + (c - (m + j)) by omega, List.take_add, List.drop_drop, ← e4]
    unfold valsB
    rw [List.flatMap_append]
    simp only [List.flatMap_cons, List.flatMap_nil, List.append_nil, List.append_assoc]
theorem num40_nn {n : Nat} (h : 0 ≤ num40 n) : (num40 n).toNat = n := by
  unfold num40 at h ⊢
  by_cases c : 1099511627776 < n
  · rw [if_pos c] at h; omega
  · rw [if_neg c]; omega
theorem num15_nn {n : Nat} (h : 0 ≤ num15 n) : (num15 n).toNat = n := by
  unfold num15 at h ⊢
  by_cases c : 15 < n
  · rw [if_pos c] at h; omega
  · rw [if_neg c]; omega
theorem ev_take_put {p : List GType} {l : List UInt8} {e : GEvent} {n : Int} (hp : scB p) (hl : l.length ≤ 100000) (h : etk p l 0 = (e, n, 0)) : evGood p e ∧ evO e ∧ ∃ m : Nat, n = m ∧ m ≤ l.length ∧ evB' p e = l.take m := by
  unfold etk at h
  by_cases c0 : schC p ≠ 0 ∨ (0 : Int) < 0 ∨ (l.length : Int) < 0
  · rw [if_pos c0] at h; simp at h
  rw [if_neg c0] at h
  have hs : schC p = 0 := by omega
  cases ht : tk4 l 0 with
  | inl er =>
    rw [ht] at h
    have hn := numbers_ok (l := l) (by omega) 0
    rw [ht] at hn
    obtain ⟨_, _, hn⟩ := hn
    simp only [Prod.mk.injEq] at h
    omega
  | inr q =>
    obtain ⟨n0, n1, n2, n3, b⟩ := q
    rw [ht] at h
    simp only at h
    by_cases h4 : p.length ≤ n3
    · rw [List.getElem?_eq_none h4] at h; simp at h
    have h4 : n3 < p.length := by omega
    rw [List.getElem?_eq_getElem h4] at h
    simp only at h
    obtain ⟨b1, b2⟩ := tk4_bytes ht
    cases hv : valsT l p[n3].Fields.length (b : Int) [] with
    | inl er =>
      rw [hv] at h
      simp only [Prod.mk.injEq] at h
      exfalso
      obtain ⟨_, _, rfl⟩ := h
      exact valsT_err _ _ _ hv
    | inr q =>
      obtain ⟨vs, c⟩ := q
      rw [hv] at h
      simp only at h
      obtain ⟨g1, g2⟩ := valsT_good hl _ _ _ _ _ hv (by simp)
      obtain ⟨cc, k1, k2, k3, k4⟩ := valsT_bytes hl _ _ _ _ _ b1 hv
      by_cases c1 : evC p (GEvent.mk (num40 n0) (num15 n1) (num40 n2) p[n3].Name vs) ≠ 0
      · rw [if_pos c1] at h
        simp only [Prod.mk.injEq] at h
        exact absurd h.2.2 c1
      rw [if_neg c1] at h
      simp only [Prod.mk.injEq, and_true] at h
      obtain ⟨h1, h2⟩ := h
      have gd := evC_zero (by omega : evC p (GEvent.mk (num40 n0) (num15 n1) (num40 n2) p[n3].Name vs) = 0)
      have hF := (hp.T _ (List.getElem_mem h4)).F
      have ho := tk_evO (n0 := n0) (n1 := n1) (n2 := n2) (t := p[n3].Name) (vs := vs) (by rw [g1]; simpa using hF) fun v hv => (g2 v hv).1
      subst h1
      refine ⟨gd, ho, cc, by omega, k3, ?_⟩
      have a1 := gd.M.T.1; have a2 := gd.M.S.1; have a3 := gd.M.Q.1
      simp only at a1 a2 a3
      unfold evB' headB
      simp only
      rw [num40_nn a1, num15_nn a2, num40_nn a3, (plc_at hs h4).1, Int.toNat_natCast, ← b2, k4]
      have : cc = b + (cc - b) := by omega
      conv => rhs; rw [this, List.take_add]
      simp [valsB]
/-! ### put, so taken -/
theorem ztk_put {pre r : List UInt8} {u : Nat} (hu : u < 18446744073709551616) : ztk (pre ++ (zb u ++ r)) (pre.length : Int) = (u, pre.length + zn u, 0) := by
  rw [ztk_at rfl, tk_put u hu]
  unfold zgo
  simp
theorem tk4_put {n0 n1 n2 n3 : Nat} (h0 : n0 < 18446744073709551616) (h1 : n1 < 18446744073709551616) (h2 : n2 < 18446744073709551616) (h3 : n3 < 18446744073709551616) (r : List UInt8) :
    tk4 (zb n0 ++ zb n1 ++ zb n2 ++ zb n3 ++ r) 0 = .inr (n0, n1, n2, n3, (zb n0 ++ zb n1 ++ zb n2 ++ zb n3).length) := by
  have e0 := ztk_put (pre := []) (r := zb n1 ++ (zb n2 ++ (zb n3 ++ r))) h0
  have e1 := ztk_put (pre := zb n0) (r := zb n2 ++ (zb n3 ++ r)) h1
  have e2 := ztk_put (pre := zb n0 ++ zb n1) (r := zb n3 ++ r) h2
  have e3 := ztk_put (pre := zb n0 ++ zb n1 ++ zb n2) (r := r) h3
  simp only [List.nil_append, List.length_nil, List.append_assoc, List.length_append, zb_length, Nat.zero_add, Int.natCast_zero] at e0 e1 e2 e3
  simp only [List.append_assoc, List.length_append, zb_length]
  have e2' : ztk (zb n0 ++ (zb n1 ++ (zb n2 ++ (zb n3 ++ r)))) ((zn n0 + zn n1 : Nat) : Int) = (n2, zn n0 + zn n1 + zn n2, 0) := e2
  have e3' : ztk (zb n0 ++ (zb n1 ++ (zb n2 ++ (zb n3 ++ r)))) ((zn n0 + zn n1 + zn n2 : Nat) : Int) = (n3, zn n0 + zn n1 + zn n2 + zn n3, 0) := by rw [← Nat.add_assoc] at e3; exact e3
  unfold tk4
  simp only [e0, e1, e2', e3', ne_eq, not_true_eq_false, if_false]
  rw [show zn n0 + (zn n1 + (zn n2 + zn n3)) = zn n0 + zn n1 + zn n2 + zn n3 by omega]
theorem valsT_put : ∀ (vs : List GValue) (pre r : List UInt8) (ac : List GValue), (∀ v ∈ vs, okB v ∧ chkV v = 0) → valsT (pre ++ (valsB vs ++ r)) vs.length (pre.length : Int) ac = .inr (ac ++ vs, ((pre.length + (valsB vs).length : Nat) : Int))
  | [], pre, r, ac, _ => by simp [valsT, valsB]
  | v :: vs, pre, r, ac, h => by
    have hv := h v (by simp)
    have e : pre ++ (valsB (v :: vs) ++ r) = (pre ++ (v.Kind :: bytesV v)) ++ (valsB vs ++ r) := by
      unfold valsB; rw [List.flatMap_cons]; simp only [List.append_assoc]
    have e1 := vtk_drop (l := pre ++ (valsB (v :: vs) ++ r)) (a := pre.length) (by simp)
    have e2 : (pre ++ (valsB (v :: vs) ++ r)).drop pre.length = (v.Kind :: bytesV v) ++ (valsB vs ++ r) := by
      rw [List.drop_left' rfl]; unfold valsB; rw [List.flatMap_cons, List.append_assoc]
    rw [e2, put_take hv.1 hv.2] at e1
    simp only [if_true] at e1
    have ih := valsT_put vs (pre ++ (v.Kind :: bytesV v)) r (ac ++ [v]) fun w hw => h w (by simp [hw])
    rw [List.length_cons, valsT, e1]
    simp only [ne_eq, not_true_eq_false, if_false]
    rw [← e, List.length_append] at ih
    rw [show ((pre.length : Nat) : Int) + (((v.Kind :: bytesV v).length : Nat) : Int) = ((pre.length + (v.Kind :: bytesV v).length : Nat) : Int) by omega, ih]
    have e3 : (valsB (v :: vs)).length = (v.Kind :: bytesV v).length + (valsB vs).length := by unfold valsB; rw [List.flatMap_cons, List.length_append]
    rw [e3, List.append_assoc, Nat.add_assoc]; rfl
theorem ev_put_take {p : List GType} {e : GEvent} (r : List UInt8) (hp : scB p) (g : evGood p e) (he : evO e) : etk p (evB' p e ++ r) 0 = (e, (((evB' p e).length : Nat) : Int), 0) := by
  obtain ⟨k, k1, k2, t, k3, k4, k5⟩ := plc_in e.Type_ p 0 g.H
  have hL := hp.L
  have m1 := g.M.T; have m2 := g.M.S; have m3 := g.M.Q
  have hv := valsT_put e.Vals (headB p e) r [] fun v hv => ⟨he.V v hv, g.V v hv⟩
  have ht := tk4_put (n0 := e.Time.toNat) (n1 := e.Source.toNat) (n2 := e.Seq.toNat) (n3 := (plc p e.Type_ 0).toNat) (by omega) (by omega) (by omega) (by omega) (valsB e.Vals ++ r)
  have hFl := g.F
  rw [k5] at hFl
  unfold etk evB'
  rw [if_neg (by rw [g.C]; omega), List.append_assoc]
  unfold headB at hv ⊢
  rw [ht]
  simp only
  rw [show (plc p e.Type_ 0).toNat = k by omega] at hv ⊢
  rw [k3]
  simp only
  rw [← hFl, hv]
  simp only [List.nil_append]
  have ee : GEvent.mk (num40 e.Time.toNat) (num15 e.Source.toNat) (num40 e.Seq.toNat) t.Name e.Vals = e := by
    have q1 : num40 e.Time.toNat = e.Time := by unfold num40; rw [if_neg (by omega)]; omega
    have q2 : num15 e.Source.toNat = e.Source := by unfold num15; rw [if_neg (by omega)]; omega
    have q3 : num40 e.Seq.toNat = e.Seq := by unfold num40; rw [if_neg (by omega)]; omega
    rw [q1, q2, q3, k4]
  rw [ee, g.zero, if_neg (by simp)]
  simp only [List.length_append]
theorem bytesV_c {v : GValue} (h : okB v) (c : chkV v = 0) : (bytesV v).length ≤ 40 := by
  have h1 := zn_le10 (zfold v.N) (zfold_lt _ h.N.1 h.N.2)
  have hT := h.T
  have h2 := zn_le10 v.Text.length (by omega)
  unfold bytesV
  split
  · rw [zb_length]; omega
  · split
    · simp
    · split
      · rw [beB_len]; omega
      · rename_i k1 k2 k3
        rcases chk_range v with q | q | q | q | q
        · exact absurd q k1
        · exact absurd q k2
        · exact absurd q k3
        · have := (chk4 q c).1
          rw [List.length_append, zb_length]; omega
        · rw [c] at q; cases q
theorem valsB_c : ∀ {l : List GValue}, (∀ v ∈ l, okB v ∧ chkV v = 0) → (valsB l).length ≤ 41 * l.length
  | [], _ => by simp [valsB]
  | v :: l, h => by
    have h1 := bytesV_c (h v (by simp)).1 (h v (by simp)).2
    have h2 := valsB_c (l := l) fun v hv => h v (by simp [hv])
    unfold valsB at h2 ⊢
    rw [List.flatMap_cons, List.length_append, List.length_cons, List.length_cons]
    omega
theorem evB_len {p : List GType} {e : GEvent} (hp : scB p) (g : evGood p e) (he : evO e) : (evB' p e).length ≤ 600 := by
  have h1 := valsB_c (l := e.Vals) fun v hv => ⟨he.V v hv, g.V v hv⟩
  have hL := he.L
  have m1 := g.M.T; have m2 := g.M.S; have m3 := g.M.Q
  obtain ⟨k, k1, k2, _⟩ := plc_in e.Type_ p 0 g.H
  have hpl := hp.L
  have a1 := zb_le (u := e.Time.toNat) (by omega)
  have a2 := zb_le (u := e.Source.toNat) (by omega)
  have a3 := zb_le (u := e.Seq.toNat) (by omega)
  have a4 := zb_le (u := (plc p e.Type_ 0).toNat) (by omega)
  unfold evB' headB
  simp only [List.length_append]
  omega
end Go.Proofs.YtaaooafcijdbmaaDoor.K

namespace Go.Proofs.YtaaooafcijdbmaaDoor.K
open Go.RowKit Go.Lib
theorem sc_esame {a b : GEvent} (ha : a.Vals.length ≤ 1000000) (hb : b.Vals.length ≤ 1000000) : m_event_Same a b = some (decide (a = b)) := by
  unfold m_event_Same m_event_Event_ID
  rw [obind_some, obind_some, obind_some]
  simp only
  by_cases h1 : a.Time = b.Time ∧ a.Source = b.Source ∧ a.Seq = b.Seq
  · rw [decide_eq_true h1.1, decide_eq_true h1.2.1, decide_eq_true h1.2.2]
    by_cases h4 : a.Type_ = b.Type_
    · rw [decide_eq_true h4]
      show Option.bind (m_slices_Equal_Value a.Vals b.Vals) (fun r => some r) = _
      unfold m_slices_Equal_Value
      by_cases h5 : a.Vals.length = b.Vals.length
      · rw [decide_eq_false (by simp [h5]), cond_false]
        have := eq_loop (L := fun fu i => m_slices_Equal_Value_l2 a.Vals b.Vals fu i) (a := a.Vals) (b := b.Vals) h5 (by omega)
          (fun fu => by unfold m_slices_Equal_Value_l2; rw [d_nlt (by omega)]; rfl)
          (fun fu i i1 i2 => by
            conv => lhs; unfold m_slices_Equal_Value_l2
            rw [d_lt (by omega), cond_true, geti_lt i1, obind_some, geti_lt i2, obind_some, same4, obind_some, inc_ok (by omega)]
            by_cases h : a.Vals[i] = b.Vals[i]
            · rw [decide_eq_true h, if_pos h]; rfl
            · rw [decide_eq_false h, if_neg h]; rfl)
        rw [show m_slices_Equal_Value_l2 a.Vals b.Vals 1152921504606846976 0 = some (decide (a.Vals = b.Vals)) from this, obind_some]
        congr 1
        exact decide_eq_decide.2 ⟨fun h => evEq h1.1 h1.2.1 h1.2.2 h4 h, fun h => by rw [h]⟩
      · rw [decide_eq_true (by omega), decide_eq_false (fun h : a = b => h5 (by rw [h]))]; rfl
    · rw [decide_eq_false h4, decide_eq_false (fun h : a = b => h4 (by rw [h]))]; rfl
  · rw [show (decide (a.Time = b.Time) && (decide (a.Source = b.Source) && (decide (a.Seq = b.Seq) && true))) = false by
      rw [Bool.eq_false_iff]; intro q; apply h1; simpa using q, decide_eq_false (fun h : a = b => h1 (by rw [h]; exact ⟨rfl, rfl, rfl⟩))]; rfl
abbrev kC (c : GCommand) : Nat := c.Kind.toNat
/-- A command's parts, as a law lays them. -/
structure cmO (c : GCommand) : Prop where
  T : c.Text.length ≤ 700
  A : -9223372036854775808 ≤ c.A ∧ c.A ≤ 9223372036854775807
  B : -9223372036854775808 ≤ c.B ∧ c.B ≤ 9223372036854775807
  E : evO c.E
theorem has_ok (c : GCommand) (h : kC c ≤ 7) : m_script_Command_has c 1 = some (decide (kC c = 1)) ∧ m_script_Command_has c 2 = some (decide (kC c = 3)) ∧ m_script_Command_has c 4 = some (decide (4 ≤ kC c)) ∧ m_script_Command_has c 8 = some (decide (kC c = 4)) := by
  unfold m_script_Command_has
  have e : c.Kind.toNat = kC c := rfl
  rw [e]
  generalize kC c = k at h
  have k7 : k = 0 ∨ k = 1 ∨ k = 2 ∨ k = 3 ∨ k = 4 ∨ k = 5 ∨ k = 6 ∨ k = 7 := by omega
  rcases k7 with rfl | rfl | rfl | rfl | rfl | rfl | rfl | rfl <;> decide +kernel
theorem kind_ok (c : GCommand) : m_script_Command_kind c = some (decide (1 ≤ kC c ∧ kC c ≤ 7)) := by
  unfold m_script_Command_kind
  have e : c.Kind.toNat = kC c := rfl
  rw [e]
  by_cases a : 1 ≤ kC c
  · rw [decide_eq_true (by omega), cond_true]
    congr 1
    exact decide_eq_decide.2 (by omega)
  · rw [decide_eq_false (by omega), cond_false, decide_eq_false (by omega)]
def morC (c : GCommand) : Bool := (!decide (kC c = 1) && decide (c.Text ≠ [])) || (!decide (kC c = 3) && !decide (c.E = zeroE)) || (!decide (4 ≤ kC c) && decide (c.A ≠ 0)) || (!decide (kC c = 4) && decide (c.B ≠ 0))
theorem more_ok {c : GCommand} (h : kC c ≤ 7) (hL : c.E.Vals.length ≤ 1000000) : m_script_Command_more c = some (morC c) := by
  obtain ⟨h1, h2, h4, h8⟩ := has_ok c h
  unfold m_script_Command_more morC
  rw [sc_esame hL (by simp), obind_some]
  simp only [h1, h2, h4, h8, obind_some]
  rw [show (GEvent.mk 0 0 0 ([] : List UInt8) ([] : List GValue)) = zeroE from rfl]
  cases decide (kC c = 1) <;> cases decide (kC c = 3) <;> cases decide (4 ≤ kC c) <;> cases decide (kC c = 4) <;> cases decide (c.Text ≠ []) <;> cases decide (c.E = zeroE) <;> cases decide (c.A ≠ 0) <;> cases decide (c.B ≠ 0) <;> rfl
/-- May a command be? -/
def chkC (p : List GType) (c : GCommand) : Int := if schC p ≠ 0 then 2 else if ¬ (1 ≤ kC c ∧ kC c ≤ 7) then 11 else if kC c = 1 ∧ 600 < c.Text.length then 5 else if kC c = 3 ∧ evC p c.E ≠ 0 then evC p c.E else if morC c = true then 2 else 0
theorem ccheck_ok {p : List GType} {c : GCommand} (hp : scB p) (hc : cmO c) : m_script_Check p c = some (chkC p c) := by
  unfold m_script_Check m_script_Check_j3 m_script_Check_j6 chkC
  have hL := hc.E.L
  rw [scheck_ok hp.L' hp.F, obind_some]
  by_cases s : schC p = 0
  · rw [decide_eq_false (by simp [s]), cond_false, if_neg (by simp [s]), kind_ok, obind_some]
    by_cases k : 1 ≤ kC c ∧ kC c ≤ 7
    · obtain ⟨h1, h2, h4, h8⟩ := has_ok c k.2
      rw [decide_eq_true k, Bool.not_true, cond_false, if_neg (by simp [k]), h1, obind_some, h2, obind_some, echeck_ok hp hc.E, more_ok k.2 (by omega)]
      simp only [obind_some]
      have fin : (cond (morC c) (some (2 : Int)) (some 0)) = some (if morC c = true then 2 else 0) := by cases morC c <;> rfl
      rw [fin]
      by_cases a : kC c = 1
      · rw [decide_eq_true a, cond_true, decide_eq_false (p := kC c = 3) (by omega), cond_false]
        by_cases b : 600 < c.Text.length
        · rw [d_lt (by omega), if_pos (show kC c = 1 ∧ 600 < c.Text.length from ⟨a, b⟩)]; rfl
        · rw [d_nlt (by omega), cond_false, if_neg (show ¬ (kC c = 1 ∧ 600 < c.Text.length) from fun h => b h.2), if_neg (show ¬ (kC c = 3 ∧ evC p c.E ≠ 0) from fun h => by have := h.1; omega)]
      · rw [decide_eq_false a, cond_false, if_neg (show ¬ (kC c = 1 ∧ 600 < c.Text.length) from fun h => a h.1)]
        by_cases b : kC c = 3
        · rw [decide_eq_true b, cond_true]
          by_cases d : evC p c.E = 0
          · rw [decide_eq_false (by simp [d]), cond_false, if_neg (show ¬ (kC c = 3 ∧ evC p c.E ≠ 0) from fun h => h.2 d)]
          · rw [decide_eq_true d, cond_true, if_pos (show kC c = 3 ∧ evC p c.E ≠ 0 from ⟨b, d⟩)]
        · rw [decide_eq_false b, cond_false, if_neg (show ¬ (kC c = 3 ∧ evC p c.E ≠ 0) from fun h => b h.1)]
    · rw [decide_eq_false k, if_pos k]; rfl
  · rw [decide_eq_true s, if_pos s]; rfl
theorem rccheck_ok {p : List GType} {c : GCommand} (hp : scB p) (hc : cmO c) : m_r37_Check p c = some (chkC p c) := by
  unfold m_r37_Check m_r37_Check_j3 m_r37_Check_j5 m_r37_Check_j7 m_r37_Check_j8 m_r37_Check_j9 chkC
  have hL := hc.E.L
  have e : c.Kind.toNat = kC c := rfl
  rw [rscheck_ok hp.L' hp.F, obind_some, recheck_ok hp hc.E, rsame_ok (a := c.E) (b := GEvent.mk 0 0 0 [] []) (by omega) (by simp)]
  simp only [obind_some, e]
  have d1 : decide (((kC c : Nat) : Int) ≠ 1) = !decide (kC c = 1) := by rw [← decide_not]; exact decide_eq_decide.2 (by omega)
  have d3 : decide (((kC c : Nat) : Int) ≠ 3) = !decide (kC c = 3) := by rw [← decide_not]; exact decide_eq_decide.2 (by omega)
  have d4 : decide (((kC c : Nat) : Int) ≠ 4) = !decide (kC c = 4) := by rw [← decide_not]; exact decide_eq_decide.2 (by omega)
  have d5 : decide (((kC c : Nat) : Int) < 4) = !decide (4 ≤ kC c) := by rw [← decide_not]; exact decide_eq_decide.2 (by omega)
  have e1 : decide (((kC c : Nat) : Int) = 1) = decide (kC c = 1) := decide_eq_decide.2 (by omega)
  have e3 : decide (((kC c : Nat) : Int) = 3) = decide (kC c = 3) := decide_eq_decide.2 (by omega)
  rw [d1, d3, d4, d5, e1, e3, show (GEvent.mk 0 0 0 ([] : List UInt8) ([] : List GValue)) = zeroE from rfl]
  by_cases s : schC p = 0
  · rw [decide_eq_false (by simp [s]), cond_false, if_neg (by simp [s])]
    by_cases k : 1 ≤ kC c ∧ kC c ≤ 7
    · rw [d_nlt (by omega), cond_false, d_nlt (by omega), cond_false, if_neg (by simp [k])]
      have fin : (cond (!decide (kC c = 1)) (cond (decide (c.Text ≠ ([] : List UInt8))) (some (2 : Int)) (cond (!decide (kC c = 3)) (cond (!decide (c.E = zeroE)) (some 2) (cond (!decide (4 ≤ kC c)) (cond (decide (c.A ≠ 0)) (some 2) (cond (!decide (kC c = 4)) (cond (decide (c.B ≠ 0)) (some 2) (some 0)) (some 0))) (cond (!decide (kC c = 4)) (cond (decide (c.B ≠ 0)) (some 2) (some 0)) (some 0)))) (cond (!decide (4 ≤ kC c)) (cond (decide (c.A ≠ 0)) (some 2) (cond (!decide (kC c = 4)) (cond (decide (c.B ≠ 0)) (some 2) (some 0)) (some 0))) (cond (!decide (kC c = 4)) (cond (decide (c.B ≠ 0)) (some 2) (some 0)) (some 0))))) (cond (!decide (kC c = 3)) (cond (!decide (c.E = zeroE)) (some 2) (cond (!decide (4 ≤ kC c)) (cond (decide (c.A ≠ 0)) (some 2) (cond (!decide (kC c = 4)) (cond (decide (c.B ≠ 0)) (some 2) (some 0)) (some 0))) (cond (!decide (kC c = 4)) (cond (decide (c.B ≠ 0)) (some 2) (some 0)) (some 0)))) (cond (!decide (4 ≤ kC c)) (cond (decide (c.A ≠ 0)) (some 2) (cond (!decide (kC c = 4)) (cond (decide (c.B ≠ 0)) (some 2) (some 0)) (some 0))) (cond (!decide (kC c = 4)) (cond (decide (c.B ≠ 0)) (some 2) (some 0)) (some 0))))) = some (if morC c = true then 2 else 0) := by
        unfold morC
        cases decide (kC c = 1) <;> cases decide (kC c = 3) <;> cases decide (4 ≤ kC c) <;> cases decide (kC c = 4) <;> cases decide (c.Text ≠ []) <;> cases decide (c.E = zeroE) <;> cases decide (c.A ≠ 0) <;> cases decide (c.B ≠ 0) <;> rfl
      rw [fin]
      by_cases a : kC c = 1
      · rw [decide_eq_true a, cond_true, decide_eq_false (p := kC c = 3) (by omega), cond_false]
        by_cases b : 600 < c.Text.length
        · rw [d_lt (by omega), if_pos (show kC c = 1 ∧ 600 < c.Text.length from ⟨a, b⟩)]; rfl
        · rw [d_nlt (by omega), cond_false, if_neg (show ¬ (kC c = 1 ∧ 600 < c.Text.length) from fun h => b h.2), if_neg (show ¬ (kC c = 3 ∧ evC p c.E ≠ 0) from fun h => by have := h.1; omega)]
      · rw [decide_eq_false a, cond_false, if_neg (show ¬ (kC c = 1 ∧ 600 < c.Text.length) from fun h => a h.1)]
        by_cases b : kC c = 3
        · rw [decide_eq_true b, cond_true]
          by_cases d : evC p c.E = 0
          · rw [decide_eq_false (by simp [d]), cond_false, if_neg (show ¬ (kC c = 3 ∧ evC p c.E ≠ 0) from fun h => h.2 d)]
          · rw [decide_eq_true d, cond_true, if_pos (show kC c = 3 ∧ evC p c.E ≠ 0 from ⟨b, d⟩)]
        · rw [decide_eq_false b, cond_false, if_neg (show ¬ (kC c = 3 ∧ evC p c.E ≠ 0) from fun h => b h.1)]
    · rw [if_pos k]
      by_cases a : kC c < 1
      · rw [d_lt (by omega)]; rfl
      · rw [d_nlt (by omega), cond_false, d_lt (by omega)]; rfl
  · rw [decide_eq_true s, if_pos s]; rfl
/-! ### a command's bytes -/
def cmS (p : List GType) (c : GCommand) : List UInt8 := c.Kind :: (if kC c = 1 then beb 2 c.Text.length ++ c.Text else if kC c = 3 then evB' p c.E else (if 4 ≤ kC c then zb (zfold c.A) else []) ++ (if kC c = 4 then zb (zfold c.B) else []))
def putC' (b : List UInt8) (p : List GType) (c : GCommand) : List UInt8 × Int := if chkC p c ≠ 0 then ([], chkC p c) else (b ++ cmS p c, 0)
theorem chk_parts {p : List GType} {c : GCommand} (h : chkC p c = 0) : schC p = 0 ∧ (1 ≤ kC c ∧ kC c ≤ 7) ∧ (kC c = 1 → c.Text.length ≤ 600) ∧ (kC c = 3 → evC p c.E = 0) ∧ morC c = false := by
  unfold chkC at h
  by_cases s : schC p = 0
  · rw [if_neg (by simp [s])] at h
    by_cases k : 1 ≤ kC c ∧ kC c ≤ 7
    · rw [if_neg (by simp [k])] at h
      by_cases a : kC c = 1 ∧ 600 < c.Text.length
      · rw [if_pos a] at h; omega
      rw [if_neg a] at h
      by_cases b : kC c = 3 ∧ evC p c.E ≠ 0
      · rw [if_pos b] at h; exact absurd h b.2
      rw [if_neg b] at h
      refine ⟨s, k, fun q => by omega, fun q => Classical.byContradiction fun r => b ⟨q, r⟩, ?_⟩
      cases hm : morC c with
      | false => rfl
      | true => rw [hm] at h; simp at h
    · rw [if_pos k] at h; omega
  · rw [if_pos s] at h; omega
theorem chk_of_parts {p : List GType} {c : GCommand} (s : schC p = 0) (k : 1 ≤ kC c ∧ kC c ≤ 7) (a : kC c = 1 → c.Text.length ≤ 600) (b : kC c = 3 → evC p c.E = 0) (m : morC c = false) : chkC p c = 0 := by
  unfold chkC
  rw [if_neg (by simp [s]), if_neg (by simp [k]), if_neg (fun q => by have := a q.1; omega), if_neg (fun q => q.2 (b q.1)), if_neg (by simp [m])]
theorem rnum2_ok {b : List UInt8} {n : Nat} (hb : b.length ≤ 900000) (hn : n < 65536) : m_r01_Num b 2 (n : Int) = some (b ++ beb 2 n, 0) := by
  have e1 : Int.tmod (n : Int) 256 = ((n % 256 : Nat) : Int) := (Int.ofNat_tmod _ _).symm
  have e2 : Int.tdiv (n : Int) 256 = ((n / 256 : Nat) : Int) := (Int.ofNat_tdiv _ _).symm
  have e3 : Int.tmod ((n / 256 : Nat) : Int) 256 = ((n / 256 % 256 : Nat) : Int) := (Int.ofNat_tmod _ _).symm
  have e4 : Int.tdiv ((n / 256 : Nat) : Int) 256 = ((n / 256 / 256 : Nat) : Int) := (Int.ofNat_tdiv _ _).symm
  have tu : ∀ k : Nat, toU8 (k : Int) = UInt8.ofNat (k % 256) := fun k => by unfold toU8; rw [show ((k : Int) % 256).toNat = k % 256 by omega]
  unfold m_r01_Num
  rw [d_nlt (by omega), cond_false, d_nlt (by omega), cond_false, d_nlt (by omega), cond_false]
  show m_r01_Num_l1 b 2 (1152921504606846975 + 1) _ _ 0 = _
  unfold m_r01_Num_l1
  rw [d_lt (by omega), cond_true, app_ok (by simp), obind_some, e1, e2, tu]
  show m_r01_Num_l1 b 2 (1152921504606846974 + 1) _ _ _ = _
  unfold m_r01_Num_l1
  rw [w64 (n := 0 + 1) (by omega) (by omega), d_lt (by omega), cond_true, app_ok (by simp), obind_some, w64 (n := ((n / 256 : Nat) : Int)) (by omega) (by omega), e3, e4, tu]
  show m_r01_Num_l1 b 2 (1152921504606846973 + 1) _ _ _ = _
  unfold m_r01_Num_l1
  rw [w64 (n := 0 + 1 + 1) (by omega) (by omega), d_nlt (by omega), cond_false, w64 (by omega) (by omega), d_nlt (by omega), cond_false, app_ok (by simp; omega), obind_some, app_ok (by simp; omega), obind_some]
  simp [beb, Nat.mod_mod]
theorem rtext_ok {b s : List UInt8} (hb : b.length ≤ 900000) (hs : s.length < 65536) : m_r01_Text b s = some (b ++ beb 2 s.length ++ s, 0) := by
  unfold m_r01_Text
  rw [rnum2_ok hb hs, obind_some]
  simp only
  rw [decide_eq_false (by simp), cond_false, app_ok (by simp [beb_length]; omega), obind_some]
theorem otext_ok {b s : List UInt8} (hb : b.length ≤ 900000) (hs : s.length < 65536) : m_octet_Text b s = some (b ++ beb 2 s.length ++ s, 0) := by
  unfold m_octet_Text
  rw [chk_ok ⟨by omega, by omega⟩, if_neg (by omega), if_neg (by omega)]
theorem cput_ok {b : List UInt8} {p : List GType} {c : GCommand} (hb : b.length ≤ 400000) (hp : scB p) (hc : cmO c) : m_script_Put b p c = some (putC' b p c) := by
  unfold m_script_Put m_script_Put_j10 putC'
  rw [ccheck_ok hp hc, obind_some]
  by_cases h : chkC p c = 0
  · obtain ⟨s, k, ht, he, _⟩ := chk_parts h
    obtain ⟨h1, h2, h4, h8⟩ := has_ok c k.2
    have em : mkc ((List.length b : Nat) : Int) (IntKind.i64.wrap (((List.length b : Nat) : Int) + 1)) (0 : UInt8) = some (List.replicate b.length 0) := by
      unfold mkc; rw [w64 (by omega) (by omega), if_pos (by omega), Int.toNat_natCast]
    have ec : cpy (List.replicate b.length (0 : UInt8)) b = some b := by
      unfold cpy; rw [if_pos (by simp), List.drop_of_length_le (by simp), List.append_nil]
    rw [decide_eq_false (by simp [h]), cond_false, if_neg (by simp [h]), em, obind_some, ec, obind_some, app_ok (by simp; omega), obind_some, h1, obind_some, h2, obind_some, h4, obind_some, h8]
    unfold cmS
    by_cases a : kC c = 1
    · have := ht a
      rw [decide_eq_true a, cond_true, otext_ok (by simp; omega) (by omega), obind_some, if_pos a]
      simp
    rw [decide_eq_false a, cond_false, if_neg a]
    by_cases d : kC c = 3
    · rw [decide_eq_true d, cond_true, eput_ok (by simp; omega) hp hc.E, obind_some, if_pos d]
      unfold putE
      rw [if_neg (by simp [he d])]
      simp
    rw [decide_eq_false d, cond_false, if_neg d]
    have za := zn_le10 _ (zfold_lt c.A hc.A.1 hc.A.2)
    by_cases f : 4 ≤ kC c
    · rw [decide_eq_true f, cond_true, putint_ok (by simp; omega) hc.A.1 hc.A.2, obind_some, obind_some, if_pos f]
      by_cases g : kC c = 4
      · rw [decide_eq_true g, cond_true, putint_ok (by simp [zb_length]; omega) hc.B.1 hc.B.2, obind_some, if_pos g]
        simp
      · rw [decide_eq_false g, cond_false, if_neg g]
        simp
    · rw [decide_eq_false f, cond_false, if_neg f, obind_some, decide_eq_false (by omega), cond_false, if_neg (by omega)]
      simp
  · rw [decide_eq_true h, if_pos h]; rfl
theorem rcput_ok {b : List UInt8} {p : List GType} {c : GCommand} (hb : b.length ≤ 400000) (hp : scB p) (hc : cmO c) : m_r37_Put b p c = some (putC' b p c) := by
  unfold m_r37_Put m_r37_Put_j5 putC'
  have e : c.Kind.toNat = kC c := rfl
  rw [rccheck_ok hp hc, obind_some]
  by_cases h : chkC p c = 0
  · obtain ⟨s, k, ht, he, _⟩ := chk_parts h
    rw [decide_eq_false (by simp [h]), cond_false, if_neg (by simp [h]), app_ok (by simp; omega), obind_some, app_ok (by simp; omega), obind_some, e, List.nil_append]
    unfold cmS
    by_cases a : kC c = 1
    · have := ht a
      rw [decide_eq_true (by omega), cond_true, rtext_ok (by simp; omega) (by omega), obind_some, if_pos a]
      simp
    rw [decide_eq_false (by omega), cond_false, if_neg a]
    by_cases d : kC c = 3
    · rw [decide_eq_true (by omega), cond_true, reput_ok (by simp; omega) hp hc.E, obind_some, if_pos d]
      unfold putE
      rw [if_neg (by simp [he d])]
      simp
    rw [decide_eq_false (by omega), cond_false, if_neg d]
    have za := zfold_lt c.A hc.A.1 hc.A.2
    have zb' := zfold_lt c.B hc.B.1 hc.B.2
    have zl := zn_le10 _ za
    by_cases f : 4 ≤ kC c
    · rw [decide_eq_true (by omega), cond_true, rfold_ok hc.A.1 hc.A.2, obind_some, rput_ok (by simp; omega) za, obind_some, if_pos f]
      by_cases g : kC c = 4
      · rw [decide_eq_true (by omega), cond_true, rfold_ok hc.B.1 hc.B.2, obind_some, rput_ok (by simp [zb_length]; omega) zb', obind_some, if_pos g]
        simp
      · rw [decide_eq_false (by omega), cond_false, if_neg g]
        simp
    · rw [decide_eq_false (by omega), cond_false, if_neg f, decide_eq_false (by omega), cond_false, if_neg (by omega)]
      simp
  · rw [decide_eq_true h, if_pos h]; rfl
theorem cm_len {p : List GType} {c : GCommand} (hp : scB p) (hc : cmO c) (h : chkC p c = 0) : 1 ≤ (cmS p c).length ∧ (cmS p c).length ≤ 620 := by
  obtain ⟨s, k, ht, he, _⟩ := chk_parts h
  have za := zn_le10 _ (zfold_lt c.A hc.A.1 hc.A.2)
  have zb' := zn_le10 _ (zfold_lt c.B hc.B.1 hc.B.2)
  unfold cmS
  by_cases a : kC c = 1
  · have := ht a
    rw [if_pos a]; simp [beb_length]; omega
  rw [if_neg a]
  by_cases d : kC c = 3
  · have := evB_len hp (evC_zero (he d)) hc.E
    rw [if_pos d]; simp; omega
  rw [if_neg d]
  by_cases f : 4 ≤ kC c <;> by_cases g : kC c = 4 <;> simp [f, g, zb_length] <;> omega
/-! ### scripts -/
def wrL (p : List GType) : List GCommand → List UInt8 → List UInt8 × Int
  | [], b => (b, 0)
  | c :: r, b => if chkC p c ≠ 0 then ([], chkC p c) else wrL p r (b ++ cmS p c)
theorem wr_loop {p : List GType} {L : Nat → List UInt8 → Int → Option (List UInt8 × Int)} {l : List GCommand} (hp : scB p) (hl : l.length ≤ 400) (hO : ∀ c ∈ l, cmO c) (hend : ∀ fu b, L (fu + 1) b (l.length : Int) = some (b, 0))
    (hstep : ∀ fu b i (h : i < l.length), b.length ≤ 400000 → L (fu + 1) b (i : Int) = if chkC p l[i] ≠ 0 then some ([], chkC p l[i]) else L fu (b ++ cmS p l[i]) ((i + 1 : Nat) : Int)) :
    ∀ (fu i : Nat) (b : List UInt8), l.length - i < fu → i ≤ l.length → b.length ≤ 620 * i → L fu b (i : Int) = some (wrL p (l.drop i) b)
  | 0, i, b, h, _, _ => by omega
  | fu + 1, i, b, h, hi, hb => by
    by_cases c : i < l.length
    · rw [hstep fu b i c (by omega), drop_cons c, wrL]
      by_cases d : chkC p l[i] = 0
      · have := (cm_len hp (hO _ (List.getElem_mem c)) d).2
        rw [if_neg (by simp [d]), if_neg (by simp [d]), wr_loop hp hl hO hend hstep fu (i + 1) _ (by omega) (by omega) (by rw [List.length_append]; omega)]
      · rw [if_pos d, if_pos d]
    · obtain rfl : i = l.length := by omega
      rw [hend, List.drop_of_length_le (Nat.le_refl _)]; rfl
theorem write_ok {p : List GType} {l : List GCommand} (hp : scB p) (hl : l.length ≤ 400) (hO : ∀ c ∈ l, cmO c) : m_script_Write p l = some (wrL p l []) ∧ m_r37_Write p l = some (wrL p l []) := by
  constructor
  · unfold m_script_Write
    rw [d_nlt (by omega), cond_false]
    have := wr_loop (L := m_script_Write_l2 p l) hp hl hO (fun fu b => by unfold m_script_Write_l2; rw [d_nlt (by omega)]; rfl) (fun fu b i h hb => by
      conv => lhs; unfold m_script_Write_l2
      rw [d_lt (by omega), cond_true, geti_lt h, obind_some, cput_ok hb hp (hO _ (List.getElem_mem h)), obind_some, inc_ok (by omega)]
      unfold putC'
      by_cases d : chkC p l[i] = 0
      · rw [if_neg (by simp [d]), if_neg (by simp [d]), decide_eq_false (by simp)]; rfl
      · rw [if_pos d, if_pos d, decide_eq_true d]; rfl) 1152921504606846976 0 [] (by omega) (Nat.zero_le _) (by simp)
    exact this
  · unfold m_r37_Write
    rw [d_nlt (by omega), cond_false]
    have := wr_loop (L := m_r37_Write_l1 p l) hp hl hO (fun fu b => by unfold m_r37_Write_l1; rw [d_nlt (by omega)]; rfl) (fun fu b i h hb => by
      conv => lhs; unfold m_r37_Write_l1
      rw [d_lt (by omega), cond_true, geti_lt h, obind_some, rcput_ok hb hp (hO _ (List.getElem_mem h)), obind_some, inc_ok (by omega)]
      unfold putC'
      by_cases d : chkC p l[i] = 0
      · rw [if_neg (by simp [d]), if_neg (by simp [d]), decide_eq_false (by simp)]; rfl
      · rw [if_pos d, if_pos d, decide_eq_true d]; rfl) 1152921504606846976 0 [] (by omega) (Nat.zero_le _) (by simp)
    exact this
end Go.Proofs.YtaaooafcijdbmaaDoor.K

namespace Go.Proofs.YtaaooafcijdbmaaDoor.K
open Go.RowKit Go.Lib
theorem awk37 : m_w37_awake = some true := by decide +kernel
theorem over37_ok {l : List GCommand} {k : Int} (hk : k ≤ 1000000) (hw : wfL wf_GCommand l) : ∃ r, m_w37_Over l k = some r ∧ (r = 1 ∨ r = 0 ∧ (l.length : Int) ≤ k ∧ ∀ c ∈ l, cmO c) := by
  unfold m_w37_Over
  by_cases h : k < (l.length : Int)
  · rw [d_lt h]; exact ⟨1, rfl, .inl rfl⟩
  rw [d_nlt h, cond_false]
  have := loop1_0 (L := fun fu i => m_w37_Over_l1 l fu i) (n := l.length) (P := fun i o => ∃ r, o = some r ∧ (r = 1 ∨ r = 0 ∧ ∀ c ∈ l.drop i, cmO c)) (by omega)
    (fun fu => by unfold m_w37_Over_l1; rw [d_nlt (by omega)]; exact ⟨0, rfl, .inr ⟨rfl, by simp⟩⟩)
    (fun fu i hi ih => by
      have hwi := hw.2 l[i] (List.getElem_mem hi)
      unfold m_w37_Over_l1
      rw [d_lt (by omega), cond_true, geti_lt hi, obind_some]
      by_cases h1 : 700 < l[i].Text.length
      · rw [d_lt (by omega)]; exact ⟨1, rfl, .inl rfl⟩
      rw [d_nlt (by omega), cond_false, obind_some]
      obtain ⟨r0, e0, q0⟩ := over_ok (l := [l[i].E]) (k := 1) (by decide) (fun e he => by simp only [List.mem_singleton] at he; subst he; exact wf_evM hwi.E)
      rw [e0, obind_some]
      rcases q0 with rfl | ⟨rfl, _, q0⟩
      · rw [d_lt (by decide)]; exact ⟨1, rfl, .inl rfl⟩
      rw [d_nlt (by decide), cond_false, inc_ok (by omega)]
      obtain ⟨r, e, q⟩ := ih
      refine ⟨r, e, q.imp id fun ⟨q1, q2⟩ => ⟨q1, ?_⟩⟩
      rw [drop_cons hi]
      intro c hc
      rcases List.mem_cons.1 hc with rfl | hc
      · exact ⟨by omega, in_i64 hwi.A, in_i64 hwi.B, wf_evO hwi.E (q0 _ (by simp))⟩
      · exact q2 c hc)
  obtain ⟨r, e, q⟩ := this
  exact ⟨r, e, q.imp id fun q => ⟨q.1, by omega, by simpa using q.2⟩⟩
theorem own37_ok {l : List GCommand} (hl : l.length ≤ 1000) (hO : ∀ c ∈ l, cmO c) : m_w37_Own l = some l := by
  have := map_loop (L := fun fu s i => m_w37_Own_l0 l fu s i) (l := l) (f := id) (e := id) (by omega) (fun fu s => by unfold m_w37_Own_l0; rw [d_nlt (by omega)]; rfl)
    (fun fu s i h hs => by
      have hn := (hO l[i] (List.getElem_mem h)).E.L
      conv => lhs; unfold m_w37_Own_l0
      rw [d_lt (by omega), cond_true, geti_lt h, obind_some, own_ok (by omega), obind_some, app_ok (by simp; omega), obind_some, inc_ok (by omega)]; rfl)
  rw [List.map_id] at this; exact this
end Go.Proofs.YtaaooafcijdbmaaDoor.K

namespace Go.Proofs.YtaaooafcijdbmaaDoor.K
open Go.RowKit Go.Lib
theorem zt_step {l : List UInt8} {a b : Nat} (h : a + b ≤ l.length) : (ztk l ((a + b : Nat) : Int)).1 = (ztk (l.drop a) (b : Int)).1 ∧ (ztk l ((a + b : Nat) : Int)).2.2 = (ztk (l.drop a) (b : Int)).2.2 ∧ ((ztk (l.drop a) (b : Int)).2.2 = 0 → (ztk l ((a + b : Nat) : Int)).2.1 = a + (ztk (l.drop a) (b : Int)).2.1 ∧ a + (ztk (l.drop a) (b : Int)).2.1 ≤ l.length) := by
  have e := ztk_drop (l := l) (a := a) (b := b) h
  have p := ztk_place (l := l.drop a) (a := b) (by rw [List.length_drop]; omega)
  rw [List.length_drop] at p
  refine ⟨by rw [e], by rw [e], fun z => ?_⟩
  rw [e]
  simp only
  rw [if_pos z]
  exact ⟨rfl, by omega⟩
theorem tk4_drop {l : List UInt8} {a : Nat} (ha : a ≤ l.length) : tk4 l (a : Int) = match tk4 (l.drop a) 0 with
    | .inl e => .inl e
    | .inr (n0, n1, n2, n3, b) => .inr (n0, n1, n2, n3, a + b) := by
  unfold tk4
  obtain ⟨x0, y0, z0⟩ := zt_step (l := l) (a := a) (b := 0) (by omega)
  rw [Nat.add_zero, show (((0 : Nat)) : Int) = 0 from rfl] at x0 y0 z0
  rw [x0, y0]
  by_cases c0 : (ztk (l.drop a) 0).2.2 ≠ 0
  · rw [if_pos c0, if_pos c0]
  obtain ⟨w0, v0⟩ := z0 (by omega)
  rw [if_neg c0, if_neg c0, w0]
  generalize (ztk (l.drop a) 0).2.1 = b0 at v0
  generalize (ztk (l.drop a) 0).1 = n0
  obtain ⟨x1, y1, z1⟩ := zt_step (l := l) (a := a) (b := b0) (by omega)
  rw [x1, y1]
  by_cases c1 : (ztk (l.drop a) (b0 : Int)).2.2 ≠ 0
  · rw [if_pos c1, if_pos c1]
  obtain ⟨w1, v1⟩ := z1 (by omega)
  rw [if_neg c1, if_neg c1, w1]
  generalize (ztk (l.drop a) (b0 : Int)).2.1 = b1 at v1
  generalize (ztk (l.drop a) (b0 : Int)).1 = n1
  obtain ⟨x2, y2, z2⟩ := zt_step (l := l) (a := a) (b := b1) (by omega)
  rw [x2, y2]
  by_cases c2 : (ztk (l.drop a) (b1 : Int)).2.2 ≠ 0
  · rw [if_pos c2, if_pos c2]
  obtain ⟨w2, v2⟩ := z2 (by omega)
  rw [if_neg c2, if_neg c2, w2]
  generalize (ztk (l.drop a) (b1 : Int)).2.1 = b2 at v2
  generalize (ztk (l.drop a) (b1 : Int)).1 = n2
  obtain ⟨x3, y3, z3⟩ := zt_step (l := l) (a := a) (b := b2) (by omega)
  rw [x3, y3]
  by_cases c3 : (ztk (l.drop a) (b2 : Int)).2.2 ≠ 0
  · rw [if_pos c3, if_pos c3]
  obtain ⟨w3, v3⟩ := z3 (by omega)
  rw [if_neg c3, if_neg c3, w3]
theorem vt_step {l : List UInt8} {a b : Nat} (hl : l.length ≤ 100000) (h : a + b ≤ l.length) : (vtk l ((a + b : Nat) : Int)).1 = (vtk (l.drop a) (b : Int)).1 ∧ (vtk l ((a + b : Nat) : Int)).2.2 = (vtk (l.drop a) (b : Int)).2.2 ∧ ((vtk (l.drop a) (b : Int)).2.2 = 0 → ∃ c : Nat, (vtk l ((a + b : Nat) : Int)).2.1 = ((a + c : Nat) : Int) ∧ (vtk (l.drop a) (b : Int)).2.1 = (c : Int) ∧ a + c ≤ l.length) := by
  have e1 := vtk_drop (l := l) (a := a + b) h
  have e2 := vtk_drop (l := l.drop a) (a := b) (by rw [List.length_drop]; omega)
  rw [List.drop_drop] at e2
  refine ⟨by rw [e1, e2], by rw [e1, e2], fun z => ?_⟩
  obtain ⟨_, _, m, k, q1, q2, q3, _⟩ := vtk_good (l := l.drop a) (a := (b : Int)) (by rw [List.length_drop]; omega) z
  rw [List.length_drop] at q2
  refine ⟨m + k, ?_, q3, by omega⟩
  have z' : (vtk (l.drop (a + b)) 0).2.2 = 0 := by rw [e2] at z; exact z
  rw [e1]
  simp only
  rw [if_pos z']
  rw [e2] at q3
  simp only at q3
  rw [if_pos z'] at q3
  omega
theorem valsT_drop {l : List UInt8} {a : Nat} (hl : l.length ≤ 100000) : ∀ (k b : Nat) (vs : List GValue), a + b ≤ l.length → valsT l k ((a + b : Nat) : Int) vs = match valsT (l.drop a) k (b : Int) vs with
    | .inl e => .inl e
    | .inr (vs', c) => .inr (vs', (a : Int) + c)
  | 0, b, vs, h => by rw [valsT, valsT]; simp
  | k + 1, b, vs, h => by
    obtain ⟨x, y, z⟩ := vt_step hl h
    rw [valsT, valsT, x, y]
    by_cases c : (vtk (l.drop a) (b : Int)).2.2 ≠ 0
    · rw [if_pos c, if_pos c]
    · obtain ⟨d, w1, w2, w3⟩ := z (by omega)
      rw [if_neg c, if_neg c, w1, w2]
      exact valsT_drop hl k d _ w3
theorem tk4_place {l : List UInt8} {n0 n1 n2 n3 b : Nat} (h : tk4 l 0 = .inr (n0, n1, n2, n3, b)) : b ≤ l.length := (tk4_bytes h).1
theorem tk4_ne (l : List UInt8) (a : Int) : tk4 l a ≠ .inl 0 := by
  unfold tk4
  intro h
  split at h
  · rename_i c; exact c (Sum.inl.inj h)
  split at h
  · rename_i c; exact c (Sum.inl.inj h)
  split at h
  · rename_i c; exact c (Sum.inl.inj h)
  split at h
  · rename_i c; exact c (Sum.inl.inj h)
  cases h
theorem etk_drop {p : List GType} {l : List UInt8} {a : Nat} (hl : l.length ≤ 100000) (ha : a ≤ l.length) : etk p l (a : Int) = ((etk p (l.drop a) 0).1, if (etk p (l.drop a) 0).2.2 = 0 then (a : Int) + (etk p (l.drop a) 0).2.1 else 0, (etk p (l.drop a) 0).2.2) := by
  unfold etk
  by_cases s : schC p ≠ 0
  · rw [if_pos (.inl s), if_pos (.inl s)]; rfl
  rw [if_neg (by omega), if_neg (by simp at s ⊢; exact s), tk4_drop ha]
  have ne := tk4_ne (l.drop a) 0
  cases ht : tk4 (l.drop a) 0 with
  | inl e =>
    have : e ≠ 0 := fun q => ne (by rw [ht, q])
    simp only
    rw [if_neg (by omega)]
  | inr q =>
    obtain ⟨n0, n1, n2, n3, b⟩ := q
    have hb := tk4_place ht
    rw [List.length_drop] at hb
    simp only
    cases hp : p[n3]? with
    | none => rfl
    | some t =>
      simp only
      rw [valsT_drop hl _ b [] (by omega)]
      have ve := valsT_err (l := l.drop a) t.Fields.length (b : Int) []
      cases hv : valsT (l.drop a) t.Fields.length (b : Int) [] with
      | inl e =>
        have : e ≠ 0 := fun q => ve (by rw [hv, q])
        simp only
        rw [if_neg this]
      | inr q =>
        obtain ⟨vs, c⟩ := q
        simp only
        by_cases h : evC p (GEvent.mk (num40 n0) (num15 n1) (num40 n2) t.Name vs) ≠ 0
        · rw [if_pos h, if_pos h]
          simp only
          rw [if_neg h]
        · rw [if_neg h, if_neg h]
          simp
end Go.Proofs.YtaaooafcijdbmaaDoor.K

namespace Go.Proofs.YtaaooafcijdbmaaDoor.K
open Go.RowKit Go.Lib
theorem beb2 (n : Nat) : beb 2 n = beB 2 n := by simp [beb, beB]
/-- A text with its length ahead. -/
def strR (s : List UInt8) : Option (List UInt8) := if s.length < 2 ∨ s.length < 2 + beN 0 (s.take 2) then none else some ((s.drop 2).take (beN 0 (s.take 2)))
theorem ostr_ok {s : List UInt8} (hs : s.length ≤ 1000000) : match strR s with
    | none => ∃ g, m_octet_Reader_Str (GReader.mk s 0 0) = some (g, []) ∧ g.E = 3
    | some w => m_octet_Reader_Str (GReader.mk s 0 0) = some (GReader.mk s ((2 + w.length : Nat) : Int) 0, w) := by
  unfold m_octet_Reader_Str m_octet_Reader_take m_octet_Reader_Left m_octet_Reader_fail strR
  simp only
  rw [decide_eq_false (p := ((0 : Int) ≠ 0)) (by decide), cond_false, d_nlt (by decide), cond_false, d_nlt (by omega), cond_false, w64 (by omega) (by omega), obind_some, Int.sub_zero]
  by_cases h : s.length < 2
  · rw [d_lt (by omega), cond_true, if_pos (.inl h)]
    exact ⟨_, rfl, rfl⟩
  have e := cut_ok (l := s) (a := 0) (b := 2) (by omega) (by omega)
  rw [Int.natCast_zero] at e
  have bl := beN_lt (s.take 2) 0 0 (by decide)
  rw [List.length_take, Nat.min_eq_left (by omega)] at bl
  rw [d_nlt (by omega), cond_false, show IntKind.i64.wrap (0 + 2) = ((2 : Nat) : Int) by decide, e, obind_some, List.drop_zero, Nat.sub_zero, chk_ok (by simp; omega), word_l (g := GReader.mk s 0 0) (n := 2) (by simp; omega) (by simp) (by decide), obind_some]
  simp only
  have e2 : IntKind.i64.wrap ((beN 0 (s.take 2) : Nat) : Int) = ((beN 0 (s.take 2) : Nat) : Int) := w64 (by omega) (by omega)
  rw [decide_eq_false (p := ((0 : Int) ≠ 0)) (by decide), cond_false, d_nlt (by decide), cond_false, d_nlt (by omega), cond_false, obind_some, e2]
  rw [show IntKind.i64.wrap (((s.length : Nat) : Int) - (0 + 2)) = ((s.length - 2 : Nat) : Int) by rw [w64 (by omega) (by omega)]; omega]
  generalize beN 0 (s.take 2) = n at bl ⊢
  by_cases h2 : s.length < 2 + n
  · rw [d_lt (by omega), cond_true, if_pos (.inr h2)]
    exact ⟨_, rfl, rfl⟩
  have e3 := cut_ok (l := s) (a := 2) (b := 2 + n) (by omega) (by omega)
  rw [d_nlt (by omega), cond_false, if_neg (by omega), show IntKind.i64.wrap ((0 : Int) + 2 + ((n : Nat) : Int)) = ((2 + n : Nat) : Int) by rw [w64 (by omega) (by omega)]; omega]
  rw [show ((0 : Int) + 2) = ((2 : Nat) : Int) by decide, e3, obind_some]
  simp only
  have el : ((s.drop 2).take n).length = n := by simp; omega
  rw [el, show 2 + n - 2 = n by omega]
/-- The command at the head of some bytes. -/
def rdC (p : List GType) (k : UInt8) (t : List UInt8) : Int ⊕ (GCommand × Nat) :=
  if ¬ (1 ≤ k.toNat ∧ k.toNat ≤ 7) then .inl 11
  else if k.toNat = 1 then (match strR t with
    | none => .inl 3
    | some w => if 600 < w.length then .inl 5 else .inr (GCommand.mk k w 0 0 zeroE, 3 + w.length))
  else if k.toNat = 3 then (if (etk p t 0).2.2 ≠ 0 then .inl (etk p t 0).2.2 else .inr (GCommand.mk k [] 0 0 (etk p t 0).1, 1 + (etk p t 0).2.1.toNat))
  else if k.toNat = 2 then .inr (GCommand.mk k [] 0 0 zeroE, 1)
  else if (ztk t 0).2.2 ≠ 0 then .inl (((ztk t 0).2.2 : Nat) : Int)
  else if k.toNat = 4 then (if (ztk t (((ztk t 0).2.1 : Nat) : Int)).2.2 ≠ 0 then .inl (((ztk t (((ztk t 0).2.1 : Nat) : Int)).2.2 : Nat) : Int) else .inr (GCommand.mk k [] (zback (ztk t 0).1) (zback (ztk t (((ztk t 0).2.1 : Nat) : Int)).1) zeroE, 1 + (ztk t (((ztk t 0).2.1 : Nat) : Int)).2.1))
  else .inr (GCommand.mk k [] (zback (ztk t 0).1) 0 zeroE, 1 + (ztk t 0).2.1)
theorem etk_nn {p : List GType} {s : List UInt8} (hp : scB p) (hl : s.length ≤ 100000) (h : (etk p s 0).2.2 = 0) : ∃ m : Nat, (etk p s 0).2.1 = m ∧ m ≤ s.length ∧ evGood p (etk p s 0).1 ∧ evO (etk p s 0).1 ∧ evB' p (etk p s 0).1 = s.take m := by
  obtain ⟨g, o, m, e1, e2, e3⟩ := ev_take_put (e := (etk p s 0).1) (n := (etk p s 0).2.1) hp hl (Prod.ext rfl (Prod.ext rfl h))
  exact ⟨m, e1, e2, g, o, e3⟩
theorem words_ok {l : List UInt8} {a : Nat} (hl : l.length ≤ 100000) (ha : a ≤ l.length) : m_script_words l (a : Int) = match strR (l.drop a) with
    | none => some ([], (a : Int), 3)
    | some w => if 600 < w.length then some ([], (a : Int), 5) else some (w, ((a + (2 + w.length) : Nat) : Int), 0) := by
  unfold m_script_words m_octet_Open
  have e := cut_ok (l := l) (a := a) (b := l.length) ha (Nat.le_refl _)
  rw [e, obind_some, obind_some, List.take_of_length_le (by simp)]
  have h := ostr_ok (s := l.drop a) (by simp; omega)
  have hw : ∀ w, strR (l.drop a) = some w → w.length ≤ 100000 := fun w q => by
    unfold strR at q
    split at q
    · cases q
    · cases q; simp; omega
  cases q : strR (l.drop a) with
  | none =>
    rw [q] at h
    obtain ⟨g, h1, h2⟩ := h
    rw [h1, obind_some]
    simp only
    rw [h2, decide_eq_true (by decide)]; rfl
  | some w =>
    have := hw w q
    rw [q] at h
    simp only at h ⊢
    rw [h, obind_some]
    simp only
    rw [decide_eq_false (p := ((0 : Int) ≠ 0)) (by decide), cond_false]
    by_cases c : 600 < w.length
    · rw [d_lt (by omega), cond_true, if_pos c]
    · rw [d_nlt (by omega), cond_false, if_neg c, w64 (by omega) (by omega)]
      rw [show ((a : Nat) : Int) + ((2 + w.length : Nat) : Int) = ((a + (2 + w.length) : Nat) : Int) by omega]
theorem take_cmd {p : List GType} {l : List UInt8} {a : Nat} (hl : l.length ≤ 100000) (hp : scB p) (ha : a < l.length) : match rdC p l[a] (l.drop (a + 1)) with
    | .inl e => e ≠ 0 ∧ ∃ c n, m_script_take p l (a : Int) = some (c, n, e)
    | .inr (c, n) => m_script_take p l (a : Int) = some (c, ((a + n : Nat) : Int), 0) := by
  unfold m_script_take m_script_take_j4 m_script_take_j7 m_script_take_j10 rdC
  rw [geti_lt ha, obind_some, kind_ok, obind_some, w64 (by omega) (by omega), show ((a : Nat) : Int) + 1 = ((a + 1 : Nat) : Int) by omega]
  generalize l[a] = k
  have hk0 : ∀ e : GEvent, kC (GCommand.mk k [] 0 0 e) = k.toNat := fun _ => rfl
  rw [hk0]
  by_cases hk : 1 ≤ k.toNat ∧ k.toNat ≤ 7
  · have H : ∀ t x y e, _ := fun t x y e => has_ok (GCommand.mk k t x y e) hk.2
    have hkc : ∀ t x y e, kC (GCommand.mk k t x y e) = k.toNat := fun _ _ _ _ => rfl
    have h1 : ∀ t x y e, m_script_Command_has (GCommand.mk k t x y e) 1 = some (decide (k.toNat = 1)) := fun t x y e => (H t x y e).1
    have h2 : ∀ t x y e, m_script_Command_has (GCommand.mk k t x y e) 2 = some (decide (k.toNat = 3)) := fun t x y e => (H t x y e).2.1
    have h4 : ∀ t x y e, m_script_Command_has (GCommand.mk k t x y e) 4 = some (decide (4 ≤ k.toNat)) := fun t x y e => (H t x y e).2.2.1
    have h8 : ∀ t x y e, m_script_Command_has (GCommand.mk k t x y e) 8 = some (decide (k.toNat = 4)) := fun t x y e => (H t x y e).2.2.2
    have bi : ∀ {α β : Type} (x : α) (f : α → Option β), Option.bind (some x) f = f x := fun _ _ => rfl
    rw [decide_eq_true hk, if_neg (by simpa using hk)]
    simp only [Bool.not_true, cond_false, h1, h2, h4, h8, bi]
    by_cases k1 : k.toNat = 1
    · have k3 : ¬ k.toNat = 3 := by omega
      have k4 : ¬ k.toNat = 4 := by omega
      have k5 : ¬ 4 ≤ k.toNat := by omega
      rw [if_pos k1, decide_eq_true k1, decide_eq_false k3, decide_eq_false k4, decide_eq_false k5, cond_true, words_ok hl (by omega)]
      cases q : strR (l.drop (a + 1)) with
      | none => exact ⟨by decide, _, _, rfl⟩
      | some w =>
        simp only
        by_cases c : 600 < w.length
        · rw [if_pos c, if_pos c]; exact ⟨by decide, _, _, rfl⟩
        · rw [if_neg c, if_neg c]
          simp only [bi, cond_false]
          rw [show a + 1 + (2 + w.length) = a + (3 + w.length) by omega]
          rfl
    by_cases k3 : k.toNat = 3
    · have k4 : ¬ k.toNat = 4 := by omega
      have k5 : ¬ 4 ≤ k.toNat := by omega
      rw [if_neg k1, if_pos k3, decide_eq_false k1, decide_eq_true k3, decide_eq_false k4, decide_eq_false k5, cond_false, cond_true, etake_ok _ hl hp, etk_drop hl (by omega)]
      simp only [bi, cond_false, Bool.cond_self]
      by_cases c : (etk p (l.drop (a + 1)) 0).2.2 = 0
      · obtain ⟨m, e1, _⟩ := etk_nn hp (by rw [List.length_drop]; omega) c
        rw [if_neg (by simp [c]), if_pos c, c, e1]
        simp only
        rw [show ((a + 1 : Nat) : Int) + ((m : Nat) : Int) = ((a + (1 + Int.toNat (m : Int)) : Nat) : Int) by omega]
      · rw [if_pos c]
        exact ⟨c, _, _, rfl⟩
    by_cases k2 : k.toNat = 2
    · have k4 : ¬ k.toNat = 4 := by omega
      have k5 : ¬ 4 ≤ k.toNat := by omega
      rw [if_neg k1, if_neg k3, if_pos k2, decide_eq_false k1, decide_eq_false k3, decide_eq_false k4, decide_eq_false k5]
      rfl
    have k5 : 4 ≤ k.toNat := by omega
    obtain ⟨x0, y0, z0⟩ := zt_step (l := l) (a := a + 1) (b := 0) (by omega)
    rw [Nat.add_zero, show (((0 : Nat)) : Int) = 0 from rfl] at x0 y0 z0
    rw [if_neg k1, if_neg k3, if_neg k2, decide_eq_false k1, decide_eq_false k3, decide_eq_true k5, cond_false, cond_false, cond_true, takeint_ok (by omega)]
    simp only [bi]
    rw [x0, y0]
    by_cases c : (ztk (l.drop (a + 1)) 0).2.2 ≠ 0
    · rw [if_pos c, decide_eq_false (by omega), cond_false]
      exact ⟨by omega, _, _, rfl⟩
    obtain ⟨w0, v0⟩ := z0 (by omega)
    rw [if_neg c, decide_eq_true (by omega), cond_true, w0]
    obtain ⟨x1, y1, z1⟩ := zt_step (l := l) (a := a + 1) (b := (ztk (l.drop (a + 1)) 0).2.1) (by omega)
    by_cases k4 : k.toNat = 4
    · rw [if_pos k4, decide_eq_true k4, cond_true, takeint_ok (by omega)]
      simp only [bi]
      rw [x1, y1]
      by_cases d : (ztk (l.drop (a + 1)) (((ztk (l.drop (a + 1)) 0).2.1 : Nat) : Int)).2.2 ≠ 0
      · rw [if_pos d]
        exact ⟨by omega, _, _, rfl⟩
      · obtain ⟨w1, v1⟩ := z1 (by omega)
        rw [if_neg d, w1, show (ztk (l.drop (a + 1)) (((ztk (l.drop (a + 1)) 0).2.1 : Nat) : Int)).2.2 = 0 by omega, Nat.add_assoc]
        rfl
    · rw [if_neg k4, decide_eq_false k4, cond_false, show (ztk (l.drop (a + 1)) 0).2.2 = 0 by omega, Nat.add_assoc]
      rfl
  · rw [decide_eq_false hk, if_pos hk]
    exact ⟨by decide, _, _, rfl⟩
end Go.Proofs.YtaaooafcijdbmaaDoor.K

namespace Go.Proofs.YtaaooafcijdbmaaDoor.K
open Go.RowKit Go.Lib
theorem strR_some {s w : List UInt8} (h : strR s = some w) : 2 + w.length ≤ s.length ∧ s.take (2 + w.length) = beb 2 w.length ++ w := by
  unfold strR at h
  split at h
  · cases h
  rename_i c
  have c2 : 2 + beN 0 (s.take 2) ≤ s.length := by omega
  have bl := beB_beN 2 (s.take 2) (by simp; omega)
  generalize beN 0 (s.take 2) = n at h bl c2
  cases h
  have el : ((s.drop 2).take n).length = n := by simp; omega
  rw [el]
  exact ⟨c2, by rw [beb2, bl, List.take_add]⟩
theorem strR_put {w r : List UInt8} (h : w.length ≤ 600) : strR (beb 2 w.length ++ w ++ r) = some w := by
  have e1 : (beB 2 w.length ++ w ++ r).take 2 = beB 2 w.length := by rw [List.append_assoc, List.take_left' (beB_len 2 _)]
  have e2 : (beB 2 w.length ++ w ++ r).drop 2 = w ++ r := by rw [List.append_assoc, List.drop_left' (beB_len 2 _)]
  unfold strR
  rw [beb2, e1, e2, beN_beB 2 w.length (by simp only [Nat.reducePow]; omega), if_neg (by simp only [List.length_append, beB_len]; omega), List.take_left' rfl]
theorem morC_of {k : UInt8} {t : List UInt8} {x y : Int} {e : GEvent} (h1 : k.toNat ≠ 1 → t = []) (h3 : k.toNat ≠ 3 → e = zeroE) (h4 : k.toNat < 4 → x = 0) (h8 : k.toNat ≠ 4 → y = 0) : morC (GCommand.mk k t x y e) = false := by
  have hk : kC (GCommand.mk k t x y e) = k.toNat := rfl
  unfold morC
  rw [hk]
  have a1 : (!decide (k.toNat = 1) && decide (t ≠ [])) = false := by
    by_cases c : k.toNat = 1
    · simp [c]
    · simp [h1 c]
  have a3 : (!decide (k.toNat = 3) && !decide (e = zeroE)) = false := by
    by_cases c : k.toNat = 3
    · simp [c]
    · simp [h3 c]
  have a4 : (!decide (4 ≤ k.toNat) && decide (x ≠ 0)) = false := by
    by_cases c : 4 ≤ k.toNat
    · simp [c]
    · simp [h4 (by omega)]
  have a8 : (!decide (k.toNat = 4) && decide (y ≠ 0)) = false := by
    by_cases c : k.toNat = 4
    · simp [c]
    · simp [h8 c]
  simp only
  rw [a1, a3, a4, a8]; rfl
theorem evO_zero : evO zeroE := ⟨by decide, by decide, by decide, by decide, by simp⟩
theorem i0 : -9223372036854775808 ≤ (0 : Int) ∧ (0 : Int) ≤ 9223372036854775807 := by decide
theorem zz_good {t : List UInt8} {b : Nat} (h : (ztk t (b : Int)).2.2 = 0) : ∃ m : Nat, (ztk t (b : Int)).2.1 = b + m ∧ b + m ≤ t.length ∧ (t.drop b).take m = zb (ztk t (b : Int)).1 := by
  obtain ⟨m, k, e1, e2, e3, e4⟩ := ztk_good h
  obtain rfl : m = b := by omega
  exact ⟨k, e3, e2, e4⟩
/-- What was read may be, and has just these bytes. -/
theorem rdC_good {p : List GType} {k : UInt8} {t : List UInt8} {c : GCommand} {n : Nat} (hp : scB p) (hs : schC p = 0) (hl : t.length ≤ 100000) (h : rdC p k t = .inr (c, n)) : 1 ≤ n ∧ n ≤ t.length + 1 ∧ cmO c ∧ chkC p c = 0 ∧ (k :: t).take n = cmS p c := by
  unfold rdC at h
  by_cases hk : 1 ≤ k.toNat ∧ k.toNat ≤ 7
  · rw [if_neg (by simpa using hk)] at h
    by_cases k1 : k.toNat = 1
    · rw [if_pos k1] at h
      cases q : strR t with
      | none => rw [q] at h; cases h
      | some w =>
        rw [q] at h
        simp only at h
        by_cases c6 : 600 < w.length
        · rw [if_pos c6] at h; cases h
        rw [if_neg c6] at h
        obtain ⟨q1, q2⟩ := strR_some q
        cases h
        refine ⟨by omega, by omega, ⟨by simp only; omega, i0, i0, evO_zero⟩, chk_of_parts hs hk (fun _ => by simp only; omega) (fun q => ?_) (morC_of (fun q => absurd k1 q) (fun _ => rfl) (fun _ => rfl) fun _ => rfl), ?_⟩
        · have : k.toNat = 3 := q
          omega
        · unfold cmS
          rw [if_pos (show kC (GCommand.mk k w 0 0 zeroE) = 1 from k1), show 3 + w.length = (2 + w.length) + 1 by omega, List.take_succ_cons, q2]
    rw [if_neg k1] at h
    by_cases k3 : k.toNat = 3
    · rw [if_pos k3] at h
      by_cases c0 : (etk p t 0).2.2 ≠ 0
      · rw [if_pos c0] at h; cases h
      rw [if_neg c0] at h
      obtain ⟨m, e1, e2, g, o, e3⟩ := etk_nn hp hl (by omega : (etk p t 0).2.2 = 0)
      rw [e1, Int.toNat_natCast] at h
      generalize (etk p t 0).1 = e at h g o e3
      cases h
      refine ⟨by omega, by omega, ⟨by simp, i0, i0, o⟩, chk_of_parts hs hk (fun q => absurd q k1) (fun _ => g.zero) (morC_of (fun _ => rfl) (fun q => absurd k3 q) (fun _ => rfl) fun _ => rfl), ?_⟩
      unfold cmS
      rw [if_neg (show ¬ kC (GCommand.mk k [] 0 0 e) = 1 from k1), if_pos (show kC (GCommand.mk k [] 0 0 e) = 3 from k3), Nat.add_comm, List.take_succ_cons, e3]
    rw [if_neg k3] at h
    by_cases k2 : k.toNat = 2
    · rw [if_pos k2] at h
      cases h
      refine ⟨by omega, by omega, ⟨by simp, i0, i0, evO_zero⟩, chk_of_parts hs hk (fun q => absurd q k1) (fun q => absurd q k3) (morC_of (fun _ => rfl) (fun _ => rfl) (fun _ => rfl) fun _ => rfl), ?_⟩
      unfold cmS
      have e : kC (GCommand.mk k [] 0 0 zeroE) = 2 := k2
      rw [e]
      rfl
    rw [if_neg k2] at h
    by_cases c0 : (ztk t 0).2.2 ≠ 0
    · rw [if_pos c0] at h; cases h
    rw [if_neg c0] at h
    obtain ⟨m, e1, e2, e3⟩ := zz_good (t := t) (b := 0) (by simpa using c0)
    rw [Int.natCast_zero] at e1 e3
    have zl := ztk_lt t 0
    rw [Nat.zero_add] at e1 e2
    rw [List.drop_zero] at e3
    generalize (ztk t 0).1 = u at h e3 zl
    rw [e1] at h
    by_cases k4 : k.toNat = 4
    · rw [if_pos k4] at h
      by_cases c1 : (ztk t (m : Int)).2.2 ≠ 0
      · rw [if_pos c1] at h; cases h
      rw [if_neg c1] at h
      obtain ⟨m2, f1, f2, f3⟩ := zz_good (t := t) (b := m) (by simpa using c1)
      have zl2 := ztk_lt t (m : Int)
      generalize (ztk t (m : Int)).1 = u2 at h f3 zl2
      rw [f1] at h
      cases h
      refine ⟨by omega, by omega, ⟨by simp, ⟨zback_lo _ zl, zback_hi _ zl⟩, ⟨zback_lo _ zl2, zback_hi _ zl2⟩, evO_zero⟩, chk_of_parts hs hk (fun q => absurd q k1) (fun q => absurd q k3) (morC_of (fun _ => rfl) (fun _ => rfl) (fun q => by omega) fun q => absurd k4 q), ?_⟩
      unfold cmS
      have e : kC (GCommand.mk k [] (zback u) (zback u2) zeroE) = 4 := k4
      rw [e]
      simp only
      rw [zfold_back, zfold_back, if_neg (by decide), if_neg (by decide), if_pos (by decide)]
      simp only [if_true]
      rw [Nat.add_comm 1, List.take_succ_cons, List.take_add, e3, f3]
    · rw [if_neg k4] at h
      cases h
      have e : kC (GCommand.mk k [] (zback u) 0 zeroE) = k.toNat := rfl
      refine ⟨by omega, by omega, ⟨by simp, ⟨zback_lo _ zl, zback_hi _ zl⟩, i0, evO_zero⟩, chk_of_parts hs hk (fun q => absurd q k1) (fun q => absurd q k3) (morC_of (fun _ => rfl) (fun _ => rfl) (fun q => by omega) fun _ => rfl), ?_⟩
      unfold cmS
      rw [e]
      simp only
      rw [zfold_back, if_neg k1, if_neg k3, if_pos (by omega), if_neg k4, List.append_nil, Nat.add_comm 1, List.take_succ_cons, e3]
  · rw [if_pos hk] at h; cases h
/-- What was put is read. -/
theorem rdC_put {p : List GType} {c : GCommand} (r : List UInt8) (hp : scB p) (hc : cmO c) (h : chkC p c = 0) : ∃ t, cmS p c ++ r = c.Kind :: t ∧ rdC p c.Kind t = .inr (c, (cmS p c).length) := by
  obtain ⟨hs, hk, ht, he, hm⟩ := chk_parts h
  obtain ⟨k, tx, x, y, e⟩ := c
  have ek : kC (GCommand.mk k tx x y e) = k.toNat := rfl
  rw [ek] at hk ht he
  simp only at ht he
  have hmm := hm
  unfold morC at hm
  rw [ek] at hm
  simp only [Bool.or_eq_false_iff] at hm
  obtain ⟨⟨⟨m1, m3⟩, m4⟩, m8⟩ := hm
  have g1 : k.toNat ≠ 1 → tx = [] := fun q => by simpa [q] using m1
  have g3 : k.toNat ≠ 3 → e = zeroE := fun q => by simpa [q] using m3
  have g4 : k.toNat < 4 → x = 0 := fun q => by simpa [show ¬ 4 ≤ k.toNat by omega] using m4
  have g8 : k.toNat ≠ 4 → y = 0 := fun q => by simpa [q] using m8
  have zx := zfold_lt x hc.A.1 hc.A.2
  have zy := zfold_lt y hc.B.1 hc.B.2
  refine ⟨_, by unfold cmS; rw [List.cons_append], ?_⟩
  unfold rdC cmS
  rw [ek]
  simp only
  rw [if_neg (by simpa using hk)]
  by_cases k1 : k.toNat = 1
  · have := ht k1
    rw [if_pos k1, if_pos k1, strR_put this]
    simp only
    rw [if_neg (by omega), g3 (by omega), g4 (by omega), g8 (by omega)]
    simp only [List.length_cons, List.length_append, beb_length]
    rw [show 2 + tx.length + 1 = 3 + tx.length by omega]
  rw [if_neg k1, if_neg k1]
  have tn := g1 k1
  subst tn
  by_cases k3 : k.toNat = 3
  · have g := evC_zero (he k3)
    rw [if_pos k3, if_pos k3, ev_put_take r hp g hc.E]
    simp only
    rw [if_neg (by simp), g4 (by omega), g8 (by omega), Int.toNat_natCast, List.length_cons, Nat.add_comm]
  rw [if_neg k3, if_neg k3]
  have en := g3 k3
  subst en
  by_cases k2 : k.toNat = 2
  · rw [if_pos k2, if_neg (by omega), if_neg (by omega), g4 (by omega), g8 (by omega)]; rfl
  rw [if_neg k2, if_pos (show 4 ≤ k.toNat by omega)]
  have p0 := ztk_put (pre := []) (r := (if k.toNat = 4 then zb (zfold y) else []) ++ r) zx
  simp only [List.nil_append, List.length_nil, Nat.zero_add, Int.natCast_zero, ← List.append_assoc] at p0
  rw [p0]
  simp only
  rw [if_neg (by simp), zback_fold]
  by_cases k4 : k.toNat = 4
  · have p1 := ztk_put (pre := zb (zfold x)) (r := r) zy
    rw [zb_length, ← List.append_assoc] at p1
    rw [if_pos k4, if_pos k4, p1]
    simp only
    rw [if_neg (by simp), zback_fold, List.length_cons, List.length_append, zb_length, zb_length, Nat.add_comm]
  · rw [if_neg k4, if_neg k4, g8 k4, List.append_nil, List.length_cons, zb_length, Nat.add_comm]
end Go.Proofs.YtaaooafcijdbmaaDoor.K

namespace Go.Proofs.YtaaooafcijdbmaaDoor.K
open Go.RowKit Go.Lib
/-- The commands that some bytes are, at most so many. -/
def rdL (p : List GType) : Nat → List UInt8 → List GCommand × Nat × Int
  | _, [] => ([], 0, 0)
  | 0, _ :: _ => ([], 0, 5)
  | f + 1, k :: t => match rdC p k t with
    | .inl e => ([], 0, e)
    | .inr (c, n) => (c :: (rdL p f ((k :: t).drop n)).1, n + (rdL p f ((k :: t).drop n)).2.1, (rdL p f ((k :: t).drop n)).2.2)
theorem rd_loop {p : List GType} {l : List UInt8} {L : Nat → List GCommand → Int → Option (List GCommand × Int × Int)} (hp : scB p) (hs : schC p = 0) (hl : l.length ≤ 100000)
    (hend : ∀ fu s, L (fu + 1) s (l.length : Int) = some (s, (l.length : Int), 0))
    (hfull : ∀ fu s a (h : a < l.length), s.length = 400 → L (fu + 1) s (a : Int) = some (s, (a : Int), 5))
    (hbad : ∀ fu s a (h : a < l.length) e, s.length ≠ 400 → rdC p l[a] (l.drop (a + 1)) = .inl e → L (fu + 1) s (a : Int) = some (s, (a : Int), e))
    (hgood : ∀ fu s a (h : a < l.length) c n, s.length < 400 → rdC p l[a] (l.drop (a + 1)) = .inr (c, n) → L (fu + 1) s (a : Int) = L fu (s ++ [c]) ((a + n : Nat) : Int)) :
    ∀ (f fu a : Nat) (s : List GCommand), s.length + f = 400 → f < fu → a ≤ l.length → L fu s (a : Int) = some (s ++ (rdL p f (l.drop a)).1, ((a + (rdL p f (l.drop a)).2.1 : Nat) : Int), (rdL p f (l.drop a)).2.2)
  | f, 0, a, s, _, h, _ => by omega
  | 0, fu + 1, a, s, h1, _, ha => by
    by_cases c : a < l.length
    · rw [hfull fu s a c (by omega), drop_cons c, rdL]; simp
    · obtain rfl : a = l.length := by omega
      rw [hend, List.drop_of_length_le (Nat.le_refl _), rdL]; simp
  | f + 1, fu + 1, a, s, h1, h2, ha => by
    by_cases c : a < l.length
    · cases q : rdC p l[a] (l.drop (a + 1)) with
      | inl e => rw [hbad fu s a c e (by omega) q, drop_cons c, rdL, q]; simp
      | inr r =>
        obtain ⟨cm, n⟩ := r
        obtain ⟨n1, n2, _⟩ := rdC_good hp hs (by rw [List.length_drop]; omega) q
        rw [List.length_drop] at n2
        rw [hgood fu s a c cm n (by omega) q, rd_loop hp hs hl hend hfull hbad hgood f fu (a + n) _ (by simp; omega) (by omega) (by omega)]
        have e : rdL p (f + 1) (l.drop a) = (cm :: (rdL p f (l.drop (a + n))).1, n + (rdL p f (l.drop (a + n))).2.1, (rdL p f (l.drop (a + n))).2.2) := by
          rw [drop_cons c, rdL, q]
          simp only
          rw [← drop_cons c, List.drop_drop]
        rw [e]
        simp only
        rw [List.append_assoc, Nat.add_assoc]; rfl
    · obtain rfl : a = l.length := by omega
      rw [hend, List.drop_of_length_le (Nat.le_refl _), rdL]; simp
def rdA (p : List GType) (l : List UInt8) : List GCommand × Int × Int := if schC p ≠ 0 then ([], 0, 2) else ((rdL p 400 l).1, (((rdL p 400 l).2.1 : Nat) : Int), (rdL p 400 l).2.2)
theorem read_ok {p : List GType} {l : List UInt8} (hp : scB p) (hl : l.length ≤ 100000) : m_script_Read p l = some (rdA p l) := by
  have hL := hp.L
  unfold m_script_Read rdA
  rw [scheck_ok hp.L' hp.F, obind_some]
  by_cases s : schC p = 0
  · rw [decide_eq_false (by simp [s]), cond_false, if_neg (by simp [s])]
    have := rd_loop (L := m_script_Read_l1 p l) hp s hl
      (fun fu s => by unfold m_script_Read_l1; rw [d_nlt (by omega)]; rfl)
      (fun fu s a h hs => by unfold m_script_Read_l1; rw [d_lt (by omega), cond_true, decide_eq_true (by omega)]; rfl)
      (fun fu s a h e hs q => by
        have t := take_cmd hl hp h
        rw [q] at t
        obtain ⟨t0, c, n, t1⟩ := t
        unfold m_script_Read_l1
        rw [d_lt (by omega), cond_true, decide_eq_false (by omega), cond_false, t1, obind_some]
        simp only
        rw [decide_eq_true t0]; rfl)
      (fun fu s a h c n hs q => by
        have t := take_cmd hl hp h
        rw [q] at t
        simp only at t
        conv => lhs; unfold m_script_Read_l1
        rw [d_lt (by omega), cond_true, decide_eq_false (by omega), cond_false, t, obind_some]
        simp only
        rw [decide_eq_false (by decide), cond_false, app_ok (by simp; omega), obind_some]) 400 1152921504606846976 0 [] (by simp) (by omega) (by omega)
    simpa using this
  · rw [decide_eq_true s, if_pos s]; rfl
/-- The bytes of many. -/
def cmB (p : List GType) (l : List GCommand) : List UInt8 := l.flatMap (cmS p)
theorem rdL_put {p : List GType} (hp : scB p) : ∀ (f : Nat) (l : List GCommand), l.length ≤ f → (∀ c ∈ l, cmO c ∧ chkC p c = 0) → rdL p f (cmB p l) = (l, (cmB p l).length, 0)
  | f, [], _, _ => by
    have : cmB p [] = [] := rfl
    rw [this]; cases f <;> rfl
  | 0, c :: l, h, _ => by simp at h
  | f + 1, c :: l, h, hO => by
    have hc := hO c (by simp)
    obtain ⟨t, e1, e2⟩ := rdC_put (cmB p l) hp hc.1 hc.2
    have e : cmB p (c :: l) = cmS p c ++ cmB p l := by unfold cmB; rw [List.flatMap_cons]
    rw [e, e1, rdL, e2]
    simp only
    rw [← e1, List.drop_left' rfl, rdL_put hp f l (by simpa using h) fun x hx => hO x (by simp [hx])]
    simp only
    rw [List.length_append]
theorem wrL_good {p : List GType} : ∀ (l : List GCommand) (b : List UInt8), (∀ c ∈ l, chkC p c = 0) → wrL p l b = (b ++ cmB p l, 0)
  | [], b, _ => by rw [wrL]; simp [cmB]
  | c :: l, b, h => by
    rw [wrL, if_neg (by simp [h c (by simp)]), wrL_good l _ fun x hx => h x (by simp [hx])]
    unfold cmB; rw [List.flatMap_cons, List.append_assoc]
theorem wrL_bad {p : List GType} : ∀ (l : List GCommand) (b : List UInt8), (wrL p l b).2 ≠ 0 → (wrL p l b).1 = [] ∧ ∀ r b', wrL p (l ++ r) b' = ([], (wrL p l b).2)
  | [], b, h => by rw [wrL] at h; exact absurd rfl h
  | c :: l, b, h => by
    rw [wrL] at h ⊢
    by_cases d : chkC p c = 0
    · rw [if_neg (by simp [d])] at h ⊢
      obtain ⟨i1, i2⟩ := wrL_bad l _ h
      refine ⟨i1, fun r b' => ?_⟩
      rw [List.cons_append, wrL, if_neg (by simp [d]), i2]
    · rw [if_pos d] at h ⊢
      refine ⟨rfl, fun r b' => ?_⟩
      rw [List.cons_append, wrL, if_pos d]
theorem wrL_zero {p : List GType} : ∀ (l : List GCommand) (b : List UInt8), (wrL p l b).2 = 0 → ∀ c ∈ l, chkC p c = 0
  | [], b, h, c, hc => by cases hc
  | x :: l, b, h, c, hc => by
    rw [wrL] at h
    by_cases d : chkC p x = 0
    · rw [if_neg (by simp [d])] at h
      rcases List.mem_cons.1 hc with rfl | hc
      · exact d
      · exact wrL_zero l _ h c hc
    · rw [if_pos d] at h; exact absurd h d
end Go.Proofs.YtaaooafcijdbmaaDoor.K

namespace Go.Proofs.YtaaooafcijdbmaaDoor.K
open Go.RowKit Go.Lib
theorem cmB_lenP {p : List GType} (hp : scB p) : ∀ (l : List GCommand), (∀ c ∈ l, cmO c ∧ chkC p c = 0) → (cmB p l).length ≤ 620 * l.length
  | [], _ => by simp [cmB]
  | c :: l, h => by
    have h1 := (cm_len hp (h c (by simp)).1 (h c (by simp)).2).2
    have h2 := cmB_lenP hp l fun x hx => h x (by simp [hx])
    unfold cmB at h2 ⊢
    rw [List.flatMap_cons, List.length_append, List.length_cons]
    omega
theorem main_ScriptParts (p : List GType) (a b : List GCommand) (wp : wfL wf_GType p) (wa : wfL wf_GCommand a) (wb : wfL wf_GCommand b) : m_w37_ScriptParts p a b = some true := by
  unfold m_w37_ScriptParts m_w37_ScriptParts_j1
  rw [awk37]
  obtain ⟨r, e1, q⟩ := over06_ok wp.1 fun t ht => wf_tyM (wp.2 t ht)
  rw [e1, obind_some]
  rcases q with rfl | ⟨rfl, hp⟩
  · rfl
  obtain ⟨r2, e2, q2⟩ := over37_ok (l := a) (k := 10) (by decide) wa
  rw [d_nlt (by decide), cond_false, e2, obind_some]
  rcases q2 with rfl | ⟨rfl, la, oa⟩
  · rfl
  obtain ⟨r3, e3, q3⟩ := over37_ok (l := b) (k := 10) (by decide) wb
  rw [d_nlt (by decide), cond_false, e3, obind_some]
  rcases q3 with rfl | ⟨rfl, lb, ob⟩
  · rfl
  have oab : ∀ c ∈ a ++ b, cmO c := fun c hc => (List.mem_append.1 hc).elim (oa c) (ob c)
  rw [d_nlt (by decide), cond_false, own06_ok hp, obind_some, own37_ok (by omega) oa, obind_some, own37_ok (by omega) ob, obind_some, (write_ok hp (by omega) oa).1, obind_some, (write_ok hp (by omega) ob).1, obind_some, app_ok (by simp; omega), obind_some, app_ok (by simp; omega), obind_some, List.nil_append, (write_ok hp (by simp; omega) oab).1, obind_some]
  by_cases w : (wrL p a []).2 = 0
  · have za := wrL_zero a [] w
    rw [wrL_good a [] za, decide_eq_false (by simp), cond_false]
    simp only
    by_cases w2 : (wrL p b []).2 = 0
    · have zb := wrL_zero b [] w2
      have zab : ∀ c ∈ a ++ b, cmO c ∧ chkC p c = 0 := fun c hc => (List.mem_append.1 hc).elim (fun h => ⟨oa c h, za c h⟩) fun h => ⟨ob c h, zb c h⟩
      have hB := cmB_lenP hp (a ++ b) zab
      have hA := cmB_lenP hp a fun c hc => ⟨oa c hc, za c hc⟩
      have hb := cmB_lenP hp b fun c hc => ⟨ob c hc, zb c hc⟩
      have ecat : cmB p (a ++ b) = cmB p a ++ cmB p b := by unfold cmB; rw [List.flatMap_append]
      rw [List.length_append] at hB
      rw [wrL_good b [] zb, wrL_good (a ++ b) [] fun c hc => (zab c hc).2]
      simp only [List.nil_append]
      rw [decide_eq_false (p := ((0 : Int) ≠ 0)) (by decide), cond_false, w64 (by omega) (by omega)]
      by_cases l0 : a ++ b = []
      · obtain ⟨ra, rb⟩ := List.append_eq_nil_iff.1 l0
        subst ra; subst rb
        rfl
      · have ln : (a ++ b).length ≠ 0 := fun q => l0 (List.length_eq_zero_iff.1 q)
        rw [List.length_append] at ln
        obtain ⟨c, hc⟩ := List.exists_mem_of_ne_nil _ l0
        have hs := (chk_parts (zab c hc).2).1
        have e : rdA p (cmB p (a ++ b)) = (a ++ b, (((cmB p (a ++ b)).length : Nat) : Int), 0) := by
          unfold rdA
          rw [if_neg (by simp [hs]), rdL_put hp 400 (a ++ b) (by simp; omega) zab]
        rw [decide_eq_false (by omega), cond_false, read_ok hp (by omega), obind_some, e, decide_eq_true (p := ((0 : Int) = 0)) rfl, cond_true, app_ok (by omega), obind_some, decide_eq_true ecat, cond_true]
        simp only [decide_true, cond_true, obind_some]
        rw [decide_eq_true (by simp), cond_true]
    · have e : wrL p (a ++ b) [] = ([], (wrL p b []).2) := by
        have : ∀ (a : List GCommand) (x : List UInt8), (∀ c ∈ a, chkC p c = 0) → wrL p (a ++ b) x = ([], (wrL p b []).2) := by
          intro a
          induction a with
          | nil =>
            intro x _
            have := (wrL_bad b [] w2).2 [] x
            simpa using this
          | cons c a ih =>
            intro x h
            rw [List.cons_append, wrL, if_neg (by simp [h c (by simp)]), ih _ fun y hy => h y (by simp [hy])]
        exact this a [] za
      rw [decide_eq_true w2, cond_true, e]
      simp only
      have w3 : ¬ (wrL p b []).2 = 0 := w2
      simp only [w3, decide_false, decide_true, cond_true, cond_false]
      rfl
  · obtain ⟨b1, b2⟩ := wrL_bad a [] w
    rw [b2 b [], decide_eq_true w, cond_true]
    simp only
    simp only [decide_true, cond_true]
    rfl
end Go.Proofs.YtaaooafcijdbmaaDoor.K

namespace Go.Proofs.YtaaooafcijdbmaaDoor
open Go.ChangeShapes Go.WideShapes Go.ChangeAt Go.RowKit
def partL : List Nat := [0, 1, 0, 2, 12, 4, 4, 4]
theorem laid_list {H : Type} : (Rows.laid_telltale_script_parts : DataW H) = .agg (partL.map fun (n : Nat) => .lit (.int .u8 (n : Int))) := rfl
theorem partsType : (Tryd.prog.globals[0]?).map (·.type) = some 100 := by kernel_rfl
theorem gw_of_laid {W : World} (h : laidMet Tryd.prog Rows.scriptWritesRow.laid W) : K.GW (fun b => b < W.heap.size) W := by
  obtain ⟨ps, ⟨g, t, cs, fuel, p, q, hg, ht, hvar, hd, _, _⟩, _⟩ := h
  obtain rfl : 0 = g := Option.some.inj (Eq.trans (by kernel_rfl) hg)
  obtain rfl := Option.some.inj (partsType.symm.trans ht)
  obtain ⟨xs, m, _, hx, hlen, hxl, hi⟩ := DataW.trod_array Tryd.underlying100 hd
  have hc5 : Tryd.prog.cellsOf 5 = 1 := by kernel_rfl
  have hc : Tryd.prog.cellsOf 100 = 8 := by kernel_rfl
  rw [hc] at hlen
  have hmap : (partL.map fun (n : Nat) => (DataW.lit (.int .u8 (n : Int)) : DataW Unit)) = xs.map (·.1) := by
    have := (Prod.mk.inj hx).1
    rw [laid_list] at this
    exact DataW.agg.inj this
  have key : ∀ i : Nat, i < 8 → ∀ n : Nat, partL[i]? = some n → W.cell? ⟨0, i, none⟩ = some (.int .u8 (n : Int)) := fun i hlt n hn => by
    have h1 := hi i hlt
    rw [hc5, Nat.mul_one, List.getElem?_eq_getElem (by omega)] at h1
    obtain ⟨a, h2, h3, _⟩ := DataW.trod_int Tryd.underlying5 h1
    have h4 := congrArg (·[i]?) hmap
    simp only [List.getElem?_map, hn, Option.map_some, List.getElem?_eq_getElem (show i < xs.length by omega), h3, Option.some.injEq] at h4
    simp only [DataW.lit.injEq, Lit.int.injEq, true_and] at h4
    have h5 : ((n : Nat) : Int) = a := h4
    rw [World.var?_cell hg hvar i]
    have h6 := congrArg (·[0]?) h2
    simp only [List.getElem?_take, List.getElem?_drop] at h6
    simpa [h5] using h6
  have hsz : 0 < W.heap.size := by
    have := key 0 (by decide) 0 rfl
    unfold World.cell? at this
    cases hb : W.heap[0]? with
    | none => simp [hb] at this
    | some o => exact (Array.getElem?_eq_some_iff.1 hb).1
  intro g ds e
  match g, e with
  | 0, e =>
    cases e
    refine K.RepDs.of _ _ _ fun j c hj => ?_
    have hj8 : j < 8 := (List.getElem?_eq_some_iff.1 hj).1
    have : ∃ n, partL[j]? = some n ∧ c = .lit (.int .u8 (n : Int)) := by
      have j8 : j = 0 ∨ j = 1 ∨ j = 2 ∨ j = 3 ∨ j = 4 ∨ j = 5 ∨ j = 6 ∨ j = 7 := by omega
      rcases j8 with rfl | rfl | rfl | rfl | rfl | rfl | rfl | rfl <;> cases hj <;> exact ⟨_, rfl, rfl⟩
    obtain ⟨n, hn, rfl⟩ := this
    refine ⟨_, _, rfl, ?_, hsz, rfl, by unfold K.RepD; exact ⟨rfl, rfl⟩⟩
    rw [K.addr_add, Nat.zero_add, Nat.zero_add]
    exact key j hj8 n hn
  | g + 1, e => cases e
/-- The settled world, but the variable holds what the row lists. -/
def setParts : Obj → Obj
  | .cells _ t frozen => .cells (partL.map fun (n : Nat) => Value.int .u8 (n : Int)).toArray t frozen
  | o => o
theorem laid_met (os : Os) (args : Array Value) : laidMet Tryd.prog Rows.scriptWritesRow.laid (({ World.holding Tryd.prog os ⟨#[], #[], []⟩ with heap := (World.holding Tryd.prog os ⟨#[], #[], []⟩).heap.modify 0 setParts } : World).forCall (fun _ _ => 0) ⟨#[], args, []⟩).memory :=
  laidMet_of_run (ps := (List.range 8).map fun i => .cell 0 i) 12 (by kernel_rfl) (by kernel_rfl) (by kernel_rfl)
end Go.Proofs.YtaaooafcijdbmaaDoor
