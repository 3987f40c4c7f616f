/- Merged: ZigP ZigK Pzig Pzb. -/
import Derived.Lib.BitFns
import Derived.Test.YtkagljfmfjaleaaLM
import Derived.Test.YtkagljfmfjaleaaLp
namespace Go.Proofs.Ytkagljfmfjaleaa

def zs (u : Nat) : List Nat := if u < 128 then [u] else u % 128 :: zs (u / 128)
termination_by u
decreasing_by omega
theorem zs_lt {u : Nat} (h : u < 128) : zs u = [u] := by rw [zs, if_pos h]
theorem zs_ge {u : Nat} (h : ¬ u < 128) : zs u = u % 128 :: zs (u / 128) := by rw [zs, if_neg h]
def zn (u : Nat) : Nat := (zs u).length
theorem zn_lt {u : Nat} (h : u < 128) : zn u = 1 := by rw [zn, zs_lt h]; rfl
theorem zn_ge {u : Nat} (h : ¬ u < 128) : zn u = zn (u / 128) + 1 := by rw [zn, zs_ge h]; rfl
theorem zn_pos (u : Nat) : 1 ≤ zn u := by
  by_cases h : u < 128
  · rw [zn_lt h]; exact Nat.le_refl _
  · rw [zn_ge h]; omega
theorem zs_get : ∀ (u i : Nat), i < zn u → (zs u)[i]? = some (u / 128 ^ i % 128) := by
  intro u
  induction u using Nat.strongRecOn with
  | ind u ih =>
    intro i hi
    by_cases h : u < 128
    · rw [zn_lt h] at hi
      have : i = 0 := by omega
      subst this
      rw [zs_lt h]
      simp [Nat.mod_eq_of_lt h]
    · rw [zs_ge h]
      cases i with
      | zero => simp
      | succ i =>
        rw [zn_ge h] at hi
        rw [List.getElem?_cons_succ, ih (u / 128) (by omega) i (by omega), Nat.div_div_eq_div_mul, Nat.pow_succ, Nat.mul_comm 128]
theorem zn_le (k : Nat) : ∀ u, u < 128 ^ (k + 1) → zn u ≤ k + 1 := by
  induction k with
  | zero => intro u h; rw [zn_lt (by simpa using h)]; exact Nat.le_refl _
  | succ k ih =>
    intro u h
    by_cases hu : u < 128
    · rw [zn_lt hu]; omega
    · rw [zn_ge hu]
      have := ih (u / 128) (by rw [Nat.pow_succ] at h; omega)
      omega
theorem zn_le10 (u : Nat) (h : u < 18446744073709551616) : zn u ≤ 10 := zn_le 9 u (Nat.lt_of_lt_of_le h (by decide))
theorem zn_hi (u : Nat) : u < 128 ^ zn u := by
  induction u using Nat.strongRecOn with
  | ind u ih =>
    by_cases h : u < 128
    · rw [zn_lt h]; simpa using h
    · rw [zn_ge h, Nat.pow_succ]
      have := ih (u / 128) (by omega)
      omega
theorem zn_lo (u : Nat) (h : 1 < zn u) : 128 ^ (zn u - 1) ≤ u := by
  induction u using Nat.strongRecOn with
  | ind u ih =>
    by_cases hu : u < 128
    · rw [zn_lt hu] at h; omega
    · rw [zn_ge hu, Nat.add_sub_cancel]
      by_cases h1 : 1 < zn (u / 128)
      · have := ih (u / 128) (by omega) h1
        have e : zn (u / 128) = (zn (u / 128) - 1) + 1 := by omega
        rw [e, Nat.pow_succ]
        omega
      · have := zn_pos (u / 128)
        have e : zn (u / 128) = 1 := by omega
        rw [e]; omega
/-- The program's way to count: by the bits that a number needs. -/
theorem zn_bits (u : Nat) (h : u < 18446744073709551616) : max 1 ((Lib.bitLen u + 6) / 7) = zn u := by
  induction u using Nat.strongRecOn with
  | ind u ih =>
    by_cases hu : u < 128
    · rw [zn_lt hu]
      have := Lib.bitLen_le u 7 (by omega) (by simpa using hu)
      omega
    · rw [zn_ge hu, ← ih (u / 128) (by omega) (by omega)]
      have := Lib.bitLen_shift 7 u (by simpa using (by omega : 128 ≤ u)) h
      have e : (2 : Nat) ^ 7 = 128 := rfl
      rw [e] at this
      have h0 : 1 ≤ Lib.bitLen (u / 128) := by
        have := Lib.bitLen_half (u / 128) (by omega) (by omega)
        omega
      omega

/-- The byte at a place: the last one says that there is no more. -/
def zbyte (u n i : Nat) : UInt8 := if i + 1 = n then UInt8.ofNat (u / 128 ^ i % 128) else UInt8.ofNat (u / 128 ^ i % 128 + 128)
def zb (u : Nat) : List UInt8 := (List.range (zn u)).map (zbyte u (zn u))
theorem zb_length (u : Nat) : (zb u).length = zn u := by simp [zb]

/-- Folding. -/
def zfold (n : Int) : Nat := if n < 0 then (2 * (-(n + 1)) + 1).toNat else (2 * n).toNat
def zback (u : Nat) : Int := if u % 2 = 1 then -((u / 2 : Nat) : Int) - 1 else ((u / 2 : Nat) : Int)
theorem zfold_lt (n : Int) (h0 : -9223372036854775808 ≤ n) (h1 : n ≤ 9223372036854775807) : zfold n < 18446744073709551616 := by
  unfold zfold; split <;> omega
theorem zback_fold (n : Int) : zback (zfold n) = n := by
  unfold zback zfold; split <;> split <;> omega
theorem zfold_back (u : Nat) : zfold (zback u) = u := by
  unfold zback zfold; split <;> split <;> omega
theorem zback_lo (u : Nat) (h : u < 18446744073709551616) : -9223372036854775808 ≤ zback u := by unfold zback; split <;> omega
theorem zback_hi (u : Nat) (h : u < 18446744073709551616) : zback u ≤ 9223372036854775807 := by unfold zback; split <;> omega
end Go.Proofs.Ytkagljfmfjaleaa
namespace Go.Proofs.Ytkagljfmfjaleaa
set_option linter.unusedVariables false
/-- A number read off bytes, from place i on, u being what was read: the number, the place behind it, the error. -/
def tk (l : List UInt8) : Nat → Nat → Nat → Nat × Nat × Nat
  | 0, _, _ => (0, 0, 8)
  | f + 1, i, u => match l[i]? with
    | none => (0, 0, 3)
    | some c => if i = 9 ∧ 1 < c.toNat then (0, 0, 8) else if 0 < i ∧ c.toNat = 0 then (0, 0, 4) else
      if c.toNat < 128 then (u + c.toNat % 128 * 128 ^ i, i + 1, 0) else tk l f (i + 1) (u + c.toNat % 128 * 128 ^ i)
/-- The same from a place of a text. -/
def ztk (l : List UInt8) (a : Int) : Nat × Nat × Nat :=
  if a < 0 ∨ (l.length : Int) < a then (0, 0, 2) else
    let r := tk (l.drop a.toNat) 10 0 0
    (r.1, if r.2.2 = 0 then a.toNat + r.2.1 else 0, r.2.2)
def zgo (l : List UInt8) (a : Nat) (r : Nat × Nat × Nat) : Nat × Nat × Nat := (r.1, if r.2.2 = 0 then a + r.2.1 else 0, r.2.2)

theorem mul_in {v k c : Nat} (hv : v < 128 ^ k) (hk : k ≤ 9) (hc : c < 256) (h9 : k = 9 → c ≤ 1) : v + c % 128 * 128 ^ k < 18446744073709551616 ∧ v + c % 128 * 128 ^ k < 128 ^ (k + 1) := by
  have h128 : (128 : Nat) ^ k ≤ 128 ^ 9 := Nat.pow_le_pow_right (by decide) hk
  have e9 : (128 : Nat) ^ 9 = 9223372036854775808 := by decide
  refine ⟨?_, ?_⟩
  · by_cases hk9 : k = 9
    · subst hk9; have := h9 rfl; rw [e9] at *; omega
    · have h8 : (128 : Nat) ^ k ≤ 128 ^ 8 := Nat.pow_le_pow_right (by decide) (by omega)
      have e8 : (128 : Nat) ^ 8 = 72057594037927936 := by decide
      have h2 : c % 128 * 128 ^ k ≤ 127 * 128 ^ 8 := Nat.mul_le_mul (by omega) h8
      rw [e8] at h2; omega
  · rw [Nat.pow_succ]
    have : c % 128 * 128 ^ k ≤ 127 * 128 ^ k := (Nat.mul_le_mul_right _ (by omega))
    omega
theorem tk_lt (l : List UInt8) : ∀ (f i u : Nat), f + i = 10 → u < 128 ^ i → (tk l f i u).1 < 18446744073709551616
  | 0, _, _, _, _ => by simp [tk]
  | f + 1, i, u, h, hu => by
    rw [tk]
    cases l[i]? with
    | none => simp
    | some c =>
      simp only
      split
      · simp
      · split
        · simp
        · rename_i h1 h2
          have hc : c.toNat < 256 := UInt8.toNat_lt _
          have := mul_in hu (by omega) hc (by omega)
          split
          · exact this.1
          · exact tk_lt l f (i + 1) _ (by omega) this.2
theorem ztk_lt (l : List UInt8) (a : Int) : (ztk l a).1 < 18446744073709551616 := by
  unfold ztk
  split
  · decide
  · exact tk_lt _ 10 0 0 rfl (by decide)
theorem tk_err (l : List UInt8) : ∀ (f i u : Nat), (tk l f i u).2.2 ≠ 0 → (tk l f i u).1 = 0
  | 0, _, _, _ => by simp [tk]
  | f + 1, i, u, h => by
    rw [tk] at h ⊢
    cases hl : l[i]? with
    | none => rfl
    | some c =>
      rw [hl] at h
      simp only at h ⊢
      split at h
      · rw [if_pos ‹_›]
      · rw [if_neg ‹_›]
        split at h
        · rw [if_pos ‹_›]
        · rw [if_neg ‹_›]
          split at h
          · exact absurd rfl h
          · rw [if_neg ‹_›]; exact tk_err l f _ _ h
theorem ztk_err (l : List UInt8) (a : Int) (h : (ztk l a).2.2 ≠ 0) : (ztk l a).1 = 0 := by
  unfold ztk at h ⊢
  split
  · rfl
  · rename_i h1
    rw [if_neg h1] at h
    exact tk_err _ _ _ _ h
theorem zbyte_last {u n k : Nat} (h : k + 1 = n) : ((zbyte u n k).toNat : Int) = ((u / 128 ^ k % 128 : Nat) : Int) := by
  unfold zbyte; rw [if_pos h, UInt8.toNat_ofNat']; omega
theorem zbyte_more {u n k : Nat} (h : ¬ k + 1 = n) : ((zbyte u n k).toNat : Int) = ((u / 128 ^ k % 128 + 128 : Nat) : Int) := by
  unfold zbyte; rw [if_neg h, UInt8.toNat_ofNat']; omega
theorem zb_get (u : Nat) {i : Nat} (h : i < zn u) : (zb u)[i]? = some (zbyte u (zn u) i) := by
  simp [zb, h]
theorem zbyte_toNat_last {u n k : Nat} (h : k + 1 = n) : (zbyte u n k).toNat = u / 128 ^ k % 128 := by
  have := zbyte_last (u := u) h; omega
theorem zbyte_toNat_more {u n k : Nat} (h : ¬ k + 1 = n) : (zbyte u n k).toNat = u / 128 ^ k % 128 + 128 := by
  have := zbyte_more (u := u) h; omega
theorem digit_join (u k : Nat) : u % 128 ^ k + u / 128 ^ k % 128 * 128 ^ k = u % 128 ^ (k + 1) := by
  rw [Nat.pow_succ, Nat.mod_mul, Nat.mul_comm (128 ^ k)]
/-- Reading on, k bytes of u having been read. -/
theorem tk_zb (u : Nat) (hu : u < 18446744073709551616) (l : List UInt8) (hl : ∀ i, i < zn u → l[i]? = some (zbyte u (zn u) i)) :
    ∀ (m k : Nat), m + k = zn u → 0 < m → tk l (10 - k) k (u % 128 ^ k) = (u, zn u, 0) := by
  intro m
  induction m with
  | zero => intro k _ h; omega
  | succ m ih =>
    intro k hk _
    have h10 := zn_le10 u hu
    have hkn : k < zn u := by omega
    rw [show 10 - k = (9 - k) + 1 by omega, tk, hl k hkn]
    simp only
    have h9 : k = 9 → u / 128 ^ k % 128 ≤ 1 := by
      rintro rfl
      have e9 : (128 : Nat) ^ 9 = 9223372036854775808 := by decide
      rw [e9]; omega
    by_cases hlast : k + 1 = zn u
    · rw [zbyte_toNat_last hlast]
      have hlt : u / 128 ^ k < 128 := by
        have := zn_hi u
        rw [← hlast, Nat.pow_succ, Nat.mul_comm] at this
        exact Nat.div_lt_of_lt_mul (by rwa [Nat.mul_comm] at this)
      have hmod : u / 128 ^ k % 128 = u / 128 ^ k := Nat.mod_eq_of_lt hlt
      rw [if_neg (by rintro ⟨h1, h2⟩; have := h9 h1; omega), if_neg, if_pos (by omega)]
      · rw [hmod, hmod]
        have := Nat.mod_add_div u (128 ^ k)
        rw [Nat.mul_comm] at this
        rw [this, hlast]
      · rintro ⟨h1, h2⟩
        have := zn_lo u (by omega)
        rw [show zn u - 1 = k by omega] at this
        have h3 : 1 ≤ u / 128 ^ k := (Nat.le_div_iff_mul_le (Nat.pow_pos (by decide))).2 (by rw [Nat.one_mul]; exact this)
        omega
    · rw [zbyte_toNat_more hlast]
      have hd := Nat.mod_lt (u / 128 ^ k) (show 0 < 128 by decide)
      rw [if_neg (by rintro ⟨h1, h2⟩; subst h1; omega), if_neg (by omega), if_neg (by omega)]
      have e : (u / 128 ^ k % 128 + 128) % 128 = u / 128 ^ k % 128 := by omega
      rw [e, digit_join, show 9 - k = 10 - (k + 1) by omega]
      exact ih (k + 1) (by omega) (by omega)
theorem tk_put (u : Nat) (hu : u < 18446744073709551616) (r : List UInt8) : tk (zb u ++ r) 10 0 0 = (u, zn u, 0) := by
  have := tk_zb u hu (zb u ++ r) (fun i hi => by rw [List.getElem?_append_left (by rw [zb_length]; exact hi)]; exact zb_get u hi) (zn u) 0 rfl (zn_pos u)
  rw [Nat.sub_zero, Nat.pow_zero, Nat.mod_one] at this
  exact this
/-- A byte less is told. -/
theorem tk_cut (u : Nat) (hu : u < 18446744073709551616) (l : List UInt8) (hlen : l.length = zn u - 1) (hl : ∀ i, i < zn u - 1 → l[i]? = some (zbyte u (zn u) i)) :
    ∀ (m k : Nat), m + k = zn u → 0 < m → tk l (10 - k) k (u % 128 ^ k) = (0, 0, 3) := by
  intro m
  induction m with
  | zero => intro k _ h; omega
  | succ m ih =>
    intro k hk _
    have h10 := zn_le10 u hu
    have hkn : k < zn u := by omega
    rw [show 10 - k = (9 - k) + 1 by omega, tk]
    by_cases hlast : k + 1 = zn u
    · rw [List.getElem?_eq_none (by omega)]
    · rw [hl k (by omega)]
      simp only
      rw [zbyte_toNat_more hlast]
      have hd := Nat.mod_lt (u / 128 ^ k) (show 0 < 128 by decide)
      rw [if_neg (by rintro ⟨h1, h2⟩; subst h1; omega), if_neg (by omega), if_neg (by omega)]
      have e : (u / 128 ^ k % 128 + 128) % 128 = u / 128 ^ k % 128 := by omega
      rw [e, digit_join, show 9 - k = 10 - (k + 1) by omega]
      exact ih (k + 1) (by omega) (by omega)
theorem tk_short (u : Nat) (hu : u < 18446744073709551616) : tk ((zb u).take (zn u - 1)) 10 0 0 = (0, 0, 3) := by
  have hp := zn_pos u
  have := tk_cut u hu ((zb u).take (zn u - 1)) (by rw [List.length_take, zb_length]; omega) (fun i hi => by rw [List.getElem?_take, if_pos hi]; exact zb_get u (by omega)) (zn u) 0 rfl hp
  rw [Nat.sub_zero, Nat.pow_zero, Nat.mod_one] at this
  exact this
theorem zn_eq {u k : Nat} (h1 : u < 128 ^ (k + 1)) (h2 : k = 0 ∨ 128 ^ k ≤ u) : zn u = k + 1 := by
  have h3 := zn_le k u h1
  have h4 := zn_pos u
  rcases h2 with rfl | h2
  · omega
  · rcases Nat.lt_or_ge k (zn u) with h5 | h5
    · omega
    · have h6 := zn_hi u
      have h7 : 128 ^ zn u ≤ 128 ^ k := Nat.pow_le_pow_right (by decide) h5
      omega
/-- What is read has just these bytes. -/
theorem tk_back (l : List UInt8) : ∀ (f k v u n : Nat), f + k = 10 → v < 128 ^ k → tk l f k v = (u, n, 0) →
    k < n ∧ n ≤ l.length ∧ u % 128 ^ k = v ∧ zn u = n ∧ ∀ i, k ≤ i → i < n → l[i]? = some (zbyte u n i)
  | 0, k, v, u, n, _, _, h => by simp [tk] at h
  | f + 1, k, v, u, n, hf, hv, h => by
    rw [tk] at h
    cases hl : l[k]? with
    | none => rw [hl] at h; simp at h
    | some c =>
      rw [hl] at h
      simp only at h
      have hlen : k < l.length := (List.getElem?_eq_some_iff.1 hl).1
      have hc : c.toNat < 256 := UInt8.toNat_lt _
      split at h
      · simp at h
      · split at h
        · simp at h
        · rename_i h1 h2
          have hmul := mul_in hv (by omega) hc (by omega)
          have hpos : 0 < 128 ^ k := Nat.pow_pos (by decide)
          split at h
          · rename_i h3
            have hm : c.toNat % 128 = c.toNat := Nat.mod_eq_of_lt h3
            rw [hm] at h hmul
            simp only [Prod.mk.injEq] at h
            obtain ⟨rfl, rfl, _⟩ := h
            have hdiv : (v + c.toNat * 128 ^ k) / 128 ^ k = c.toNat := by
              rw [Nat.add_mul_div_right _ _ hpos, Nat.div_eq_of_lt hv, Nat.zero_add]
            have hzn : zn (v + c.toNat * 128 ^ k) = k + 1 := by
              refine zn_eq hmul.2 ?_
              by_cases hk0 : k = 0
              · exact .inl hk0
              · right
                have : 1 * 128 ^ k ≤ c.toNat * 128 ^ k := Nat.mul_le_mul_right _ (by omega)
                omega
            refine ⟨by omega, by omega, by rw [Nat.add_mul_mod_self_right, Nat.mod_eq_of_lt hv], hzn, fun i hi1 hi2 => ?_⟩
            obtain rfl : i = k := by omega
            rw [hl]
            congr 1
            apply UInt8.toNat_inj.1
            rw [zbyte_toNat_last rfl, hdiv, hm]
          · rename_i h3
            obtain ⟨h4, h5, h6, h7, h8⟩ := tk_back l f (k + 1) _ u n (by omega) hmul.2 h
            have h9 : u % 128 ^ k = v := by
              have := congrArg (fun x => x % 128 ^ k) h6
              rw [Nat.pow_succ, Nat.mod_mul_right_mod, Nat.add_mul_mod_self_right, Nat.mod_eq_of_lt hv] at this
              exact this
            refine ⟨by omega, h5, h9, h7, fun i hi1 hi2 => ?_⟩
            by_cases hik : i = k
            · subst hik
              rw [hl]
              congr 1
              apply UInt8.toNat_inj.1
              rw [zbyte_toNat_more (by omega)]
              have h10 := digit_join u i
              rw [h9, h6] at h10
              have h11 : u / 128 ^ i % 128 = c.toNat % 128 := Nat.eq_of_mul_eq_mul_right hpos (by omega)
              omega
            · exact h8 i (by omega) hi2
theorem tk_bytes {l : List UInt8} {u n : Nat} (h : tk l 10 0 0 = (u, n, 0)) : n ≤ l.length ∧ l.take n = zb u := by
  obtain ⟨_, h2, _, h4, h5⟩ := tk_back l 10 0 0 u n rfl (by decide) h
  refine ⟨h2, List.ext_getElem? fun i => ?_⟩
  by_cases hi : i < n
  · rw [List.getElem?_take, if_pos hi, h5 i (by omega) hi, zb_get u (by omega), h4]
  · rw [List.getElem?_eq_none (by rw [List.length_take]; omega), List.getElem?_eq_none (by rw [zb_length]; omega)]
/-- At a place of a text. -/
theorem ztk_at {a r : List UInt8} {p : Nat} (hp : p = a.length) : ztk (a ++ r) (p : Int) = zgo (a ++ r) p (tk r 10 0 0) := by
  subst hp
  unfold ztk
  rw [if_neg (by simp; omega)]
  simp [zgo]
end Go.Proofs.Ytkagljfmfjaleaa
namespace Go.Proofs.Ytkagljfmfjaleaa.K
open Go.RowKit Go.Lib
set_option linter.unusedVariables false
set_option linter.unusedSimpArgs false
theorem tbl_bind {y : Int} {l : List UInt8} {f : UInt8 → Option Int} {r : Option Int} (hl : ∀ k : Fin 256, (l[k.val]?).map (·.toNat) = some (Lib.bitLen k.val)) (h1 : 0 ≤ y) (h2 : y < 256) (hf : ∀ x : UInt8, x.toNat = Lib.bitLen y.toNat → f x = r) : Option.bind (geti l (((toU8 y).toNat : Nat) : Int)) f = r := by
  have e : (toU8 y).toNat = y.toNat := by
    unfold toU8
    rw [UInt8.toNat_ofNat']
    omega
  rw [e, geti_nat]
  have := hl ⟨y.toNat, by omega⟩
  dsimp only at this
  cases hx : l[y.toNat]? with
  | none => rw [hx] at this; cases this
  | some x => rw [hx] at this; exact hf x (by simpa using this)
theorem l64_j2 {y0 y2 : Int} (h1 : 0 ≤ y0) (h2 : y0 < 256) (h3 : 0 ≤ y2) (h4 : y2 ≤ 1000) : m_math_bits_Len64_j2 y0 y2 = some (y2 + ((Lib.bitLen y0.toNat : Nat) : Int)) := by
  unfold m_math_bits_Len64_j2
  refine tbl_bind ?_ h1 h2 fun x q => ?_
  · decide +kernel
  · have := Lib.bitLen_le8 ⟨y0.toNat, by omega⟩
    dsimp only at this
    rw [q, w64 (by omega) (by omega)]
theorem l64_j1 {y0 y2 : Int} (h1 : 0 ≤ y0) (h2 : y0 < 65536) (h3 : 0 ≤ y2) (h4 : y2 ≤ 900) : m_math_bits_Len64_j1 y0 y2 = some (y2 + ((Lib.bitLen y0.toNat : Nat) : Int)) := by
  unfold m_math_bits_Len64_j1
  by_cases h : 256 ≤ y0
  · rw [decide_eq_true h, cond_true, Int.fdiv_eq_ediv_of_nonneg _ (by decide), show (2 : Int) ^ 8 = 256 from rfl, w64 (by omega) (by omega), l64_j2 (by omega) (by omega) (by omega) (by omega)]
    have := Lib.bitLen_shift8 y0.toNat (by omega) (by omega)
    rw [show (y0 / 256).toNat = y0.toNat / 256 by omega, this]
    congr 1; omega
  · rw [decide_eq_false h, cond_false, l64_j2 h1 (by omega) h3 (by omega)]
theorem l64_j0 {y0 y2 : Int} (h1 : 0 ≤ y0) (h2 : y0 < 4294967296) (h3 : 0 ≤ y2) (h4 : y2 ≤ 800) : m_math_bits_Len64_j0 y0 y2 = some (y2 + ((Lib.bitLen y0.toNat : Nat) : Int)) := by
  unfold m_math_bits_Len64_j0
  by_cases h : 65536 ≤ y0
  · rw [decide_eq_true h, cond_true, Int.fdiv_eq_ediv_of_nonneg _ (by decide), show (2 : Int) ^ 16 = 65536 from rfl, w64 (by omega) (by omega), l64_j1 (by omega) (by omega) (by omega) (by omega)]
    have := Lib.bitLen_shift16 y0.toNat (by omega) (by omega)
    rw [show (y0 / 65536).toNat = y0.toNat / 65536 by omega, this]
    congr 1; omega
  · rw [decide_eq_false h, cond_false, l64_j1 h1 (by omega) h3 (by omega)]
theorem len64_ok {u : Nat} (h : u < 18446744073709551616) : m_math_bits_Len64 (u : Int) = some ((Lib.bitLen u : Nat) : Int) := by
  unfold m_math_bits_Len64
  by_cases hh : 4294967296 ≤ u
  · rw [decide_eq_true (by omega), cond_true, Int.fdiv_eq_ediv_of_nonneg _ (by decide), show (2 : Int) ^ 32 = 4294967296 from rfl, l64_j0 (by omega) (by omega) (by omega) (by omega)]
    have := Lib.bitLen_shift32 u (by omega) (by omega)
    rw [show ((u : Int) / 4294967296).toNat = u / 4294967296 by omega, this]
    congr 1
  · rw [decide_eq_false (by omega), cond_false, l64_j0 (by omega) (by omega) (by omega) (by omega)]
    congr 1; rw [Int.toNat_natCast]; omega
theorem bitLen_64 {u : Nat} (h : u < 18446744073709551616) : Lib.bitLen u ≤ 64 := Lib.bitLen_le u 64 (by omega) (by simpa using h)
theorem size_ok {u : Nat} (h : u < 18446744073709551616) : m_zig_Size (u : Int) = some ((zn u : Nat) : Int) := by
  unfold m_zig_Size
  have hb := bitLen_64 h
  rw [len64_ok h, obind_some, w64 (n := ((Lib.bitLen u : Nat) : Int) + 7) (by omega) (by omega), w64 (n := ((Lib.bitLen u : Nat) : Int) + 7 - 1) (by omega) (by omega), Int.tdiv_eq_ediv_of_nonneg (by omega), w64 (by omega) (by omega), ← zn_bits u h]
  congr 1; omega
theorem or128 (x : UInt8) : toU8 (((BitVec.ofInt 8 ((x.toNat : Nat) : Int) ||| BitVec.ofInt 8 128).toNat : Nat) : Int) = UInt8.ofNat (x.toNat % 128 + 128) := by
  have : ∀ k : Fin 256, toU8 (((BitVec.ofInt 8 ((k.val : Nat) : Int) ||| BitVec.ofInt 8 128).toNat : Nat) : Int) = UInt8.ofNat (k.val % 128 + 128) := by decide +kernel
  exact this ⟨x.toNat, x.toNat_lt⟩
theorem not128 (x : UInt8) : toU8 (((BitVec.ofInt 8 ((x.toNat : Nat) : Int) &&& ~~~ BitVec.ofInt 8 128).toNat : Nat) : Int) = UInt8.ofNat (x.toNat % 128) := by
  have : ∀ k : Fin 256, toU8 (((BitVec.ofInt 8 ((k.val : Nat) : Int) &&& ~~~ BitVec.ofInt 8 128).toNat : Nat) : Int) = UInt8.ofNat (k.val % 128) := by decide +kernel
  exact this ⟨x.toNat, x.toNat_lt⟩
theorem toU8_nat (n : Nat) : (toU8 (n : Int)).toNat = n % 256 := by unfold toU8; rw [UInt8.toNat_ofNat']; omega
theorem sh7 (u i : Nat) : Int.fdiv (u : Int) (2 ^ (Int.toNat (((7 * i : Nat)) : Int))) = ((u / 128 ^ i : Nat) : Int) := by
  rw [Int.toNat_natCast, Int.fdiv_eq_ediv_of_nonneg _ (Int.pow_nonneg (by decide))]
  rw [show (128 : Nat) ^ i = 2 ^ (7 * i) by rw [Nat.pow_mul]]
  rw [Int.natCast_ediv]; congr 1
theorem put_ok {b : List UInt8} {u : Nat} (hb : b.length ≤ 100000000) (h : u < 18446744073709551616) : m_zig_Put b (u : Int) = some (b ++ zb u) := by
  have hn := zn_le10 u h
  have hp := zn_pos u
  unfold m_zig_Put
  rw [size_ok h, obind_some, w64 (by omega) (by omega), show mkc 0 (((List.length b : Nat) : Int) + ((zn u : Nat) : Int)) (0 : UInt8) = some [] by
    unfold mkc; rw [if_pos ⟨by omega, by omega, by omega⟩]; rfl]
  rw [obind_some, app_ok (by simp; omega), obind_some, List.nil_append]
  have := loopG_0 (L := fun fu s i => m_zig_Put_l3 (u : Int) ((zn u : Nat) : Int) fu s i) (n := zn u) (P := fun i s o => s.length ≤ b.length + i → o = some (s ++ ((List.range (zn u)).drop i).map (zbyte u (zn u)))) (by omega)
    (fun fu s hs => by
      unfold m_zig_Put_l3
      rw [d_nlt (by omega), cond_false, List.drop_of_length_le (by simp)]; simp)
    (fun fu s i hi ih hs => by
      unfold m_zig_Put_l3 m_zig_Put_j5
      have hr : (List.range (zn u)).drop i = i :: (List.range (zn u)).drop (i + 1) := by
        rw [List.drop_eq_getElem_cons (by simpa using hi), List.getElem_range]
      rw [d_lt (by omega), cond_true, w64 (n := 7 * (i : Int)) (by omega) (by omega), show 7 * (i : Int) = ((7 * i : Nat) : Int) by omega, chk_ok (by omega), sh7, or128, obind_some, not128, w64 (n := ((zn u : Nat) : Int) - 1) (by omega) (by omega), inc_ok (by omega), app_ok (by simp; omega), obind_some, app_ok (by simp; omega), obind_some]
      dsimp only
      rw [ih _ (by simp; omega), ih _ (by simp; omega), hr, List.map_cons]
      have e1 : (toU8 ((u / 128 ^ i : Nat) : Int)).toNat % 128 = u / 128 ^ i % 128 := by rw [toU8_nat]; omega
      rw [e1]
      unfold zbyte
      by_cases hl : i + 1 = zn u
      · rw [decide_eq_true (by omega), cond_true, if_pos hl, List.append_assoc]
        have : (UInt8.ofNat (u / 128 ^ i % 128 + 128)).toNat % 128 = u / 128 ^ i % 128 := by rw [UInt8.toNat_ofNat']; omega
        rw [this]; rfl
      · rw [decide_eq_false (by omega), cond_false, if_neg hl, List.append_assoc]; rfl) b (by omega)
  rw [this]; rfl
/-! ### the document's -/
theorem sevens_l (k : Nat) : ∀ (fu v : Nat) (s : List Int), v < 18446744073709551616 → v < 128 ^ k → k < fu → s.length + k ≤ 1000 → m_telltaleref02_sevens_l1 fu (v : Int) s = some (s ++ if v = 0 then [] else (zs v).map fun (n : Nat) => (n : Int)) := by
  induction k with
  | zero =>
    intro fu v s h1 h2 h4 h3
    obtain ⟨fu, rfl⟩ : ∃ f, fu = f + 1 := ⟨fu - 1, by omega⟩
    obtain rfl : v = 0 := by simp at h2; exact h2
    unfold m_telltaleref02_sevens_l1
    rw [d_nlt (by omega), cond_false, if_pos rfl, List.append_nil]
  | succ k ih =>
    intro fu v s h1 h2 h4 h3
    obtain ⟨fu, rfl⟩ : ∃ f, fu = f + 1 := ⟨fu - 1, by omega⟩
    unfold m_telltaleref02_sevens_l1
    by_cases h0 : v = 0
    · subst h0; rw [d_nlt (by omega), cond_false, if_pos rfl, List.append_nil]
    · rw [d_lt (by omega), cond_true, Int.tmod_eq_emod_of_nonneg (by omega), w64 (by omega) (by omega), app_ok (by simp; omega), obind_some, Int.tdiv_eq_ediv_of_nonneg (by omega), wu64, Int.emod_eq_of_lt (by omega) (by omega), show (v : Int) / 128 = ((v / 128 : Nat) : Int) by omega, show (v : Int) % 128 = ((v % 128 : Nat) : Int) by omega]
      rw [ih fu (v / 128) _ (by omega) (by rw [Nat.pow_succ] at h2; exact Nat.div_lt_of_lt_mul (by rw [Nat.mul_comm]; exact h2)) (by omega) (by simp; omega), if_neg h0, List.append_assoc]
      congr 2
      by_cases hv : v < 128
      · rw [if_pos (by omega), zs_lt hv, Nat.mod_eq_of_lt hv]; rfl
      · rw [if_neg (by omega), zs_ge hv]; rfl
theorem sevens_ok {u : Nat} (h : u < 18446744073709551616) : m_telltaleref02_sevens (u : Int) = some ((zs u).map fun (n : Nat) => (n : Int)) := by
  unfold m_telltaleref02_sevens
  rw [Int.tmod_eq_emod_of_nonneg (by omega), w64 (by omega) (by omega), Int.tdiv_eq_ediv_of_nonneg (by omega), wu64, Int.emod_eq_of_lt (by omega) (by omega), show (u : Int) / 128 = ((u / 128 : Nat) : Int) by omega, show (u : Int) % 128 = ((u % 128 : Nat) : Int) by omega]
  rw [sevens_l 10 _ _ _ (by omega) (by omega) (by omega) (by simp)]
  congr 1
  by_cases hv : u < 128
  · rw [if_pos (by omega), zs_lt hv, Nat.mod_eq_of_lt hv]; rfl
  · rw [if_neg (by omega), zs_ge hv]; rfl
theorem rput_ok {b : List UInt8} {u : Nat} (hb : b.length ≤ 100000000) (h : u < 18446744073709551616) : m_telltaleref02_Put b (u : Int) = some (b ++ zb u) := by
  have hn := zn_le10 u h
  have hp := zn_pos u
  unfold m_telltaleref02_Put
  rw [app_ok (by simp; omega), obind_some, sevens_ok h, obind_some, List.nil_append]
  have hlen : ((zs u).map fun (n : Nat) => (n : Int)).length = zn u := by rw [List.length_map]; rfl
  have hget : ∀ i, (hi : i < ((zs u).map fun (n : Nat) => (n : Int)).length) → ((zs u).map fun (n : Nat) => (n : Int))[i] = ((u / 128 ^ i % 128 : Nat) : Int) := fun i hi => by
    rw [hlen] at hi
    have := zs_get u i hi
    rw [List.getElem_map]
    have h2 := List.getElem_of_getElem? this
    obtain ⟨_, h2⟩ := h2
    rw [h2]
  generalize ((zs u).map fun (n : Nat) => (n : Int)) = l at hlen hget
  have := loopG_0 (L := fun fu s i => m_telltaleref02_Put_l2 l fu s i) (n := zn u) (P := fun i s o => s.length ≤ b.length + i → o = some (s ++ ((List.range (zn u)).drop i).map (zbyte u (zn u)))) (by omega)
    (fun fu s hs => by
      unfold m_telltaleref02_Put_l2
      rw [d_nlt (by omega), cond_false, List.drop_of_length_le (by simp)]; simp)
    (fun fu s i hi ih hs => by
      unfold m_telltaleref02_Put_l2
      have hr : (List.range (zn u)).drop i = i :: (List.range (zn u)).drop (i + 1) := by
        rw [List.drop_eq_getElem_cons (by simpa using hi), List.getElem_range]
      have hil : i < l.length := by omega
      rw [d_lt (by omega), cond_true, hlen, w64 (n := ((zn u : Nat) : Int) - 1) (by omega) (by omega), geti_lt hil, obind_some, obind_some, hget i hil, w64 (n := 128 + ((u / 128 ^ i % 128 : Nat) : Int)) (by omega) (by omega), inc_ok (by omega), app_ok (by simp; omega), obind_some, app_ok (by simp; omega), obind_some, ih _ (by simp; omega), ih _ (by simp; omega), hr, List.map_cons]
      unfold zbyte
      have t1 : toU8 ((u / 128 ^ i % 128 : Nat) : Int) = UInt8.ofNat (u / 128 ^ i % 128) := by
        apply UInt8.toNat_inj.1; rw [toU8_nat, UInt8.toNat_ofNat']
      have t2 : toU8 (128 + ((u / 128 ^ i % 128 : Nat) : Int)) = UInt8.ofNat (u / 128 ^ i % 128 + 128) := by
        rw [show (128 : Int) + ((u / 128 ^ i % 128 : Nat) : Int) = ((u / 128 ^ i % 128 + 128 : Nat) : Int) by omega]
        apply UInt8.toNat_inj.1; rw [toU8_nat, UInt8.toNat_ofNat']
      rw [t1, t2]
      by_cases hl : i + 1 = zn u
      · rw [d_nlt (by omega), cond_false, if_pos hl, List.append_assoc]; rfl
      · rw [d_lt (by omega), cond_true, if_neg hl, List.append_assoc]; rfl) b (by omega)
  rw [this]; rfl
/-! ### folding -/
theorem bnd_xor (a b : BitVec 64) : IntKind.u64.wrap (((a ^^^ b).toNat : Nat) : Int) = (((a ^^^ b).toNat : Nat) : Int) := by
  rw [wu64]; exact Int.emod_eq_of_lt (by omega) (by have := (a ^^^ b).isLt; omega)
theorem fold_ok {n : Int} (h0 : -9223372036854775808 ≤ n) (h1 : n ≤ 9223372036854775807) : m_zig_Fold n = some ((zfold n : Nat) : Int) := by
  unfold m_zig_Fold zfold
  rw [obind_some]
  have hp : (2 : Int) ^ 63 = 9223372036854775808 := rfl
  have hp1 : (2 : Int) ^ 1 = 2 := rfl
  rw [Int.fdiv_eq_ediv_of_nonneg _ (by decide), hp, hp1]
  by_cases h : n < 0
  · rw [if_pos h, show n / 9223372036854775808 = -1 by omega, show IntKind.u64.wrap (-1) = 18446744073709551615 by decide, show BitVec.ofInt 64 18446744073709551615 = BitVec.allOnes 64 by decide, BitVec.xor_allOnes, wu64, wu64]
    congr 1
    rw [BitVec.toNat_not, BitVec.toNat_ofInt, wu64]
    simp only [Nat.reducePow]
    omega
  · rw [if_neg h, show n / 9223372036854775808 = 0 by omega, show IntKind.u64.wrap 0 = 0 by decide, show BitVec.ofInt 64 0 = 0#64 by decide, BitVec.xor_zero, wu64, wu64]
    congr 1
    rw [BitVec.toNat_ofInt, wu64]
    omega
theorem rfold_ok {n : Int} (h0 : -9223372036854775808 ≤ n) (h1 : n ≤ 9223372036854775807) : m_telltaleref02_Fold n = some ((zfold n : Nat) : Int) := by
  unfold m_telltaleref02_Fold zfold
  by_cases h : n < 0
  · rw [d_lt h, cond_true, if_pos h, obind_some, w64 (n := n + 1) (by omega) (by omega), w64 (n := 0 - (n + 1)) (by omega) (by omega), wu64, wu64, wu64]
    congr 1; omega
  · rw [d_nlt h, cond_false, if_neg h, wu64, wu64]
    congr 1; omega
theorem putint_ok {b : List UInt8} {n : Int} (hb : b.length ≤ 100000000) (h0 : -9223372036854775808 ≤ n) (h1 : n ≤ 9223372036854775807) : m_zig_PutInt b n = some (b ++ zb (zfold n)) := by
  unfold m_zig_PutInt
  rw [fold_ok h0 h1, obind_some, put_ok hb (zfold_lt n h0 h1)]; rfl
end Go.Proofs.Ytkagljfmfjaleaa.K
namespace Go.Proofs.Ytkagljfmfjaleaa.K
open Go.RowKit Go.Lib
set_option linter.unusedVariables false
set_option linter.unusedSimpArgs false
theorem zb_lt {u : Nat} (h : u < 128) : zb u = [UInt8.ofNat u] := by
  unfold zb
  rw [zn_lt h]
  simp [zbyte, List.range_succ, Nat.mod_eq_of_lt h]
theorem zb_ge {u : Nat} (h : ¬ u < 128) : zb u = UInt8.ofNat (u % 128 + 128) :: zb (u / 128) := by
  have hp := zn_pos (u / 128)
  unfold zb
  rw [zn_ge h, List.range_succ_eq_map, List.map_cons, List.map_map]
  congr 1
  · unfold zbyte; rw [if_neg (by omega)]; simp
  · apply List.map_congr_left
    intro i _
    show zbyte u (zn (u / 128) + 1) (i + 1) = zbyte (u / 128) (zn (u / 128)) i
    have e : u / 128 ^ (i + 1) = u / 128 / 128 ^ i := by rw [Nat.pow_succ, Nat.mul_comm, Nat.div_div_eq_div_mul]
    unfold zbyte
    rw [e]
    by_cases h : i + 1 = zn (u / 128)
    · rw [if_pos (by omega), if_pos h]
    · rw [if_neg (by omega), if_neg h]
/-- Read a number: it, and what is left. -/
def zd : List UInt8 → Option (Nat × List UInt8)
  | [] => none
  | x :: l => if x.toNat < 128 then some (x.toNat, l) else (zd l).map fun p => (x.toNat - 128 + 128 * p.1, p.2)
theorem zd_zb : ∀ (u : Nat) (r : List UInt8), zd (zb u ++ r) = some (u, r) := by
  intro u
  induction u using Nat.strongRecOn with
  | ind u ih =>
    intro r
    by_cases h : u < 128
    · rw [zb_lt h]
      show zd (UInt8.ofNat u :: r) = _
      have e : (UInt8.ofNat u).toNat = u := by rw [UInt8.toNat_ofNat']; omega
      unfold zd
      rw [e, if_pos h]
    · rw [zb_ge h]
      show zd (UInt8.ofNat (u % 128 + 128) :: (zb (u / 128) ++ r)) = _
      have e : (UInt8.ofNat (u % 128 + 128)).toNat = u % 128 + 128 := by rw [UInt8.toNat_ofNat']; omega
      unfold zd
      rw [e, if_neg (by omega), ih (u / 128) (by omega) r]
      simp only [Option.map_some]
      congr 2; omega
theorem zb_app {u w : Nat} {r s : List UInt8} (h : zb u ++ r = zb w ++ s) : u = w ∧ r = s := by
  have := zd_zb u r
  rw [h, zd_zb] at this
  cases this
  exact ⟨rfl, rfl⟩
theorem zb_inj {u w : Nat} (h : zb u = zb w) : u = w := (zb_app (r := []) (s := []) (by simpa using h)).1
theorem zfold_inj {a b : Int} (h : zfold a = zfold b) : a = b := by rw [← zback_fold a, ← zback_fold b, h]
end Go.Proofs.Ytkagljfmfjaleaa.K
