/- What is laid is read as it was: plain. -/
import Derived.Test.YtnhabcmemadgcaaZigQ
namespace Go.Proofs.Ytnhabcmemadgcaa

theorem zb_get (u : Nat) {i : Nat} (h : i < zn u) : (zb u)[i]? = some (zbyte u (zn u) i) := by
  simp [zb, h]
theorem zbyte_toNat_last {u n k : Nat} (h : k + 1 = n) : (zbyte u n k).toNat = u / 128 ^ k % 128 := by
  have := zbyte_last (u := u) h; omega
theorem zbyte_toNat_more {u n k : Nat} (h : ¬ k + 1 = n) : (zbyte u n k).toNat = u / 128 ^ k % 128 + 128 := by
  have := zbyte_more (u := u) h; omega
theorem digit_join (u k : Nat) : u % 128 ^ k + u / 128 ^ k % 128 * 128 ^ k = u % 128 ^ (k + 1) := by
  rw [Nat.pow_succ, Nat.mod_mul, Nat.mul_comm (128 ^ k)]
/-- Reading on, k bytes of u having been read. -/
theorem tk_zb (u : Nat) (hu : u < 18446744073709551616) (l : List UInt8) (hl : ∀ i, i < zn u → l[i]? = some (zbyte u (zn u) i)) :
    ∀ (m k : Nat), m + k = zn u → 0 < m → tk l (10 - k) k (u % 128 ^ k) = (u, zn u, 0) := by
  intro m
  induction m with
  | zero => intro k _ h; omega
  | succ m ih =>
    intro k hk _
    have h10 := zn_le10 u hu
    have hkn : k < zn u := by omega
    rw [show 10 - k = (9 - k) + 1 by omega, tk, hl k hkn]
    simp only
    have h9 : k = 9 → u / 128 ^ k % 128 ≤ 1 := by
      rintro rfl
      have e9 : (128 : Nat) ^ 9 = 9223372036854775808 := by decide
      rw [e9]; omega
    by_cases hlast : k + 1 = zn u
    · rw [zbyte_toNat_last hlast]
      have hlt : u / 128 ^ k < 128 := by
        have := zn_hi u
        rw [← hlast, Nat.pow_succ, Nat.mul_comm] at this
        exact Nat.div_lt_of_lt_mul (by rwa [Nat.mul_comm] at this)
      have hmod : u / 128 ^ k % 128 = u / 128 ^ k := Nat.mod_eq_of_lt hlt
      rw [if_neg (by rintro ⟨h1, h2⟩; have := h9 h1; omega), if_neg, if_pos (by omega)]
      · rw [hmod, hmod]
        have := Nat.mod_add_div u (128 ^ k)
        rw [Nat.mul_comm] at this
        rw [this, hlast]
      · rintro ⟨h1, h2⟩
        have := zn_lo u (by omega)
        rw [show zn u - 1 = k by omega] at this
        have h3 : 1 ≤ u / 128 ^ k := (Nat.le_div_iff_mul_le (Nat.pow_pos (by decide))).2 (by rw [Nat.one_mul]; exact this)
        omega
    · rw [zbyte_toNat_more hlast]
      have hd := Nat.mod_lt (u / 128 ^ k) (show 0 < 128 by decide)
      rw [if_neg (by rintro ⟨h1, h2⟩; subst h1; omega), if_neg (by omega), if_neg (by omega)]
      have e : (u / 128 ^ k % 128 + 128) % 128 = u / 128 ^ k % 128 := by omega
      rw [e, digit_join, show 9 - k = 10 - (k + 1) by omega]
      exact ih (k + 1) (by omega) (by omega)
theorem tk_put (u : Nat) (hu : u < 18446744073709551616) (r : List UInt8) : tk (zb u ++ r) 10 0 0 = (u, zn u, 0) := by
  have := tk_zb u hu (zb u ++ r) (fun i hi => by rw [List.getElem?_append_left (by rw [zb_length]; exact hi)]; exact zb_get u hi) (zn u) 0 rfl (zn_pos u)
  rw [Nat.sub_zero, Nat.pow_zero, Nat.mod_one] at this
  exact this
/-- A byte less is told. -/
theorem tk_cut (u : Nat) (hu : u < 18446744073709551616) (l : List UInt8) (hlen : l.length = zn u - 1) (hl : ∀ i, i < zn u - 1 → l[i]? = some (zbyte u (zn u) i)) :
    ∀ (m k : Nat), m + k = zn u → 0 < m → tk l (10 - k) k (u % 128 ^ k) = (0, 0, 3) := by
  intro m
  induction m with
  | zero => intro k _ h; omega
  | succ m ih =>
    intro k hk _
    have h10 := zn_le10 u hu
    have hkn : k < zn u := by omega
    rw [show 10 - k = (9 - k) + 1 by omega, tk]
    by_cases hlast : k + 1 = zn u
    · rw [List.getElem?_eq_none (by omega)]
    · rw [hl k (by omega)]
      simp only
      rw [zbyte_toNat_more hlast]
      have hd := Nat.mod_lt (u / 128 ^ k) (show 0 < 128 by decide)
      rw [if_neg (by rintro ⟨h1, h2⟩; subst h1; omega), if_neg (by omega), if_neg (by omega)]
      have e : (u / 128 ^ k % 128 + 128) % 128 = u / 128 ^ k % 128 := by omega
      rw [e, digit_join, show 9 - k = 10 - (k + 1) by omega]
      exact ih (k + 1) (by omega) (by omega)
theorem tk_short (u : Nat) (hu : u < 18446744073709551616) : tk ((zb u).take (zn u - 1)) 10 0 0 = (0, 0, 3) := by
  have hp := zn_pos u
  have := tk_cut u hu ((zb u).take (zn u - 1)) (by rw [List.length_take, zb_length]; omega) (fun i hi => by rw [List.getElem?_take, if_pos hi]; exact zb_get u (by omega)) (zn u) 0 rfl hp
  rw [Nat.sub_zero, Nat.pow_zero, Nat.mod_one] at this
  exact this
theorem zn_eq {u k : Nat} (h1 : u < 128 ^ (k + 1)) (h2 : k = 0 ∨ 128 ^ k ≤ u) : zn u = k + 1 := by
  have h3 := zn_le k u h1
  have h4 := zn_pos u
  rcases h2 with rfl | h2
  · omega
  · rcases Nat.lt_or_ge k (zn u) with h5 | h5
    · omega
    · have h6 := zn_hi u
      have h7 : 128 ^ zn u ≤ 128 ^ k := Nat.pow_le_pow_right (by decide) h5
      omega
/-- What is read has just these bytes. -/
theorem tk_back (l : List UInt8) : ∀ (f k v u n : Nat), f + k = 10 → v < 128 ^ k → tk l f k v = (u, n, 0) →
    k < n ∧ n ≤ l.length ∧ u % 128 ^ k = v ∧ zn u = n ∧ ∀ i, k ≤ i → i < n → l[i]? = some (zbyte u n i)
  | 0, k, v, u, n, _, _, h => by simp [tk] at h
  | f + 1, k, v, u, n, hf, hv, h => by
    rw [tk] at h
    cases hl : l[k]? with
    | none => rw [hl] at h; simp at h
    | some c =>
      rw [hl] at h
      simp only at h
      have hlen : k < l.length := (List.getElem?_eq_some_iff.1 hl).1
      have hc : c.toNat < 256 := UInt8.toNat_lt _
      split at h
      · simp at h
      · split at h
        · simp at h
        · rename_i h1 h2
          have hmul := mul_in hv (by omega) hc (by omega)
          have hpos : 0 < 128 ^ k := Nat.pow_pos (by decide)
          split at h
          · rename_i h3
            have hm : c.toNat % 128 = c.toNat := Nat.mod_eq_of_lt h3
            rw [hm] at h hmul
            simp only [Prod.mk.injEq] at h
            obtain ⟨rfl, rfl, _⟩ := h
            have hdiv : (v + c.toNat * 128 ^ k) / 128 ^ k = c.toNat := by
              rw [Nat.add_mul_div_right _ _ hpos, Nat.div_eq_of_lt hv, Nat.zero_add]
            have hzn : zn (v + c.toNat * 128 ^ k) = k + 1 := by
              refine zn_eq hmul.2 ?_
              by_cases hk0 : k = 0
              · exact .inl hk0
              · right
                have : 1 * 128 ^ k ≤ c.toNat * 128 ^ k := Nat.mul_le_mul_right _ (by omega)
                omega
            refine ⟨by omega, by omega, by rw [Nat.add_mul_mod_self_right, Nat.mod_eq_of_lt hv], hzn, fun i hi1 hi2 => ?_⟩
            obtain rfl : i = k := by omega
            rw [hl]
            congr 1
            apply UInt8.toNat_inj.1
            rw [zbyte_toNat_last rfl, hdiv, hm]
          · rename_i h3
            obtain ⟨h4, h5, h6, h7, h8⟩ := tk_back l f (k + 1) _ u n (by omega) hmul.2 h
            have h9 : u % 128 ^ k = v := by
              have := congrArg (fun x => x % 128 ^ k) h6
              rw [Nat.pow_succ, Nat.mod_mul_right_mod, Nat.add_mul_mod_self_right, Nat.mod_eq_of_lt hv] at this
              exact this
            refine ⟨by omega, h5, h9, h7, fun i hi1 hi2 => ?_⟩
            by_cases hik : i = k
            · subst hik
              rw [hl]
              congr 1
              apply UInt8.toNat_inj.1
              rw [zbyte_toNat_more (by omega)]
              have h10 := digit_join u i
              rw [h9, h6] at h10
              have h11 : u / 128 ^ i % 128 = c.toNat % 128 := Nat.eq_of_mul_eq_mul_right hpos (by omega)
              omega
            · exact h8 i (by omega) hi2
theorem tk_bytes {l : List UInt8} {u n : Nat} (h : tk l 10 0 0 = (u, n, 0)) : n ≤ l.length ∧ l.take n = zb u := by
  obtain ⟨_, h2, _, h4, h5⟩ := tk_back l 10 0 0 u n rfl (by decide) h
  refine ⟨h2, List.ext_getElem? fun i => ?_⟩
  by_cases hi : i < n
  · rw [List.getElem?_take, if_pos hi, h5 i (by omega) hi, zb_get u (by omega), h4]
  · rw [List.getElem?_eq_none (by rw [List.length_take]; omega), List.getElem?_eq_none (by rw [zb_length]; omega)]
/-- At a place of a text. -/
theorem ztk_at {a r : List UInt8} {p : Nat} (hp : p = a.length) : ztk (a ++ r) (p : Int) = zgo (a ++ r) p (tk r 10 0 0) := by
  subst hp
  unfold ztk
  rw [if_neg (by simp; omega)]
  simp [zgo]
end Go.Proofs.Ytnhabcmemadgcaa
