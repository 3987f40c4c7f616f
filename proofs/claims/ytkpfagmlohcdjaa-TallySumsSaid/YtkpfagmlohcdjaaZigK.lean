/- What is read of a number's bytes. Plain. -/
import Derived.Test.YtkpfagmlohcdjaaZigP
namespace Go.Proofs.Ytkpfagmlohcdjaa
set_option linter.unusedVariables false
/-- A number read off bytes, from place i on, u being what was read: the number, the place behind it, the error. -/
def tk (l : List UInt8) : Nat → Nat → Nat → Nat × Nat × Nat
  | 0, _, _ => (0, 0, 8)
  | f + 1, i, u => match l[i]? with
    | none => (0, 0, 3)
    | some c => if i = 9 ∧ 1 < c.toNat then (0, 0, 8) else if 0 < i ∧ c.toNat = 0 then (0, 0, 4) else
      if c.toNat < 128 then (u + c.toNat % 128 * 128 ^ i, i + 1, 0) else tk l f (i + 1) (u + c.toNat % 128 * 128 ^ i)
/-- The same from a place of a text. -/
def ztk (l : List UInt8) (a : Int) : Nat × Nat × Nat :=
  if a < 0 ∨ (l.length : Int) < a then (0, 0, 2) else
    let r := tk (l.drop a.toNat) 10 0 0
    (r.1, if r.2.2 = 0 then a.toNat + r.2.1 else 0, r.2.2)
def zgo (l : List UInt8) (a : Nat) (r : Nat × Nat × Nat) : Nat × Nat × Nat := (r.1, if r.2.2 = 0 then a + r.2.1 else 0, r.2.2)

theorem mul_in {v k c : Nat} (hv : v < 128 ^ k) (hk : k ≤ 9) (hc : c < 256) (h9 : k = 9 → c ≤ 1) : v + c % 128 * 128 ^ k < 18446744073709551616 ∧ v + c % 128 * 128 ^ k < 128 ^ (k + 1) := by
  have h128 : (128 : Nat) ^ k ≤ 128 ^ 9 := Nat.pow_le_pow_right (by decide) hk
  have e9 : (128 : Nat) ^ 9 = 9223372036854775808 := by decide
  refine ⟨?_, ?_⟩
  · by_cases hk9 : k = 9
    · subst hk9; have := h9 rfl; rw [e9] at *; omega
    · have h8 : (128 : Nat) ^ k ≤ 128 ^ 8 := Nat.pow_le_pow_right (by decide) (by omega)
      have e8 : (128 : Nat) ^ 8 = 72057594037927936 := by decide
      have h2 : c % 128 * 128 ^ k ≤ 127 * 128 ^ 8 := Nat.mul_le_mul (by omega) h8
      rw [e8] at h2; omega
  · rw [Nat.pow_succ]
    have : c % 128 * 128 ^ k ≤ 127 * 128 ^ k := (Nat.mul_le_mul_right _ (by omega))
    omega
theorem tk_lt (l : List UInt8) : ∀ (f i u : Nat), f + i = 10 → u < 128 ^ i → (tk l f i u).1 < 18446744073709551616
  | 0, _, _, _, _ => by simp [tk]
  | f + 1, i, u, h, hu => by
    rw [tk]
    cases l[i]? with
    | none => simp
    | some c =>
      simp only
      split
      · simp
      · split
        · simp
        · rename_i h1 h2
          have hc : c.toNat < 256 := UInt8.toNat_lt _
          have := mul_in hu (by omega) hc (by omega)
          split
          · exact this.1
          · exact tk_lt l f (i + 1) _ (by omega) this.2
theorem ztk_lt (l : List UInt8) (a : Int) : (ztk l a).1 < 18446744073709551616 := by
  unfold ztk
  split
  · decide
  · exact tk_lt _ 10 0 0 rfl (by decide)
theorem tk_err (l : List UInt8) : ∀ (f i u : Nat), (tk l f i u).2.2 ≠ 0 → (tk l f i u).1 = 0
  | 0, _, _, _ => by simp [tk]
  | f + 1, i, u, h => by
    rw [tk] at h ⊢
    cases hl : l[i]? with
    | none => rfl
    | some c =>
      rw [hl] at h
      simp only at h ⊢
      split at h
      · rw [if_pos ‹_›]
      · rw [if_neg ‹_›]
        split at h
        · rw [if_pos ‹_›]
        · rw [if_neg ‹_›]
          split at h
          · exact absurd rfl h
          · rw [if_neg ‹_›]; exact tk_err l f _ _ h
theorem ztk_err (l : List UInt8) (a : Int) (h : (ztk l a).2.2 ≠ 0) : (ztk l a).1 = 0 := by
  unfold ztk at h ⊢
  split
  · rfl
  · rename_i h1
    rw [if_neg h1] at h
    exact tk_err _ _ _ _ h
theorem zbyte_last {u n k : Nat} (h : k + 1 = n) : ((zbyte u n k).toNat : Int) = ((u / 128 ^ k % 128 : Nat) : Int) := by
  unfold zbyte; rw [if_pos h, UInt8.toNat_ofNat']; omega
theorem zbyte_more {u n k : Nat} (h : ¬ k + 1 = n) : ((zbyte u n k).toNat : Int) = ((u / 128 ^ k % 128 + 128 : Nat) : Int) := by
  unfold zbyte; rw [if_neg h, UInt8.toNat_ofNat']; omega
theorem zb_get (u : Nat) {i : Nat} (h : i < zn u) : (zb u)[i]? = some (zbyte u (zn u) i) := by
  simp [zb, h]
theorem zbyte_toNat_last {u n k : Nat} (h : k + 1 = n) : (zbyte u n k).toNat = u / 128 ^ k % 128 := by
  have := zbyte_last (u := u) h; omega
theorem zbyte_toNat_more {u n k : Nat} (h : ¬ k + 1 = n) : (zbyte u n k).toNat = u / 128 ^ k % 128 + 128 := by
  have := zbyte_more (u := u) h; omega
theorem digit_join (u k : Nat) : u % 128 ^ k + u / 128 ^ k % 128 * 128 ^ k = u % 128 ^ (k + 1) := by
  rw [Nat.pow_succ, Nat.mod_mul, Nat.mul_comm (128 ^ k)]
/-- Reading on, k bytes of u having been read. -/
theorem tk_zb (u : Nat) (hu : u < 18446744073709551616) (l : List UInt8) (hl : ∀ i, i < zn u → l[i]? = some (zbyte u (zn u) i)) :
    ∀ (m k : Nat), m + k = zn u → 0 < m → tk l (10 - k) k (u % 128 ^ k) = (u, zn u, 0) := by
  intro m
  induction m with
  | zero => intro k _ h; omega
  | succ m ih =>
    intro k hk _
    have h10 := zn_le10 u hu
    have hkn : k < zn u := by omega
    rw [show 10 - k = (9 - k) + 1 by omega, tk, hl k hkn]
    simp only
    have h9 : k = 9 → u / 128 ^ k % 128 ≤ 1 := by
      rintro rfl
      have e9 : (128 : Nat) ^ 9 = 9223372036854775808 := by decide
      rw [e9]; omega
    by_cases hlast : k + 1 = zn u
    · rw [zbyte_toNat_last hlast]
      have hlt : u / 128 ^ k < 128 := by
        have := zn_hi u
        rw [← hlast, Nat.pow_succ, Nat.mul_comm] at this
        exact Nat.div_lt_of_lt_mul (by rwa [Nat.mul_comm] at this)
      have hmod : u / 128 ^ k % 128 = u / 128 ^ k := Nat.mod_eq_of_lt hlt
      rw [if_neg (by rintro ⟨h1, h2⟩; have := h9 h1; omega), if_neg, if_pos (by omega)]
      · rw [hmod, hmod]
        have := Nat.mod_add_div u (128 ^ k)
        rw [Nat.mul_comm] at this
        rw [this, hlast]
      · rintro ⟨h1, h2⟩
        have := zn_lo u (by omega)
        rw [show zn u - 1 = k by omega] at this
        have h3 : 1 ≤ u / 128 ^ k := (Nat.le_div_iff_mul_le (Nat.pow_pos (by decide))).2 (by rw [Nat.one_mul]; exact this)
        omega
    · rw [zbyte_toNat_more hlast]
      have hd := Nat.mod_lt (u / 128 ^ k) (show 0 < 128 by decide)
      rw [if_neg (by rintro ⟨h1, h2⟩; subst h1; omega), if_neg (by omega), if_neg (by omega)]
      have e : (u / 128 ^ k % 128 + 128) % 128 = u / 128 ^ k % 128 := by omega
      rw [e, digit_join, show 9 - k = 10 - (k + 1) by omega]
      exact ih (k + 1) (by omega) (by omega)
theorem tk_put (u : Nat) (hu : u < 18446744073709551616) (r : List UInt8) : tk (zb u ++ r) 10 0 0 = (u, zn u, 0) := by
  have := tk_zb u hu (zb u ++ r) (fun i hi => by rw [List.getElem?_append_left (by rw [zb_length]; exact hi)]; exact zb_get u hi) (zn u) 0 rfl (zn_pos u)
  rw [Nat.sub_zero, Nat.pow_zero, Nat.mod_one] at this
  exact this
/-- A byte less is told. -/
theorem tk_cut (u : Nat) (hu : u < 18446744073709551616) (l : List UInt8) (hlen : l.length = zn u - 1) (hl : ∀ i, i < zn u - 1 → l[i]? = some (zbyte u (zn u) i)) :
    ∀ (m k : Nat), m + k = zn u → 0 < m → tk l (10 - k) k (u % 128 ^ k) = (0, 0, 3) := by
  intro m
  induction m with
  | zero => intro k _ h; omega
  | succ m ih =>
    intro k hk _
    have h10 := zn_le10 u hu
    have hkn : k < zn u := by omega
    rw [show 10 - k = (9 - k) + 1 by omega, tk]
    by_cases hlast : k + 1 = zn u
    · rw [List.getElem?_eq_none (by omega)]
    · rw [hl k (by omega)]
      simp only
      rw [zbyte_toNat_more hlast]
      have hd := Nat.mod_lt (u / 128 ^ k) (show 0 < 128 by decide)
      rw [if_neg (by rintro ⟨h1, h2⟩; subst h1; omega), if_neg (by omega), if_neg (by omega)]
      have e : (u / 128 ^ k % 128 + 128) % 128 = u / 128 ^ k % 128 := by omega
      rw [e, digit_join, show 9 - k = 10 - (k + 1) by omega]
      exact ih (k + 1) (by omega) (by omega)
theorem tk_short (u : Nat) (hu : u < 18446744073709551616) : tk ((zb u).take (zn u - 1)) 10 0 0 = (0, 0, 3) := by
  have hp := zn_pos u
  have := tk_cut u hu ((zb u).take (zn u - 1)) (by rw [List.length_take, zb_length]; omega) (fun i hi => by rw [List.getElem?_take, if_pos hi]; exact zb_get u (by omega)) (zn u) 0 rfl hp
  rw [Nat.sub_zero, Nat.pow_zero, Nat.mod_one] at this
  exact this
theorem zn_eq {u k : Nat} (h1 : u < 128 ^ (k + 1)) (h2 : k = 0 ∨ 128 ^ k ≤ u) : zn u = k + 1 := by
  have h3 := zn_le k u h1
  have h4 := zn_pos u
  rcases h2 with rfl | h2
  · omega
  · rcases Nat.lt_or_ge k (zn u) with h5 | h5
    · omega
    · have h6 := zn_hi u
      have h7 : 128 ^ zn u ≤ 128 ^ k := Nat.pow_le_pow_right (by decide) h5
      omega
/-- What is read has just these bytes. -/
theorem tk_back (l : List UInt8) : ∀ (f k v u n : Nat), f + k = 10 → v < 128 ^ k → tk l f k v = (u, n, 0) →
    k < n ∧ n ≤ l.length ∧ u % 128 ^ k = v ∧ zn u = n ∧ ∀ i, k ≤ i → i < n → l[i]? = some (zbyte u n i)
  | 0, k, v, u, n, _, _, h => by simp [tk] at h
  | f + 1, k, v, u, n, hf, hv, h => by
    rw [tk] at h
    cases hl : l[k]? with
    | none => rw [hl] at h; simp at h
    | some c =>
      rw [hl] at h
      simp only at h
      have hlen : k < l.length := (List.getElem?_eq_some_iff.1 hl).1
      have hc : c.toNat < 256 := UInt8.toNat_lt _
      split at h
      · simp at h
      · split at h
        · simp at h
        · rename_i h1 h2
          have hmul := mul_in hv (by omega) hc (by omega)
          have hpos : 0 < 128 ^ k := Nat.pow_pos (by decide)
          split at h
          · rename_i h3
            have hm : c.toNat % 128 = c.toNat := Nat.mod_eq_of_lt h3
            rw [hm] at h hmul
            simp only [Prod.mk.injEq] at h
            obtain ⟨rfl, rfl, _⟩ := h
            have hdiv : (v + c.toNat * 128 ^ k) / 128 ^ k = c.toNat := by
              rw [Nat.add_mul_div_right _ _ hpos, Nat.div_eq_of_lt hv, Nat.zero_add]
            have hzn : zn (v + c.toNat * 128 ^ k) = k + 1 := by
              refine zn_eq hmul.2 ?_
              by_cases hk0 : k = 0
              · exact .inl hk0
              · right
                have : 1 * 128 ^ k ≤ c.toNat * 128 ^ k := Nat.mul_le_mul_right _ (by omega)
                omega
            refine ⟨by omega, by omega, by rw [Nat.add_mul_mod_self_right, Nat.mod_eq_of_lt hv], hzn, fun i hi1 hi2 => ?_⟩
            obtain rfl : i = k := by omega
            rw [hl]
            congr 1
            apply UInt8.toNat_inj.1
            rw [zbyte_toNat_last rfl, hdiv, hm]
          · rename_i h3
            obtain ⟨h4, h5, h6, h7, h8⟩ := tk_back l f (k + 1) _ u n (by omega) hmul.2 h
            have h9 : u % 128 ^ k = v := by
              have := congrArg (fun x => x % 128 ^ k) h6
              rw [Nat.pow_succ, Nat.mod_mul_right_mod, Nat.add_mul_mod_self_right, Nat.mod_eq_of_lt hv] at this
              exact this
            refine ⟨by omega, h5, h9, h7, fun i hi1 hi2 => ?_⟩
            by_cases hik : i = k
            · subst hik
              rw [hl]
              congr 1
              apply UInt8.toNat_inj.1
              rw [zbyte_toNat_more (by omega)]
              have h10 := digit_join u i
              rw [h9, h6] at h10
              have h11 : u / 128 ^ i % 128 = c.toNat % 128 := Nat.eq_of_mul_eq_mul_right hpos (by omega)
              omega
            · exact h8 i (by omega) hi2
theorem tk_bytes {l : List UInt8} {u n : Nat} (h : tk l 10 0 0 = (u, n, 0)) : n ≤ l.length ∧ l.take n = zb u := by
  obtain ⟨_, h2, _, h4, h5⟩ := tk_back l 10 0 0 u n rfl (by decide) h
  refine ⟨h2, List.ext_getElem? fun i => ?_⟩
  by_cases hi : i < n
  · rw [List.getElem?_take, if_pos hi, h5 i (by omega) hi, zb_get u (by omega), h4]
  · rw [List.getElem?_eq_none (by rw [List.length_take]; omega), List.getElem?_eq_none (by rw [zb_length]; omega)]
/-- At a place of a text. -/
theorem ztk_at {a r : List UInt8} {p : Nat} (hp : p = a.length) : ztk (a ++ r) (p : Int) = zgo (a ++ r) p (tk r 10 0 0) := by
  subst hp
  unfold ztk
  rw [if_neg (by simp; omega)]
  simp [zgo]
end Go.Proofs.Ytkpfagmlohcdjaa
