/- zig.Take, the document's Take; TakeInt. -/
import Derived.Test.YtnhabcmemadgcaaZigT
namespace Go.Proofs.Ytnhabcmemadgcaa
open Go.RowKit
set_option linter.unusedVariables false

/-- A number read off bytes, from place i on, u being what was read: the number, the place behind it, the error. -/
def tk (l : List UInt8) : Nat → Nat → Nat → Nat × Nat × Nat
  | 0, _, _ => (0, 0, 8)
  | f + 1, i, u => match l[i]? with
    | none => (0, 0, 3)
    | some c => if i = 9 ∧ 1 < c.toNat then (0, 0, 8) else if 0 < i ∧ c.toNat = 0 then (0, 0, 4) else
      if c.toNat < 128 then (u + c.toNat % 128 * 128 ^ i, i + 1, 0) else tk l f (i + 1) (u + c.toNat % 128 * 128 ^ i)
/-- The same from a place of a text. -/
def ztk (l : List UInt8) (a : Int) : Nat × Nat × Nat :=
  if a < 0 ∨ (l.length : Int) < a then (0, 0, 2) else
    let r := tk (l.drop a.toNat) 10 0 0
    (r.1, if r.2.2 = 0 then a.toNat + r.2.1 else 0, r.2.2)
def ztkV (r : Nat × Nat × Nat) : Value := .tuple #[.int .u64 r.1, .int .i64 r.2.1, .int .i64 r.2.2]
def zgo (l : List UInt8) (a : Nat) (r : Nat × Nat × Nat) : Nat × Nat × Nat := (r.1, if r.2.2 = 0 then a + r.2.1 else 0, r.2.2)

set_option maxHeartbeats 1000000 in
theorem tup3 {a b c a' b' c' : Value} (h1 : a = a') (h2 : b = b') (h3 : c = c') : Ending.returned (.tuple #[a, b, c]) = .returned (.tuple #[a', b', c']) := by rw [h1, h2, h3]
theorem ret_zgo {l : List UInt8} {p u n e : Nat} {r : Nat × Nat × Nat} {a b c : Value} (hr : r = (u, n, e)) (h1 : a = .int .u64 u) (h2 : b = .int .i64 ((if e = 0 then p + n else 0 : Nat) : Int)) (h3 : c = .int .i64 e) :
    Ending.returned (.tuple #[a, b, c]) = .returned (ztkV (zgo l p r)) := by rw [h1, h2, h3, hr]; rfl
theorem or_in {v k c : Nat} {m : Int} (hv : v < 128 ^ k) (hk : k ≤ 9) (hc : c < 256) (h9 : k = 9 → c ≤ 1) (hm : m = 2 ^ (7 * k)) :
    bits .or .u64 (v : Int) (IntKind.u64.wrap (IntKind.u64.wrap (bits .andNot .u8 (c : Int) 128) * m)) = ((v + c % 128 * 128 ^ k : Nat) : Int) := by
  subst hm
  have h1 := andNot128 ⟨c, hc⟩
  simp only at h1
  have hp : (2 : Int) ^ (7 * k) = ((128 ^ k : Nat) : Int) := by rw [← pow128]; simp
  have h128 : (128 : Nat) ^ k ≤ 128 ^ 9 := Nat.pow_le_pow_right (by decide) hk
  have e9 : (128 : Nat) ^ 9 = 9223372036854775808 := by decide
  have hlt : c % 128 * 128 ^ k < 18446744073709551616 := by
    by_cases hk9 : k = 9
    · subst hk9; have := h9 rfl; rw [e9]; omega
    · have h8 : (128 : Nat) ^ k ≤ 128 ^ 8 := Nat.pow_le_pow_right (by decide) (by omega)
      have e8 : (128 : Nat) ^ 8 = 72057594037927936 := by decide
      have h2 : c % 128 * 128 ^ k ≤ 127 * 128 ^ 8 := Nat.mul_le_mul (by omega) h8
      rw [e8] at h2; omega
  rw [h1, IntKind.wrap_u64, IntKind.wrap_u64, hp]
  have e1 : ((c % 128 : Nat) : Int) % 18446744073709551616 * ((128 ^ k : Nat) : Int) % 18446744073709551616 = ((c % 128 * 128 ^ k : Nat) : Int) := by
    have e2 : ((c % 128 : Nat) : Int) % 18446744073709551616 = ((c % 128 : Nat) : Int) := by omega
    rw [e2, ← Int.natCast_mul]
    omega
  rw [e1, u64_or_nat _ _ (by omega) hlt, Nat.or_comm, nat_join (7 * k) _ _ (by rw [pow128, Nat.mul_mod_left]) (by rw [pow128]; exact hv), Nat.add_comm]
set_option maxRecDepth 100000 in
theorem take_c (s : ByteArray) (a : Int) (hs : s.size ≤ 1099511627776) : Pure Try.prog 17 #[.string s, .int .i64 a] (ztkV (ztk s.data.toList a)) := by
  intro w
  by_cases hneg : a < 0
  · have e : ztk s.data.toList a = (0, 0, 2) := by unfold ztk; rw [if_pos (.inl hneg)]
    rw [e]
    go_enter Try.func17, Try.ntmps17
    go_wp2
    go_ret3
    exact ⟨rfl, rfl⟩
  by_cases hbig : (s.size : Int) < a
  · have e : ztk s.data.toList a = (0, 0, 2) := by unfold ztk; rw [if_pos (.inr (by simpa using hbig))]
    rw [e]
    have hneg' : decide (a < 0) = false := by simpa using hneg
    go_enter Try.func17, Try.ntmps17
    go_wp2
    go_ret3
    exact ⟨rfl, rfl⟩
  obtain ⟨p, rfl⟩ := Int.eq_ofNat_of_zero_le (by omega : 0 ≤ a)
  have hp : p ≤ s.size := by omega
  have e : ztk s.data.toList p = zgo s.data.toList p (tk (s.data.toList.drop p) 10 0 0) := by
    unfold ztk; rw [if_neg (by simp; omega)]; rfl
  rw [e]
  clear hneg hbig e
  have q1 : decide ((p : Int) < 0) = false := by simp
  have q2 : decide (s.size < p) = false := by simp; omega
  go_enter Try.func17, Try.ntmps17
  go_wp2
  go_loop [4, 17] (fun u i => ∃ (k v : Nat), k ≤ 10 ∧ u = .int .u64 v ∧ i = .int .i64 k ∧ v < 128 ^ k ∧ Hid (tk (s.data.toList.drop p) 10 0 0 = tk (s.data.toList.drop p) (10 - k) k v)) (fun _ i => 10 - (intOf i).toNat)
  case atStart => exact ⟨0, 0, by omega, rfl, rfl, by decide, rfl⟩
  case round =>
    obtain ⟨k, v, hk, rfl, rfl, hv, hz⟩ := hrel
    by_cases hlt : k < 10
    · by_cases hin : p + k < s.size
      · obtain ⟨c, hc⟩ : ∃ c : Nat, s[p + k].toNat = c := ⟨_, rfl⟩
        have hc256 : c < 256 := by rw [← hc]; exact UInt8.toNat_lt _
        have hzk : tk (s.data.toList.drop p) (10 - k) k v = if k = 9 ∧ 1 < c then (0, 0, 8) else if 0 < k ∧ c = 0 then (0, 0, 4) else
            if c < 128 then (v + c % 128 * 128 ^ k, k + 1, 0) else tk (s.data.toList.drop p) (9 - k) (k + 1) (v + c % 128 * 128 ^ k) := by
          have hg : (s.data.toList.drop p)[k]? = some s[p + k] := by
            rw [List.getElem?_drop]; simp [hin]; rfl
          rw [show 10 - k = (9 - k) + 1 by omega, tk, hg]
          simp only [hc]
        have hz2 := hz.out.trans hzk
        clear hzk hz
        by_cases h9 : k = 9
        · subst h9
          by_cases hc1 : 1 < c
          · rw [if_pos ⟨rfl, hc1⟩] at hz2
            have Hz := Lib.hid hz2
            clear hz2
            go_wp2
            go_ret3
            exact ⟨by rw [Hz.out]; rfl, rfl⟩
          · by_cases hc0 : c = 0
            · subst hc0
              rw [if_neg (by omega), if_pos (by omega)] at hz2
              have Hz := Lib.hid hz2
              clear hz2
              go_wp2
              go_ret3
              exact ⟨by rw [Hz.out]; rfl, rfl⟩
            · obtain rfl : c = 1 := by omega
              rw [if_neg (by omega), if_neg (by omega), if_pos (by omega)] at hz2
              have Hz := Lib.hid hz2
              clear hz2
              go_wp2
              go_ret3
              exact ⟨ret_zgo Hz.out (is_int (or_in (c := 1) hv (by omega) (by omega) (by omega) (by decide))) (is_int (by simp; omega)) rfl, rfl⟩
        · have b1 : ((k : Int) == 9) = false := by simp; omega
          rw [if_neg (by omega)] at hz2
          by_cases h0 : 0 < k ∧ c = 0
          · obtain ⟨hk0, rfl⟩ := h0
            rw [if_pos ⟨hk0, rfl⟩] at hz2
            have Hz := Lib.hid hz2
            have H9 := Lib.hid h9
            clear hz2 h9
            go_wp2
            go_ret3
            exact ⟨by rw [Hz.out]; rfl, rfl⟩
          · rw [if_neg h0] at hz2
            by_cases hc128 : c < 128
            · rw [if_pos hc128] at hz2
              have Hz := Lib.hid hz2
              clear hz2
              have b0 : (decide ((0 : Int) < (k : Int)) && ((c : Int) == 0)) = false := by
                simp; omega
              by_cases hk0 : 0 < k
              · have b2 : ((c : Int) == 0) = false := by simp; omega
                go_wp2
                go_ret3
                exact ⟨ret_zgo Hz.out (is_int (or_in hv (by omega) (by omega) (by omega) rfl)) (is_int (by simp; omega)) rfl, rfl⟩
              · go_wp2
                go_ret3
                exact ⟨ret_zgo Hz.out (is_int (or_in hv (by omega) (by omega) (by omega) rfl)) (is_int (by simp; omega)) rfl, rfl⟩
            · rw [if_neg hc128] at hz2
              have Hz := Lib.hid hz2
              clear hz2
              by_cases hk0 : 0 < k
              · have b2 : ((c : Int) == 0) = false := by simp; omega
                go_wp2
                go_round
                case rel => exact ⟨k + 1, v + c % 128 * 128 ^ k, by omega, is_int (or_in hv (by omega) (by omega) (by omega) rfl), by go_num, by rw [Nat.pow_succ]; have : c % 128 * 128 ^ k ≤ 127 * 128 ^ k := (Nat.mul_le_mul_right _ (by omega)); omega, by rw [show 10 - (k + 1) = 9 - k by omega]; exact Hz.out⟩
                case measure => simp [intOf]; omega
              · go_wp2
                go_round
                case rel => exact ⟨k + 1, v + c % 128 * 128 ^ k, by omega, is_int (or_in hv (by omega) (by omega) (by omega) rfl), by go_num, by rw [Nat.pow_succ]; have : c % 128 * 128 ^ k ≤ 127 * 128 ^ k := (Nat.mul_le_mul_right _ (by omega)); omega, by rw [show 10 - (k + 1) = 9 - k by omega]; exact Hz.out⟩
                case measure => simp [intOf]; omega
      · go_wp2
        go_ret3
        have e : tk (s.data.toList.drop p) (10 - k) k v = (0, 0, 3) := by
          rw [show 10 - k = (9 - k) + 1 by omega, tk, List.getElem?_eq_none (by simp; omega)]
        refine ⟨?_, rfl⟩
        rw [hz.out, e]; rfl
    · obtain rfl : k = 10 := by omega
      go_wp2
      go_ret3
      exact ⟨by rw [hz.out]; rfl, rfl⟩
end Go.Proofs.Ytnhabcmemadgcaa
