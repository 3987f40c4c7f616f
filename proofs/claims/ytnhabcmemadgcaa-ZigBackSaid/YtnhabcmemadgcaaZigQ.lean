/- The document's Take; TakeInt. -/
import Derived.Test.YtnhabcmemadgcaaZigR
namespace Go.Proofs.Ytnhabcmemadgcaa
open Go.RowKit
set_option linter.unusedVariables false

theorem mul_in {v k c : Nat} (hv : v < 128 ^ k) (hk : k ≤ 9) (hc : c < 256) (h9 : k = 9 → c ≤ 1) : v + c % 128 * 128 ^ k < 18446744073709551616 ∧ v + c % 128 * 128 ^ k < 128 ^ (k + 1) := by
  have h128 : (128 : Nat) ^ k ≤ 128 ^ 9 := Nat.pow_le_pow_right (by decide) hk
  have e9 : (128 : Nat) ^ 9 = 9223372036854775808 := by decide
  refine ⟨?_, ?_⟩
  · by_cases hk9 : k = 9
    · subst hk9; have := h9 rfl; rw [e9] at *; omega
    · have h8 : (128 : Nat) ^ k ≤ 128 ^ 8 := Nat.pow_le_pow_right (by decide) (by omega)
      have e8 : (128 : Nat) ^ 8 = 72057594037927936 := by decide
      have h2 : c % 128 * 128 ^ k ≤ 127 * 128 ^ 8 := Nat.mul_le_mul (by omega) h8
      rw [e8] at h2; omega
  · rw [Nat.pow_succ]
    have : c % 128 * 128 ^ k ≤ 127 * 128 ^ k := (Nat.mul_le_mul_right _ (by omega))
    omega
theorem add_in {v c m : Nat} (h : v + c % 128 * m < 18446744073709551616) : IntKind.u64.wrap ((v : Int) + IntKind.u64.wrap ((c : Int) % 128 * (m : Int))) = ((v + c % 128 * m : Nat) : Int) := by
  have e : (c : Int) % 128 * (m : Int) = ((c % 128 * m : Nat) : Int) := by rw [Int.natCast_mul]; rfl
  rw [IntKind.wrap_u64, IntKind.wrap_u64, e]
  omega
set_option maxRecDepth 100000 in
theorem rtake_c (s : ByteArray) (a : Int) (hs : s.size ≤ 1099511627776) : Pure Try.prog 18 #[.string s, .int .i64 a] (ztkV (ztk s.data.toList a)) := by
  intro w
  by_cases hneg : a < 0
  · have e : ztk s.data.toList a = (0, 0, 2) := by unfold ztk; rw [if_pos (.inl hneg)]
    rw [e]
    go_enter Try.func18, Try.ntmps18
    go_wp2
    go_ret3
    exact ⟨rfl, rfl⟩
  by_cases hbig : (s.size : Int) < a
  · have e : ztk s.data.toList a = (0, 0, 2) := by unfold ztk; rw [if_pos (.inr (by simpa using hbig))]
    rw [e]
    have hneg' : decide (a < 0) = false := by simpa using hneg
    go_enter Try.func18, Try.ntmps18
    go_wp2
    go_ret3
    exact ⟨rfl, rfl⟩
  obtain ⟨p, rfl⟩ := Int.eq_ofNat_of_zero_le (by omega : 0 ≤ a)
  have hp : p ≤ s.size := by omega
  have e : ztk s.data.toList p = zgo s.data.toList p (tk (s.data.toList.drop p) 10 0 0) := by
    unfold ztk; rw [if_neg (by simp; omega)]; rfl
  rw [e]
  clear hneg hbig e
  have q1 : decide ((p : Int) < 0) = false := by simp
  have q2 : decide (s.size < p) = false := by simp; omega
  go_enter Try.func18, Try.ntmps18
  go_wp2
  go_loop [7, 8, 9] (fun u m i => ∃ (k v : Nat), k ≤ 9 ∧ u = .int .u64 v ∧ m = .int .u64 ((128 ^ k : Nat) : Int) ∧ i = .int .i64 k ∧ v < 128 ^ k ∧ Hid (tk (s.data.toList.drop p) 10 0 0 = tk (s.data.toList.drop p) (10 - k) k v)) (fun _ _ i => 10 - (intOf i).toNat)
  case atStart => exact ⟨0, 0, by omega, rfl, rfl, rfl, by decide, rfl⟩
  case round =>
    obtain ⟨k, v, hk, rfl, rfl, rfl, hv, hz⟩ := hrel
    have hlt : k < 10 := by omega
    have hm : 128 ^ k ≤ 9223372036854775808 := Nat.le_trans (Nat.pow_le_pow_right (by decide) hk) (by decide)
    by_cases hin : p + k < s.size
    · obtain ⟨c, hc⟩ : ∃ c : Nat, s[p + k].toNat = c := ⟨_, rfl⟩
      have hc256 : c < 256 := by rw [← hc]; exact UInt8.toNat_lt _
      have hzk : tk (s.data.toList.drop p) (10 - k) k v = if k = 9 ∧ 1 < c then (0, 0, 8) else if 0 < k ∧ c = 0 then (0, 0, 4) else
          if c < 128 then (v + c % 128 * 128 ^ k, k + 1, 0) else tk (s.data.toList.drop p) (9 - k) (k + 1) (v + c % 128 * 128 ^ k) := by
        have hg : (s.data.toList.drop p)[k]? = some s[p + k] := by
          rw [List.getElem?_drop]; simp [hin]; rfl
        rw [show 10 - k = (9 - k) + 1 by omega, tk, hg]
        simp only [hc]
      have hz2 := hz.out.trans hzk
      clear hzk hz
      have hin2 : ¬ (k = 9 ∧ 1 < c) → v + c % 128 * 128 ^ k < 18446744073709551616 ∧ v + c % 128 * 128 ^ k < 128 ^ (k + 1) := fun h => mul_in hv hk hc256 (by omega)
      have hsu : 128 ^ (k + 1) = 128 ^ k * 128 := Nat.pow_succ ..
      rw [hsu] at hin2
      clear hsu
      generalize hmm : 128 ^ k = m at *
      have Hm := Lib.hid hmm
      clear hmm
      by_cases h9 : k = 9 ∧ 1 < c
      · rw [if_pos h9] at hz2
        have Hz := Lib.hid hz2
        have b1 : ((k : Int) == 9) = true := by simp; omega
        have b2 : (1 : Int) < (c : Int) := by omega
        have H9 := Lib.hid h9
        clear hz2 h9
        go_wp2
        go_ret3
        exact ⟨by rw [Hz.out]; rfl, rfl⟩
      · rw [if_neg h9] at hz2
        by_cases h0 : 0 < k ∧ c = 0
        · rw [if_pos h0] at hz2
          have Hz := Lib.hid hz2
          obtain ⟨hk0, rfl⟩ := h0
          clear hz2 h9
          have hb : (((k : Int) == 9) = true) ∨ (((k : Int) == 9) = false) := by cases ((k : Int) == 9) <;> simp
          rcases hb with b1 | b1
          · go_wp2
            go_ret3
            exact ⟨by rw [Hz.out]; rfl, rfl⟩
          · go_wp2
            go_ret3
            exact ⟨by rw [Hz.out]; rfl, rfl⟩
        · rw [if_neg h0] at hz2
          have hin3 := hin2 h9
          clear hin2
          have Hin := Lib.hid hin3
          clear hin3
          have hc2 : c % 128 < 128 := by omega
          have hb : (((k : Int) == 9) = true ∧ c ≤ 1) ∨ (((k : Int) == 9) = false) := by
            by_cases hk9 : k = 9
            · left; simp; omega
            · right; simp; omega
          have hb2 : (((c : Int) == 0) = true ∧ ¬ 0 < k) ∨ (((c : Int) == 0) = false) := by
            by_cases hc0 : c = 0
            · left; simp; omega
            · right; simp; omega
          have h9' : k = 9 → c ≤ 1 := by omega
          clear h9 h0
          have Hh9 := Lib.hid h9'
          clear h9'
          by_cases hc128 : c < 128
          · rw [if_pos hc128] at hz2
            have Hz := Lib.hid hz2
            clear hz2
            rcases hb with ⟨b1, hc1⟩ | b1 <;> rcases hb2 with ⟨b3, hk0⟩ | b3
            all_goals
              go_wp2
              go_ret3
              exact ⟨ret_zgo Hz.out (is_int (add_in Hin.out.1)) (is_int (by simp; omega)) rfl, rfl⟩
          · rw [if_neg hc128] at hz2
            have Hz := Lib.hid hz2
            clear hz2
            have hk8 : k + 1 ≤ 9 := by have := Hh9.out; omega
            rcases hb2 with ⟨b3, hk0⟩ | b3
            · exfalso; simp at b3; omega
            · have b1 : ((k : Int) == 9) = false := by simp; omega
              have hm8 : m ≤ 72057594037927936 := by
                rw [← Hm.out]; exact Nat.le_trans (Nat.pow_le_pow_right (by decide) (by omega : k ≤ 8)) (by decide)
              go_wp2
              go_round
              case rel => exact ⟨k + 1, v + c % 128 * m, hk8, is_int (add_in Hin.out.1), is_int (by rw [Nat.pow_succ, Hm.out]; omega), by go_num, by rw [Nat.pow_succ, Hm.out]; exact Hin.out.2, by rw [show 10 - (k + 1) = 9 - k by omega]; exact Hz.out⟩
              case measure => simp [intOf]; omega
    · go_wp2
      go_ret3
      have e : tk (s.data.toList.drop p) (10 - k) k v = (0, 0, 3) := by
        rw [show 10 - k = (9 - k) + 1 by omega, tk, List.getElem?_eq_none (by simp; omega)]
      refine ⟨?_, rfl⟩
      rw [hz.out, e]; rfl
theorem takeint_c (s : ByteArray) (a : Int) (hs : s.size ≤ 1099511627776) (r : Nat × Nat × Nat) (hr : ztk s.data.toList a = r) (hlt : r.1 < 18446744073709551616) :
    Pure Try.prog 19 #[.string s, .int .i64 a] (.tuple #[.int .i64 (zback r.1), .int .i64 r.2.1, .int .i64 r.2.2]) := by
  intro w
  have h := take_c s a hs
  rw [hr] at h
  unfold ztkV at h
  have H := Lib.hid h
  have HR := Lib.hid hr
  clear h hr
  obtain ⟨u, n, e⟩ := r
  simp only at *
  go_enter Try.func19, Try.ntmps19
  go_wp2_with (first
    | (go_at_call 17; refine (H.out _).mono ?_; rintro _ _ ⟨rfl, rfl⟩)
    | (go_at_call 8; refine (back_c _ hlt _).mono ?_; rintro _ _ ⟨rfl, rfl⟩))
  go_ret3
  exact ⟨rfl, rfl⟩
theorem tk_lt (l : List UInt8) : ∀ (f i u : Nat), f + i = 10 → u < 128 ^ i → (tk l f i u).1 < 18446744073709551616
  | 0, _, _, _, _ => by simp [tk]
  | f + 1, i, u, h, hu => by
    rw [tk]
    cases l[i]? with
    | none => simp
    | some c =>
      simp only
      split
      · simp
      · split
        · simp
        · rename_i h1 h2
          have hc : c.toNat < 256 := UInt8.toNat_lt _
          have := mul_in hu (by omega) hc (by omega)
          split
          · exact this.1
          · exact tk_lt l f (i + 1) _ (by omega) this.2
theorem ztk_lt (l : List UInt8) (a : Int) : (ztk l a).1 < 18446744073709551616 := by
  unfold ztk
  split
  · decide
  · exact tk_lt _ 10 0 0 rfl (by decide)
end Go.Proofs.Ytnhabcmemadgcaa
