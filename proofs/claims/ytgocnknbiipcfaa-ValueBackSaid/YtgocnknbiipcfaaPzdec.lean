/- What a number's and a value's bytes tell: each is read back. Plain. -/
import Derived.Test.YtgocnknbiipcfaaPvput
namespace Go.Proofs.Ytgocnknbiipcfaa.K
open Go.RowKit Go.Lib
set_option linter.unusedVariables false
set_option linter.unusedSimpArgs false
theorem zb_lt {u : Nat} (h : u < 128) : zb u = [UInt8.ofNat u] := by
  unfold zb
  rw [zn_lt h]
  simp [zbyte, List.range_succ, Nat.mod_eq_of_lt h]
theorem zb_ge {u : Nat} (h : ¬ u < 128) : zb u = UInt8.ofNat (u % 128 + 128) :: zb (u / 128) := by
  have hp := zn_pos (u / 128)
  unfold zb
  rw [zn_ge h, List.range_succ_eq_map, List.map_cons, List.map_map]
  congr 1
  · unfold zbyte; rw [if_neg (by omega)]; simp
  · apply List.map_congr_left
    intro i _
    show zbyte u (zn (u / 128) + 1) (i + 1) = zbyte (u / 128) (zn (u / 128)) i
    have e : u / 128 ^ (i + 1) = u / 128 / 128 ^ i := by rw [Nat.pow_succ, Nat.mul_comm, Nat.div_div_eq_div_mul]
    unfold zbyte
    rw [e]
    by_cases h : i + 1 = zn (u / 128)
    · rw [if_pos (by omega), if_pos h]
    · rw [if_neg (by omega), if_neg h]
/-- Read a number: it, and what is left. -/
def zd : List UInt8 → Option (Nat × List UInt8)
  | [] => none
  | x :: l => if x.toNat < 128 then some (x.toNat, l) else (zd l).map fun p => (x.toNat - 128 + 128 * p.1, p.2)
theorem zd_zb : ∀ (u : Nat) (r : List UInt8), zd (zb u ++ r) = some (u, r) := by
  intro u
  induction u using Nat.strongRecOn with
  | ind u ih =>
    intro r
    by_cases h : u < 128
    · rw [zb_lt h]
      show zd (UInt8.ofNat u :: r) = _
      have e : (UInt8.ofNat u).toNat = u := by rw [UInt8.toNat_ofNat']; omega
      unfold zd
      rw [e, if_pos h]
    · rw [zb_ge h]
      show zd (UInt8.ofNat (u % 128 + 128) :: (zb (u / 128) ++ r)) = _
      have e : (UInt8.ofNat (u % 128 + 128)).toNat = u % 128 + 128 := by rw [UInt8.toNat_ofNat']; omega
      unfold zd
      rw [e, if_neg (by omega), ih (u / 128) (by omega) r]
      simp only [Option.map_some]
      congr 2; omega
theorem zb_app {u w : Nat} {r s : List UInt8} (h : zb u ++ r = zb w ++ s) : u = w ∧ r = s := by
  have := zd_zb u r
  rw [h, zd_zb] at this
  cases this
  exact ⟨rfl, rfl⟩
theorem zb_inj {u w : Nat} (h : zb u = zb w) : u = w := (zb_app (r := []) (s := []) (by simpa using h)).1
theorem zfold_inj {a b : Int} (h : zfold a = zfold b) : a = b := by rw [← zback_fold a, ← zback_fold b, h]
theorem beB_inj : ∀ (k u w : Nat), u < 256 ^ k → w < 256 ^ k → beB k u = beB k w → u = w
  | 0, u, w, h1, h2, _ => by simp at h1 h2; omega
  | k + 1, u, w, h1, h2, h => by
    simp only [beB] at h
    obtain ⟨e1, e2⟩ := List.append_inj' h rfl
    rw [Nat.pow_succ] at h1 h2
    have := beB_inj k (u / 256) (w / 256) (by omega) (by omega) e1
    have e3 : (UInt8.ofNat (u % 256)).toNat = (UInt8.ofNat (w % 256)).toNat := by rw [List.cons.inj e2 |>.1]
    rw [UInt8.toNat_ofNat', UInt8.toNat_ofNat'] at e3
    omega
/-- Two values that may be have the same bytes just if they are the same, whatever stands behind them. -/
theorem bytes_inj {v w : GValue} (hv : chkV v = 0) (hw : chkV w = 0) (bv : u64B v.Bits) (bw : u64B w.Bits) {r s : List UInt8} (h : v.Kind :: bytesV v ++ r = w.Kind :: bytesV w ++ s) : v = w ∧ r = s := by
  obtain ⟨k, n, b, t⟩ := v
  obtain ⟨k', n', b', t'⟩ := w
  rw [List.cons_append, List.cons_append] at h
  obtain ⟨e1, h⟩ := List.cons.inj h
  simp only at e1 bv bw
  subst e1
  unfold bytesV at h
  unfold chkV at hv hw
  simp only at h hv hw
  by_cases k1 : k.toNat = 1
  · rw [if_pos k1] at hv hw h
    rw [if_pos k1] at h
    obtain ⟨h1, h2⟩ := zb_app h
    have := zfold_inj h1
    by_cases c1 : n < -4611686018427387904 ∨ 4611686018427387904 < n
    · rw [if_pos c1] at hv; omega
    · by_cases c2 : n' < -4611686018427387904 ∨ 4611686018427387904 < n'
      · rw [if_pos c2] at hw; omega
      · rw [if_neg c1] at hv
        rw [if_neg c2] at hw
        by_cases d1 : b = 0 ∧ t = []
        · by_cases d2 : b' = 0 ∧ t' = []
          · rw [this, d1.1, d1.2, d2.1, d2.2]; exact ⟨rfl, h2⟩
          · rw [if_neg d2] at hw; omega
        · rw [if_neg d1] at hv; omega
  · rw [if_neg k1] at hv hw h
    rw [if_neg k1] at h
    by_cases k2 : k.toNat = 2
    · rw [if_pos k2] at hv hw h
      rw [if_pos k2] at h
      by_cases c1 : n < 0 ∨ 1 < n
      · rw [if_pos c1] at hv; omega
      · by_cases c2 : n' < 0 ∨ 1 < n'
        · rw [if_pos c2] at hw; omega
        · rw [if_neg c1] at hv
          rw [if_neg c2] at hw
          obtain ⟨e3, e4⟩ := List.cons.inj h
          have e5 := congrArg UInt8.toNat e3
          unfold toU8 at e5
          rw [UInt8.toNat_ofNat', UInt8.toNat_ofNat'] at e5
          by_cases d1 : b = 0 ∧ t = []
          · by_cases d2 : b' = 0 ∧ t' = []
            · rw [d1.1, d1.2, d2.1, d2.2, show n = n' by omega]; exact ⟨rfl, e4⟩
            · rw [if_neg d2] at hw; omega
          · rw [if_neg d1] at hv; omega
    · rw [if_neg k2] at hv hw h
      rw [if_neg k2] at h
      by_cases k3 : k.toNat = 3
      · rw [if_pos k3] at hv hw h
        rw [if_pos k3] at h
        obtain ⟨e3, e4⟩ := List.append_inj h (by rw [beB_len, beB_len])
        have e5 := beB_inj 8 _ _ (by have := bv.2; omega) (by have := bw.2; omega) e3
        have e6 : b = b' := by have := bv.1; have := bw.1; omega
        subst e6
        by_cases c1 : clean b ≠ b
        · rw [if_pos c1] at hv; omega
        · rw [if_neg c1] at hv hw
          by_cases d1 : n = 0 ∧ t = []
          · by_cases d2 : n' = 0 ∧ t' = []
            · rw [d1.1, d1.2, d2.1, d2.2]; exact ⟨rfl, e4⟩
            · rw [if_neg d2] at hw; omega
          · rw [if_neg d1] at hv; omega
      · rw [if_neg k3] at hv hw h
        rw [if_neg k3] at h
        by_cases k4 : k.toNat = 4
        · rw [if_pos k4] at hv hw
          rw [List.append_assoc, List.append_assoc] at h
          obtain ⟨e3, e4⟩ := zb_app h
          obtain ⟨e5, e6⟩ := List.append_inj e4 e3
          subst e5
          by_cases c1 : 24 < t.length
          · rw [if_pos c1] at hv; omega
          · rw [if_neg c1] at hv hw
            by_cases d1 : n = 0 ∧ b = 0
            · by_cases d2 : n' = 0 ∧ b' = 0
              · rw [d1.1, d1.2, d2.1, d2.2]; exact ⟨rfl, e6⟩
              · rw [if_neg d2] at hw; omega
            · rw [if_neg d1] at hv; omega
        · rw [if_neg k4] at hv; omega
end Go.Proofs.Ytgocnknbiipcfaa.K
