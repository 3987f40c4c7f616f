/- zig.Put, the document's Put. -/
import Derived.Test.YtnhabcmemadgcaaZigV
namespace Go.Proofs.Ytnhabcmemadgcaa
open Go.RowKit
set_option linter.unusedVariables false

theorem or128 : ∀ x : Fin 256, bits .or .u8 (x.val : Int) 128 = ((x.val % 128 + 128 : Nat) : Int) := by decide +kernel
theorem andNot128 : ∀ x : Fin 256, bits .andNot .u8 (x.val : Int) 128 = ((x.val % 128 : Nat) : Int) := by decide +kernel
theorem pow128 (k : Nat) : (2 : Nat) ^ (7 * k) = 128 ^ k := by rw [Nat.pow_mul]
theorem or_at (u k : Nat) : bits .or .u8 ((u : Int) / 2 ^ (7 * k) % 256) 128 = ((u / 128 ^ k % 128 + 128 : Nat) : Int) := by
  have e : (u : Int) / 2 ^ (7 * k) % 256 = ((u / 128 ^ k % 256 : Nat) : Int) := by
    rw [← pow128]; simp
  have := or128 ⟨u / 128 ^ k % 256, Nat.mod_lt _ (by decide)⟩
  simp only at this
  rw [e, this]
  have : u / 128 ^ k % 256 % 128 = u / 128 ^ k % 128 := by omega
  rw [this]
theorem last_at (u k : Nat) : bits .andNot .u8 (bits .or .u8 ((u : Int) / 2 ^ (7 * k) % 256) 128) 128 = ((u / 128 ^ k % 128 : Nat) : Int) := by
  rw [or_at]
  have := andNot128 ⟨u / 128 ^ k % 128 + 128, by have := Nat.mod_lt (u / 128 ^ k) (show 0 < 128 by decide); omega⟩
  simp only at this
  rw [this]
  congr 1
  omega
theorem zbyte_last {u n k : Nat} (h : k + 1 = n) : ((zbyte u n k).toNat : Int) = ((u / 128 ^ k % 128 : Nat) : Int) := by
  unfold zbyte; rw [if_pos h]
  have := Nat.mod_lt (u / 128 ^ k) (show 0 < 128 by decide)
  simp; omega
theorem zbyte_more {u n k : Nat} (h : ¬ k + 1 = n) : ((zbyte u n k).toNat : Int) = ((u / 128 ^ k % 128 + 128 : Nat) : Int) := by
  unfold zbyte; rw [if_neg h]
  have := Nat.mod_lt (u / 128 ^ k) (show 0 < 128 by decide)
  simp; omega
def zpre (u k : Nat) : List UInt8 := (List.range k).map (zbyte u (zn u))
theorem zpre_succ (u k : Nat) : zpre u (k + 1) = zpre u k ++ [zbyte u (zn u) k] := by simp [zpre, List.range_succ]
theorem zpre_all (u : Nat) : zpre u (zn u) = zb u := rfl
theorem zpre_length (u k : Nat) : (zpre u k).length = k := by simp [zpre]
theorem push_eq {l : List UInt8} {u k : Nat} {x : Int} (h : x = ((zbyte u (zn u) k).toNat : Int)) : bytesC (l ++ zpre u k) ++ [.int .u8 x] = bytesC (l ++ zpre u (k + 1)) := by
  rw [zpre_succ, ← List.append_assoc, bytesC_append (l ++ zpre u k)]
  simp [bytesC, h]
set_option maxHeartbeats 400000 in
theorem put_c (l : List UInt8) (b : Value) (u : Nat) (h : u < 18446744073709551616) (w : World) (hb : IsBytes l b w) (hl : l.length ≤ 1099511627776) : Gives Try.prog 10 #[b, .int .u64 u] w (Owns w.heap.size 5 1 (bytesC (l ++ zb u))) := by
  have hz10 := zn_le10 u h
  have hz1 := zn_pos u
  obtain ⟨a, n, cap, rfl, hln, hnc, hcm, han, hcell⟩ := id hb
  rw [bytesC_length, Nat.mul_one] at hln
  have hn40 : n ≤ 1099511627776 := by omega
  have Hln := Lib.hid hln
  clear hln hcell han hcm
  go_enter Try.func10, Try.ntmps10
  go_wp2_with (first
    | (go_at_call 12; refine (size_c u h _).mono ?_; rintro _ _ ⟨rfl, rfl⟩)
    | (at_make; refine wpList_mk elemU8 rfl _ _ rfl rfl rfl (by omega) (by omega) (by omega) ?_; intro v0 w0 ho0 hx0)
    | (at_builtin; refine wpList_appx elemU8 rfl _ _ rfl rfl rfl hx0 ho0 (hb.ext hx0) (bytesC_one l) (by simp [bytesC_length]; omega) ?_; intro v1 w1 ho1 hx1 hk1))
  go_loopw [6, 20] (fun o i wr => ∃ k : Nat, k ≤ zn u ∧ i = .int .i64 k ∧ Owns w.heap.size 5 1 (bytesC (l ++ zpre u k)) o wr ∧ Ext w wr) (fun _ i _ => zn u - (intOf i).toNat)
  case atStart => exact ⟨0, by omega, rfl, by simpa [zpre, bytesC] using ho1, hx1⟩
  case round =>
    obtain ⟨k, hk, rfl, ho, hx⟩ := hrel
    clear ho0 ho1 hx0 hx1
    by_cases hlt : k < zn u
    · by_cases hlast : k + 1 = zn u
      · have e1 : ((k : Int) == (zn u : Int) - 1) = true := by simp; omega
        go_wp2_with (at_builtin; refine wpList_push elemU8 rfl _ _ rfl [_] rfl rfl hx ho rfl (by simp [Value.oneCell']) (by simp [bytesC_length, zpre_length]; omega) ?_; intro v1 w1 ho1 hx1 hk1)
        rw [push_eq ((last_at u k).trans (zbyte_last hlast).symm)] at ho1
        go_roundw
        case rel => exact ⟨k + 1, by omega, by go_num, ho1, hx1⟩
        case measure => simp [intOf]; omega
      · have e1 : ((k : Int) == (zn u : Int) - 1) = false := by simp; omega
        go_wp2_with (at_builtin; refine wpList_push elemU8 rfl _ _ rfl [_] rfl rfl hx ho rfl (by simp [Value.oneCell']) (by simp [bytesC_length, zpre_length]; omega) ?_; intro v1 w1 ho1 hx1 hk1)
        rw [push_eq ((or_at u k).trans (zbyte_more hlast).symm)] at ho1
        go_roundw
        case rel => exact ⟨k + 1, by omega, by go_num, ho1, hx1⟩
        case measure => simp [intOf]; omega
    · obtain rfl : k = zn u := by omega
      go_wp2
      go_ret
      exact ⟨_, rfl, hx, ho⟩
end Go.Proofs.Ytnhabcmemadgcaa
