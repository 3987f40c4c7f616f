/- What zig's functions and the document's answer compute. -/
import Derived.Test.YtnhabcmemadgcaaMem
import Derived.Test.YtnhabcmemadgcaaZigP
import Derived.Test.YtnhabcmemadgcaaLen
import Derived.Test.YtnhabcmemadgcaaChecked
import Derived.Lib.Hide
import Derived.Laws.DeepNot64
import Derived.Lib.BitFns
import Derived.Lib.Walk
import Derived.Lib.Small
import Derived.Lib.Strings
import Derived.Lib.Slices
import Derived.Lib.Zigzag
namespace Go.Proofs.Ytnhabcmemadgcaa
open Go.RowKit
set_option linter.unusedVariables false
abbrev Is (c : Value) : SP := fun v _ => v = c
theorem Pure.gives {P : Program} {f : FuncId} {args : Array Value} {v : Value} (h : Pure P f args v) (w : World) : Gives P f args w (Is v) :=
  Calls.mono (h w) fun e w' ⟨he, hw⟩ => ⟨v, he, hw ▸ Ext.refl w, rfl⟩
theorem is_ret {k : IntKind} {a b : Int} (h : a = b) : Ending.returned (.int k a) = .returned (.int k b) := by rw [h]
theorem is_int {k : IntKind} {a b : Int} (h : a = b) : Value.int k a = Value.int k b := by rw [h]
theorem size_c (u : Nat) (h : u < 18446744073709551616) : Pure Try.prog 12 #[.int .u64 u] (.int .i64 (zn u)) := by
  intro w
  have hb := Lib.bitLen_le u 64 (by omega) (by simpa using h)
  have hn := zn_bits u h
  have Hn := Lib.hid hn
  clear hn
  go_enter Try.func12, Try.ntmps12
  go_wp2_with (go_at_call 21; refine (len64_c (u : Int) (by omega) (by omega) _).mono ?_; rintro _ _ ⟨rfl, rfl⟩)
  go_ret
  exact ⟨is_ret (by rw [← Hn.out]; omega), rfl⟩
theorem xorN (n : Int) (h0 : -9223372036854775808 ≤ n) (h1 : n ≤ 9223372036854775807) :
    bits .xor .u64 (IntKind.u64.wrap (IntKind.u64.wrap n * 2)) (IntKind.u64.wrap (n / 9223372036854775808)) = (zfold n : Nat) := by
  simp only [IntKind.wrap_u64]
  by_cases h : n < 0
  · have e1 : n / 9223372036854775808 % 18446744073709551616 = 18446744073709551615 := by omega
    have e2 : n % 18446744073709551616 * 2 % 18446744073709551616 = ((2 * n + 18446744073709551616).toNat : Int) := by omega
    rw [e1, e2, show (18446744073709551615 : Int) = ((18446744073709551615 : Nat) : Int) from rfl, u64_xor_nat _ _ (by omega) (by omega)]
    have e3 : (2 * n + 18446744073709551616).toNat ^^^ 18446744073709551615 = 18446744073709551615 - (2 * n + 18446744073709551616).toNat := by
      have := Nat.xor_comm (2 * n + 18446744073709551616).toNat 18446744073709551615
      rw [this]
      exact Lib.xor_ones64 _ (by omega)
    rw [e3]
    unfold zfold
    rw [if_pos h]
    omega
  · have e1 : n / 9223372036854775808 % 18446744073709551616 = ((0 : Nat) : Int) := by omega
    have e2 : n % 18446744073709551616 * 2 % 18446744073709551616 = ((2 * n).toNat : Int) := by omega
    rw [e1, e2, u64_xor_nat _ _ (by omega) (by omega), Nat.xor_zero]
    unfold zfold
    rw [if_neg h]
theorem fold_c (n : Int) (h0 : -9223372036854775808 ≤ n) (h1 : n ≤ 9223372036854775807) : Pure Try.prog 7 #[.int .i64 n] (.int .u64 (zfold n)) := by
  intro w
  go_enter Try.func7, Try.ntmps7
  go_wp2
  go_ret
  exact ⟨congrArg Ending.returned (congrArg (Value.int .u64) (xorN n h0 h1)), rfl⟩
theorem xorB (u : Nat) (h : u < 18446744073709551616) : bits .xor .i64 ((u : Int) / 2) (wrap64 (-wrap64 (bits .and .u64 (u : Int) 1))) = zback u := by
  have e0 : bits .and .u64 (u : Int) 1 = ((u % 2 : Nat) : Int) := by
    rw [show (1 : Int) = ((1 : Nat) : Int) from rfl, u64_and_nat _ _ h (by omega), nat_mask1]
  rw [e0]
  by_cases hu : u % 2 = 1
  · have e1 : wrap64 (-wrap64 ((u % 2 : Nat) : Int)) = -1 := by rw [hu]; unfold wrap64; omega
    have e2 : bits .xor .i64 ((u : Int) / 2) (-1) = bits .xor .i64 (-1) ((u : Int) / 2) := by
      simp only [bits]; rw [BitVec.xor_comm]
    rw [e1, e2, show (u : Int) / 2 = ((u / 2 : Nat) : Int) by omega, i64_not _ (by omega)]
    unfold zback
    rw [if_pos hu]
    omega
  · have h2 : u % 2 = 0 := by omega
    have e1 : wrap64 (-wrap64 ((u % 2 : Nat) : Int)) = 0 := by rw [h2]; unfold wrap64; omega
    rw [e1, show (u : Int) / 2 = ((u / 2 : Nat) : Int) by omega]
    unfold zback
    rw [if_neg hu]
    show IntKind.i64.wrap ((BitVec.ofInt 64 ((u / 2 : Nat) : Int) ^^^ BitVec.ofInt 64 0).toNat : Int) = _
    rw [show BitVec.ofInt 64 0 = 0#64 from rfl, BitVec.xor_zero, ofInt_u64 _ (by omega), IntKind.wrap_i64]
    omega
theorem back_c (u : Nat) (h : u < 18446744073709551616) : Pure Try.prog 8 #[.int .u64 u] (.int .i64 (zback u)) := by
  intro w
  go_enter Try.func8, Try.ntmps8
  go_wp2
  go_ret
  exact ⟨congrArg Ending.returned (congrArg (Value.int .i64) (xorB u h)), rfl⟩
theorem rfold_c (n : Int) (h0 : -9223372036854775808 ≤ n) (h1 : n ≤ 9223372036854775807) : Pure Try.prog 15 #[.int .i64 n] (.int .u64 (zfold n)) := by
  intro w
  go_enter Try.func15, Try.ntmps15
  go_wp2
  all_goals go_ret
  all_goals exact ⟨is_ret (by unfold zfold; split <;> omega), rfl⟩
theorem rback_c (u : Nat) (h : u < 18446744073709551616) : Pure Try.prog 16 #[.int .u64 u] (.int .i64 (zback u)) := by
  intro w
  by_cases hu : ((u : Int) % 2 == 1) = true
  all_goals
    go_enter Try.func16, Try.ntmps16
    go_wp2
    go_ret
    refine ⟨is_ret ?_, rfl⟩
    unfold zback
    simp only [beq_iff_eq] at hu
    split <;> omega
end Go.Proofs.Ytnhabcmemadgcaa
