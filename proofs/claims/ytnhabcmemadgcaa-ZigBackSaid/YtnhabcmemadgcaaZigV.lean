/- zig's functions and the document's answer that make memory or loop. -/
import Derived.Test.YtnhabcmemadgcaaZigW
import Derived.WalkSpells
namespace Go.Proofs.Ytnhabcmemadgcaa
open Go.RowKit
set_option linter.unusedVariables false

theorem elemU8 : Elem Try.prog 28 5 1 1 (.int .u8 0) := ⟨Try.underlying28, by kernel_rfl, rfl, by decide, by decide⟩
theorem elemI64 : Elem Try.prog 43 3 1 8 (.int .i64 0) := ⟨Try.underlying43, by kernel_rfl, rfl, by decide, by decide⟩
def intsC (l : List Nat) : List Value := l.map fun (n : Nat) => .int .i64 (n : Int)
theorem intsC_append (l r : List Nat) : intsC (l ++ r) = intsC l ++ intsC r := by simp [intsC]
theorem intsC_length (l : List Nat) : (intsC l).length = l.length := by simp [intsC]
def zs0 (r : Nat) : List Nat := if r = 0 then [] else zs r
theorem zs0_step {r : Nat} (h : 0 < r) : zs0 r = r % 128 :: zs0 (r / 128) := by
  unfold zs0
  rw [if_neg (by omega)]
  by_cases hr : r < 128
  · rw [zs_lt hr, if_pos (by omega), Nat.mod_eq_of_lt hr]
  · rw [zs_ge hr, if_neg (by omega)]
theorem zs_first (u : Nat) : [u % 128] ++ zs0 (u / 128) = zs u := by
  unfold zs0
  by_cases hr : u < 128
  · rw [zs_lt hr, if_pos (by omega), Nat.mod_eq_of_lt hr]; rfl
  · rw [zs_ge hr, if_neg (by omega)]; rfl

set_option maxHeartbeats 400000 in
theorem sevens_c (u : Nat) (h : u < 18446744073709551616) (w : World) : Gives Try.prog 20 #[.int .u64 u] w (Owns w.heap.size 3 1 (intsC (zs u))) := by
  have hz10 := zn_le10 u h
  go_enter Try.func20, Try.ntmps20
  go_wp2
  go_loopw [0, 3] (fun a l wr => ∃ (xs : List Nat) (r : Nat), a = .int .u64 r ∧ r < 18446744073709551616 ∧ Hid (xs ++ zs0 r = zs u) ∧ Owns w.heap.size 3 1 (intsC xs) l wr ∧ Ext w wr) (fun a _ _ => (intOf a).toNat)
  case atStart =>
    refine ⟨[u % 128], u / 128, by first | rfl | go_num, by omega, zs_first u, ⟨1, World.ownsRow_lit w _ 1 (Nat.le_refl _) (by unfold maxLen; omega) rfl⟩, Ext.alloc _ _⟩
  case round =>
    obtain ⟨xs, r, rfl, hr, hz, ho, hx⟩ := hrel
    have hlen : xs.length ≤ 10 := by
      have := congrArg List.length hz.out
      rw [List.length_append] at this
      unfold zn at hz10; omega
    by_cases hr0 : 0 < r
    · go_wp2_with (at_builtin; refine wpList_push elemI64 rfl _ _ rfl [_] rfl rfl hx ho rfl (by simp [Value.oneCell']) (by rw [intsC_length]; simp; omega) ?_; intro v1 w1 ho1 hx1 hk1)
      go_roundw
      case rel =>
        refine ⟨xs ++ [r % 128], r / 128, by first | rfl | go_num, by omega, ?_, ?_, hx1⟩
        · have := hz.out
          rw [zs0_step hr0] at this
          simpa [Hid] using this
        · rw [intsC_append]; exact ho1
      case measure => simp [intOf]; omega
    · have : r = 0 := by omega
      subst this
      have hxs : xs = zs u := by have := hz.out; simpa [zs0] using this
      go_wp2
      go_ret
      exact ⟨_, rfl, hx, by rw [← hxs]; exact ho⟩
end Go.Proofs.Ytnhabcmemadgcaa
