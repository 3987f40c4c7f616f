/- What every right program makes of some numbers; the laws on what zig lays and folds. -/
import Derived.Test.YtnhabcmemadgcaaZigQ
import Derived.Lib.SlBytesConst
namespace Go.Proofs.Ytnhabcmemadgcaa
open Go.RowKit
set_option linter.unusedVariables false

theorem bs_eq {l r : List UInt8} (h : l = r) : (ByteArray.mk l.toArray) = ⟨r.toArray⟩ := by rw [h]
theorem zb300 : zb 300 = [172, 2] := by
  have h1 : zn 300 = 2 := by rw [zn_ge (by decide), zn_lt (by decide)]
  simp [zb, h1, List.range_succ, zbyte]
set_option maxRecDepth 100000 in
set_option maxHeartbeats 1000000 in
theorem awake_c (w : World) : Gives Try.prog 9 #[] w (Is (.bool true)) := by
  have hz : zn 300 = 2 := by rw [zn_ge (by decide), zn_lt (by decide)]
  have t1 := take_c ⟨#[172, 2, 120]⟩ 0 (by decide)
  have t2 := take_c ⟨#[128, 0]⟩ 0 (by decide)
  have t3 := take_c ⟨#[128]⟩ 0 (by decide)
  have t4 := take_c ⟨#[255, 255, 255, 255, 255, 255, 255, 255, 255, 2]⟩ 0 (by decide)
  rw [show ztkV (ztk (ByteArray.mk #[172, 2, 120]).data.toList 0) = .tuple #[.int .u64 300, .int .i64 2, .int .i64 0] from rfl] at t1
  rw [show ztkV (ztk (ByteArray.mk #[128, 0]).data.toList 0) = .tuple #[.int .u64 0, .int .i64 0, .int .i64 4] from rfl] at t2
  rw [show ztkV (ztk (ByteArray.mk #[128]).data.toList 0) = .tuple #[.int .u64 0, .int .i64 0, .int .i64 3] from rfl] at t3
  rw [show ztkV (ztk (ByteArray.mk #[255, 255, 255, 255, 255, 255, 255, 255, 255, 2]).data.toList 0) = .tuple #[.int .u64 0, .int .i64 0, .int .i64 8] from rfl] at t4
  have T1 := Lib.hid t1
  have T2 := Lib.hid t2
  have T3 := Lib.hid t3
  have T4 := Lib.hid t4
  clear t1 t2 t3 t4
  have kc := fun (w : World) (C : Array Value) (n c : Nat) => Lib.run_convert_bytes_const (P := Try.prog) w 28 5 C n c Try.underlying28 Try.underlying5
  go_enter Try.func9, Try.ntmps9
  go_wp2_with fail
  refine (T1.out _).mono ?_; rintro _ _ ⟨rfl, rfl⟩
  go_wp2_with fail
  refine (T2.out _).mono ?_; rintro _ _ ⟨rfl, rfl⟩
  go_wp2_with fail
  refine (T3.out _).mono ?_; rintro _ _ ⟨rfl, rfl⟩
  go_wp2_with fail
  refine (T4.out _).mono ?_; rintro _ _ ⟨rfl, rfl⟩
  go_wp2_with fail
  refine Calls.mono (put_c [121] _ 300 (by decide) _ (IsSl.litF w _ _ 1 [.int .u8 121] 1 rfl (by unfold maxLen; omega)) (by decide)) ?_
  rintro _ w1 ⟨v1, rfl, hx1, ho1⟩
  rw [zb300] at ho1
  have e1 := run_str (P := Try.prog) Try.underlying28 Try.underlying5 Try.underlying9 ho1.isSl
  go_wp2_with (first
    | (go_at_call 7; refine (fold_c (-3) (by decide) (by decide) _).mono ?_; rintro _ _ ⟨rfl, rfl⟩)
    | (go_at_call 8; refine (back_c 5 (by decide) _).mono ?_; rintro _ _ ⟨rfl, rfl⟩)
    | (go_at_call 12; refine (size_c 300 (by decide) _).mono ?_; rintro _ _ ⟨rfl, rfl⟩))
  go_ret
  refine ⟨_, rfl, (Ext.alloc _ _).trans hx1, ?_⟩
  simp
end Go.Proofs.Ytnhabcmemadgcaa
