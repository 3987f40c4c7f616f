/- The document's Put and Size; PutInt. -/
import Derived.Test.YtnhabcmemadgcaaZigU
namespace Go.Proofs.Ytnhabcmemadgcaa
open Go.RowKit
set_option linter.unusedVariables false

theorem intsC_ne {l : List Nat} (h : 0 < l.length) : intsC l ≠ [] := fun e => by
  have := congrArg List.length e
  rw [intsC_length] at this
  simp only [List.length_nil] at this
  omega
theorem zs_ne (u : Nat) : intsC (zs u) ≠ [] := intsC_ne (zn_pos u)
theorem rsize_c (u : Nat) (h : u < 18446744073709551616) (w : World) : Gives Try.prog 13 #[.int .u64 u] w (Is (.int .i64 (zn u))) := by
  go_enter Try.func13, Try.ntmps13
  go_wp2_with (go_at_call 20; refine Calls.mono (sevens_c u h _) ?_; rintro _ w1 ⟨v1, rfl, hx1, ho1⟩; obtain ⟨g, n, cap, rfl, hg, hn, hnc, hcm, hcell⟩ := ho1.at (zs_ne u); rw [intsC_length, Nat.mul_one] at hn)
  go_ret
  exact ⟨_, rfl, hx1, is_int (by unfold zn; rw [hn])⟩
set_option maxHeartbeats 400000 in
theorem rput_c (l : List UInt8) (b : Value) (u : Nat) (h : u < 18446744073709551616) (w : World) (hb : IsBytes l b w) (hl : l.length ≤ 1099511627776) : Gives Try.prog 11 #[b, .int .u64 u] w (Owns w.heap.size 5 1 (bytesC (l ++ zb u))) := by
  have hz10 := zn_le10 u h
  have hz1 := zn_pos u
  go_enter Try.func11, Try.ntmps11
  go_wp2_with (first
    | (go_at_call 20; refine Calls.mono (sevens_c u h _) ?_; rintro _ w2 ⟨v2, rfl, hx2, ho2⟩)
    | (at_builtin; refine wpList_appx elemU8 (w0 := w) rfl _ _ rfl rfl rfl (Ext.alloc _ _) (Owns.lit w _ 1 [] 0 rfl (by unfold maxLen; omega)) (hb.ext (Ext.alloc _ _)) (bytesC_one l) (by simp [bytesC_length]; omega) ?_; intro v1 w1 ho1 hx1 hk1))
  rw [List.nil_append] at ho1
  have ho1' := ho1.ext hx2
  obtain ⟨g, n, cap, rfl, hg, hn, hnc, hcm, hcell⟩ := ho2.at (zs_ne u)
  rw [intsC_length, Nat.mul_one] at hn
  obtain rfl : zn u = n := hn
  clear hcell ho1 hk1
  go_loopw [5, 7] (fun o i wr => ∃ k : Nat, k ≤ zn u ∧ i = .int .i64 k ∧ Owns w.heap.size 5 1 (bytesC (l ++ zpre u k)) o wr ∧ Ext w wr ∧ Owns w1.heap.size 3 1 (intsC (zs u)) (.slice (some ⟨g, 0, none⟩) (zn u) cap) wr) (fun _ i _ => zn u - (intOf i).toNat)
  case atStart =>
    exact ⟨0, by omega, rfl, by simpa [zpre] using ho1', hx1.trans hx2, ho2⟩
  case round =>
    obtain ⟨k, hk, rfl, ho, hx, hos⟩ := hrel
    clear ho1' ho2
    by_cases hlt : k < zn u
    · have hc : wr.cell? ⟨g, k, none⟩ = some (.int .i64 ((u / 128 ^ k % 128 : Nat) : Int)) := hos.cellAt (by rw [intsC, List.getElem?_map, zs_get u k hlt]; rfl)
      have hd := Nat.mod_lt (u / 128 ^ k) (show 0 < 128 by decide)
      generalize hdd : u / 128 ^ k % 128 = d at *
      have Hd := Lib.hid hdd
      clear hdd
      by_cases hlast : k + 1 < zn u
      · go_wp2_with (at_builtin; refine wpList_push elemU8 rfl _ _ rfl [_] rfl rfl hx ho rfl (by simp [Value.oneCell']) (by simp [bytesC_length, zpre_length]; omega) ?_; intro v1 w1 ho1 hx1 hk1)
        rw [push_eq (by rw [zbyte_more (by omega), Hd.out]; omega)] at ho1
        go_roundw
        case rel => exact ⟨k + 1, by omega, by go_num, ho1, hx1, hos.other hk1 (by decide)⟩
        case measure => simp [intOf]; omega
      · go_wp2_with (at_builtin; refine wpList_push elemU8 rfl _ _ rfl [_] rfl rfl hx ho rfl (by simp [Value.oneCell']) (by simp [bytesC_length, zpre_length]; omega) ?_; intro v1 w1 ho1 hx1 hk1)
        rw [push_eq (by rw [zbyte_last (by omega), Hd.out])] at ho1
        go_roundw
        case rel => exact ⟨k + 1, by omega, by go_num, ho1, hx1, hos.other hk1 (by decide)⟩
        case measure => simp [intOf]; omega
    · obtain rfl : k = zn u := by omega
      go_wp2
      go_ret
      exact ⟨_, rfl, hx, ho⟩
theorem putint_c (l : List UInt8) (b : Value) (n : Int) (h0 : -9223372036854775808 ≤ n) (h1 : n ≤ 9223372036854775807) (w : World) (hb : IsBytes l b w) (hl : l.length ≤ 1099511627776) : Gives Try.prog 14 #[b, .int .i64 n] w (Owns w.heap.size 5 1 (bytesC (l ++ zb (zfold n)))) := by
  go_enter Try.func14, Try.ntmps14
  go_wp2_with (first
    | (go_at_call 7; refine (fold_c n h0 h1 _).mono ?_; rintro _ _ ⟨rfl, rfl⟩)
    | (go_at_call 10; refine Calls.mono (put_c l _ _ (zfold_lt n h0 h1) _ hb hl) ?_; rintro _ w1 ⟨v1, rfl, hx1, ho1⟩))
  go_ret
  exact ⟨_, rfl, hx1, ho1⟩
end Go.Proofs.Ytnhabcmemadgcaa
