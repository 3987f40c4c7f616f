/- whole contracts of the makers -/
import Derived.Test.YtfklpnaklhcobaaOD
namespace Go.Proofs.Ytfklpnaklhcobaa.K
open Go.RowKit Go.Lib
set_option linter.unusedVariables false

def numL (l : List UInt8) (wd n : Int) : List UInt8 := if wd < 1 ∨ 6 < wd ∨ n < 0 ∨ n.toNat / 256 ^ wd.toNat ≠ 0 then [] else l ++ beb wd.toNat n.toNat
def numE (wd n : Int) : Int := if wd < 1 ∨ 6 < wd then 2 else if n < 0 ∨ n.toNat / 256 ^ wd.toNat ≠ 0 then 8 else 0
def textL (l : List UInt8) (s : ByteArray) : List UInt8 := if 65535 < s.size then [] else l ++ beb 2 s.size ++ s.data.toList
def textE (s : ByteArray) : Int := if 65535 < s.size then 5 else 0
theorem num_cases (l : List UInt8) (wd n : Int) (h1 : -9223372036854775808 ≤ n) (h2 : n ≤ 9223372036854775807) : ((wd < 1 ∨ 6 < wd) ∧ numL l wd n = [] ∧ numE wd n = 2) ∨ ∃ w : Nat, wd = w ∧ 1 ≤ w ∧ w ≤ 6 ∧ ((n < 0 ∧ numL l wd n = [] ∧ numE wd n = 8) ∨ ∃ k : Nat, n = k ∧ k < 9223372036854775808 ∧ ((k / 256 ^ w ≠ 0 ∧ numL l wd n = [] ∧ numE wd n = 8) ∨ (k / 256 ^ w = 0 ∧ numL l wd n = l ++ beb w k ∧ numE wd n = 0))) := by
  by_cases h : wd < 1 ∨ 6 < wd
  · exact .inl ⟨h, if_pos (by omega), if_pos h⟩
  refine .inr ⟨wd.toNat, by omega, by omega, by omega, ?_⟩
  by_cases h3 : n < 0
  · exact .inl ⟨h3, if_pos (by omega), by rw [numE, if_neg h, if_pos (.inl h3)]⟩
  refine .inr ⟨n.toNat, by omega, by omega, ?_⟩
  by_cases h4 : n.toNat / 256 ^ wd.toNat = 0
  · exact .inr ⟨h4, if_neg (by simp only [h4]; omega), by rw [numE, if_neg h, if_neg (by simp only [h4]; omega)]⟩
  · exact .inl ⟨h4, if_pos (.inr (.inr (.inr h4))), by rw [numE, if_neg h, if_pos (.inr h4)]⟩
theorem num_f (l : List UInt8) (wd n : Int) (h1 : -9223372036854775808 ≤ n) (h2 : n ≤ 9223372036854775807) (hl : l.length ≤ 900000000) : GCall Try.prog 8 [(.d (.sl l.length (bytesD l))), (.d (.lit (.int .i64 wd))), (.d (.lit (.int .i64 n)))] [] (.tup [(.d (.sl ((numL l wd n).length) (bytesD (numL l wd n)))), (.d (.lit (.int .i64 (numE wd n))))]) [] := by
  rcases num_cases l wd n h1 h2 with ⟨h, e1, e2⟩ | ⟨w, rfl, h3, h4, ⟨h, e1, e2⟩ | ⟨k, rfl, h5, ⟨h, e1, e2⟩ | ⟨h, e1, e2⟩⟩⟩ <;> rw [e1, e2]
  · exact num_arg l wd n h
  · exact num_neg l w n h3 h4 h
  · exact num_big l w k h3 h4 h5 h
  · exact GCall.frz (num_ok l w k h3 h4 h5 h hl) [0] (by kernel_rfl)
theorem rnum_f (l : List UInt8) (wd n : Int) (h1 : -9223372036854775808 ≤ n) (h2 : n ≤ 9223372036854775807) (hl : l.length ≤ 900000000) : GCall Try.prog 9 [(.d (.sl l.length (bytesD l))), (.d (.lit (.int .i64 wd))), (.d (.lit (.int .i64 n)))] [] (.tup [(.d (.sl ((numL l wd n).length) (bytesD (numL l wd n)))), (.d (.lit (.int .i64 (numE wd n))))]) [] := by
  rcases num_cases l wd n h1 h2 with ⟨h, e1, e2⟩ | ⟨w, rfl, h3, h4, ⟨h, e1, e2⟩ | ⟨k, rfl, h5, ⟨h, e1, e2⟩ | ⟨h, e1, e2⟩⟩⟩ <;> rw [e1, e2]
  · exact rnum_arg l wd n h
  · exact rnum_neg l w n h3 h4 h
  · exact rnum_big l w k h3 h4 h5 h
  · exact GCall.frz (rnum_ok l w k h3 h4 h5 h hl) [0] (by kernel_rfl)
theorem word_f (l : List UInt8) (u : Nat) (hu : u < 18446744073709551616) (hl : l.length ≤ 900000000) : GCall Try.prog 12 [(.d (.sl l.length (bytesD l))), (.d (.lit (.int .u64 ((u : Nat) : Int))))] [] (.d (.sl ((l ++ beb 8 u).length) (bytesD (l ++ beb 8 u)))) [] := by
  exact GCall.frz (word_c l u hu hl) [0] (by kernel_rfl)
theorem rword_f (l : List UInt8) (u : Nat) (hu : u < 18446744073709551616) (hl : l.length ≤ 900000000) : GCall Try.prog 13 [(.d (.sl l.length (bytesD l))), (.d (.lit (.int .u64 ((u : Nat) : Int))))] [] (.d (.sl ((l ++ beb 8 u).length) (bytesD (l ++ beb 8 u)))) [] := by
  exact GCall.frz (rword_c l u hu hl) [0] (by kernel_rfl)
theorem text_f (l : List UInt8) (s : ByteArray) (hs : s.size ≤ 900000000) (hl : l.length ≤ 900000000) : GCall Try.prog 10 [(.d (.sl l.length (bytesD l))), (.d (.lit (.string s)))] [] (.tup [(.d (.sl ((textL l s).length) (bytesD (textL l s)))), (.d (.lit (.int .i64 (textE s))))]) [] := by
  by_cases h : 65535 < s.size
  · rw [textL, textE, if_pos h, if_pos h]
    exact text_big l s h
  · rw [textL, textE, if_neg h, if_neg h]
    by_cases h0 : s.size = 0
    · exact GCall.frz (text_mt l s (by omega) h0 hl) [0] (by kernel_rfl)
    · exact GCall.frz (text_ok l s (by omega) h0 hl) [0] (by kernel_rfl)
theorem rtext_f (l : List UInt8) (s : ByteArray) (hs : s.size ≤ 900000000) (hl : l.length ≤ 900000000) : GCall Try.prog 11 [(.d (.sl l.length (bytesD l))), (.d (.lit (.string s)))] [] (.tup [(.d (.sl ((textL l s).length) (bytesD (textL l s)))), (.d (.lit (.int .i64 (textE s))))]) [] := by
  by_cases h : 65535 < s.size
  · rw [textL, textE, if_pos h, if_pos h]
    exact rtext_big l s h hs
  · rw [textL, textE, if_neg h, if_neg h]
    exact GCall.frz (rtext_ok l s (by omega) hl) [0] (by kernel_rfl)
end Go.Proofs.Ytfklpnaklhcobaa.K
