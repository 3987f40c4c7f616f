/- typed data: structures and their cells -/
import Derived.Test.YtpacbldefdggjaaLi
namespace Go.Proofs.Ytpacbldefdggjaa.K
open Go.RowKit Go.Lib
set_option linter.unusedVariables false
set_option linter.unusedSimpArgs false

structure GArr2_Int where
  a0 : Int
  a1 : Int
  deriving DecidableEq, Inhabited
def enc_GArr2_Int (x : GArr2_Int) : List D := [(.lit (.int .i64 x.a0)), (.lit (.int .i64 x.a1))]
theorem enc_GArr2_Int_len (x : GArr2_Int) : (enc_GArr2_Int x).length = 2 := rfl
theorem enc_GArr2_Int_plain (x : GArr2_Int) : ∀ d ∈ enc_GArr2_Int x, d.Plain := by simp [enc_GArr2_Int, D.Plain, byteD]
structure GValue where
  Kind : UInt8
  N : Int
  Bits : Int
  Text : (List UInt8)
  deriving DecidableEq, Inhabited
def enc_GValue (x : GValue) : List D := [(byteD x.Kind), (.lit (.int .i64 x.N)), (.lit (.int .u64 x.Bits)), (.lit (.string (toS x.Text)))]
theorem enc_GValue_len (x : GValue) : (enc_GValue x).length = 4 := rfl
theorem enc_GValue_plain (x : GValue) : ∀ d ∈ enc_GValue x, d.Plain := by simp [enc_GValue, D.Plain, byteD]
theorem elemOK_39 : ElemOK Try.prog 39 5 1 1 (.int .u8 0) := ⟨by kernel_rfl, by kernel_rfl, by kernel_rfl, by decide, by decide⟩
end Go.Proofs.Ytpacbldefdggjaa.K
