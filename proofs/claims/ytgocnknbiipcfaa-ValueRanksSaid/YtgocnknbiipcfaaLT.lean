/- typed data: structures and their cells -/
import Derived.Test.YtgocnknbiipcfaaLg
namespace Go.Proofs.Ytgocnknbiipcfaa.K
open Go.RowKit Go.Lib
set_option linter.unusedVariables false
set_option linter.unusedSimpArgs false

structure GValue where
  Kind : UInt8
  N : Int
  Bits : Int
  Text : (List UInt8)
  deriving DecidableEq, Inhabited
def enc_GValue (x : GValue) : List D := [(byteD x.Kind), (.lit (.int .i64 x.N)), (.lit (.int .u64 x.Bits)), (.lit (.string (toS x.Text)))]
theorem enc_GValue_len (x : GValue) : (enc_GValue x).length = 4 := rfl
theorem enc_GValue_plain (x : GValue) : ∀ d ∈ enc_GValue x, d.Plain := by simp [enc_GValue, D.Plain, byteD]
structure GReader where
  Text : (List UInt8)
  At : Int
  E : Int
  deriving DecidableEq, Inhabited
def enc_GReader (x : GReader) : List D := [(.lit (.string (toS x.Text))), (.lit (.int .i64 x.At)), (.lit (.int .i64 x.E))]
theorem enc_GReader_len (x : GReader) : (enc_GReader x).length = 3 := rfl
theorem enc_GReader_plain (x : GReader) : ∀ d ∈ enc_GReader x, d.Plain := by simp [enc_GReader, D.Plain, byteD]
theorem elemOK_25 : ElemOK Try.prog 25 5 1 1 (.int .u8 0) := ⟨by kernel_rfl, by kernel_rfl, by kernel_rfl, by decide, by decide⟩
theorem elemOK_82 : ElemOK Try.prog 82 3 1 8 (.int .i64 0) := ⟨by kernel_rfl, by kernel_rfl, by kernel_rfl, by decide, by decide⟩
end Go.Proofs.Ytgocnknbiipcfaa.K
