/- typed data: structures and their cells -/
import Derived.Test.YtkpfagmlohcdjaaLh
namespace Go.Proofs.Ytkpfagmlohcdjaa.K
open Go.RowKit Go.Lib
set_option linter.unusedVariables false
set_option linter.unusedSimpArgs false

structure GChange where
  Loc : Int
  Time : Int
  N : Int
  deriving DecidableEq, Inhabited
def enc_GChange (x : GChange) : List D := [(.lit (.int .i64 x.Loc)), (.lit (.int .i64 x.Time)), (.lit (.int .i64 x.N))]
theorem enc_GChange_len (x : GChange) : (enc_GChange x).length = 3 := rfl
theorem enc_GChange_plain (x : GChange) : ∀ d ∈ enc_GChange x, d.Plain := by simp [enc_GChange, D.Plain, byteD]
structure GArr3_Int where
  a0 : Int
  a1 : Int
  a2 : Int
  deriving DecidableEq, Inhabited
def enc_GArr3_Int (x : GArr3_Int) : List D := [(.lit (.int .i64 x.a0)), (.lit (.int .i64 x.a1)), (.lit (.int .i64 x.a2))]
theorem enc_GArr3_Int_len (x : GArr3_Int) : (enc_GArr3_Int x).length = 3 := rfl
theorem enc_GArr3_Int_plain (x : GArr3_Int) : ∀ d ∈ enc_GArr3_Int x, d.Plain := by simp [enc_GArr3_Int, D.Plain, byteD]
theorem elemOK_22 : ElemOK Try.prog 22 24 3 24 (.agg #[(.int .i64 0), (.int .i64 0), (.int .i64 0)]) := ⟨by kernel_rfl, by kernel_rfl, by kernel_rfl, by decide, by decide⟩
theorem elemOK_27 : ElemOK Try.prog 27 36 3 24 (.agg #[(.int .i64 0), (.int .i64 0), (.int .i64 0)]) := ⟨by kernel_rfl, by kernel_rfl, by kernel_rfl, by decide, by decide⟩
theorem elemOK_46 : ElemOK Try.prog 46 5 1 1 (.int .u8 0) := ⟨by kernel_rfl, by kernel_rfl, by kernel_rfl, by decide, by decide⟩
theorem elemOK_76 : ElemOK Try.prog 76 3 1 8 (.int .i64 0) := ⟨by kernel_rfl, by kernel_rfl, by kernel_rfl, by decide, by decide⟩
end Go.Proofs.Ytkpfagmlohcdjaa.K
