/- typed data: structures and their cells -/
import Derived.Test.YthcilaomjkaciaaLh
namespace Go.Proofs.Ythcilaomjkaciaa.K
open Go.RowKit Go.Lib
set_option linter.unusedVariables false
set_option linter.unusedSimpArgs false

structure GChange where
  Loc : Int
  Time : Int
  N : Int
  deriving DecidableEq, Inhabited
def enc_GChange (x : GChange) : List D := [(.lit (.int .i64 x.Loc)), (.lit (.int .i64 x.Time)), (.lit (.int .i64 x.N))]
theorem enc_GChange_len (x : GChange) : (enc_GChange x).length = 3 := rfl
theorem enc_GChange_plain (x : GChange) : ∀ d ∈ enc_GChange x, d.Plain := by simp [enc_GChange, D.Plain, byteD]
structure GArr2_List_GChange where
  a0 : (List GChange)
  a1 : (List GChange)
  deriving DecidableEq, Inhabited
def enc_GArr2_List_GChange (x : GArr2_List_GChange) : List D := [(.sl (List.length x.a0) (flatD enc_GChange x.a0)), (.sl (List.length x.a1) (flatD enc_GChange x.a1))]
theorem enc_GArr2_List_GChange_len (x : GArr2_List_GChange) : (enc_GArr2_List_GChange x).length = 2 := rfl
structure GArr2_Int where
  a0 : Int
  a1 : Int
  deriving DecidableEq, Inhabited
def enc_GArr2_Int (x : GArr2_Int) : List D := [(.lit (.int .i64 x.a0)), (.lit (.int .i64 x.a1))]
theorem enc_GArr2_Int_len (x : GArr2_Int) : (enc_GArr2_Int x).length = 2 := rfl
theorem enc_GArr2_Int_plain (x : GArr2_Int) : ∀ d ∈ enc_GArr2_Int x, d.Plain := by simp [enc_GArr2_Int, D.Plain, byteD]
structure GArr4_Int where
  a0 : Int
  a1 : Int
  a2 : Int
  a3 : Int
  deriving DecidableEq, Inhabited
def enc_GArr4_Int (x : GArr4_Int) : List D := [(.lit (.int .i64 x.a0)), (.lit (.int .i64 x.a1)), (.lit (.int .i64 x.a2)), (.lit (.int .i64 x.a3))]
theorem enc_GArr4_Int_len (x : GArr4_Int) : (enc_GArr4_Int x).length = 4 := rfl
theorem enc_GArr4_Int_plain (x : GArr4_Int) : ∀ d ∈ enc_GArr4_Int x, d.Plain := by simp [enc_GArr4_Int, D.Plain, byteD]
theorem elemOK_27 : ElemOK Try.prog 27 43 3 24 (.agg #[(.int .i64 0), (.int .i64 0), (.int .i64 0)]) := ⟨by kernel_rfl, by kernel_rfl, by kernel_rfl, by decide, by decide⟩
end Go.Proofs.Ythcilaomjkaciaa.K
