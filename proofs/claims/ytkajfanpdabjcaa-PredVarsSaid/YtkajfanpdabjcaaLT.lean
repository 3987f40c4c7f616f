/- typed data: structures and their cells -/
import Derived.Test.YtkajfanpdabjcaaBlx
namespace Go.Proofs.Ytkajfanpdabjcaa.K
open Go.RowKit Go.Lib
set_option linter.unusedVariables false
set_option linter.unusedSimpArgs false

structure GValue where
  Kind : UInt8
  N : Int
  Bits : Int
  Text : (List UInt8)
  deriving DecidableEq, Inhabited
def enc_GValue (x : GValue) : List D := [(byteD x.Kind), (.lit (.int .i64 x.N)), (.lit (.int .u64 x.Bits)), (.lit (.string (toS x.Text)))]
theorem enc_GValue_len (x : GValue) : (enc_GValue x).length = 4 := rfl
theorem enc_GValue_plain (x : GValue) : ∀ d ∈ enc_GValue x, d.Plain := by simp [enc_GValue, D.Plain, byteD]
structure GNode_ where
  Kind : UInt8
  Op : UInt8
  Var : (List UInt8)
  Name : (List UInt8)
  Val : GValue
  deriving DecidableEq, Inhabited
def enc_GNode_ (x : GNode_) : List D := [(byteD x.Kind), (byteD x.Op), (.lit (.string (toS x.Var))), (.lit (.string (toS x.Name))), (byteD x.Val.Kind), (.lit (.int .i64 x.Val.N)), (.lit (.int .u64 x.Val.Bits)), (.lit (.string (toS x.Val.Text)))]
theorem enc_GNode__len (x : GNode_) : (enc_GNode_ x).length = 8 := rfl
theorem enc_GNode__plain (x : GNode_) : ∀ d ∈ enc_GNode_ x, d.Plain := by simp [enc_GNode_, D.Plain, byteD]
structure GArr2_List_GNode where
  a0 : (List GNode_)
  a1 : (List GNode_)
  deriving DecidableEq, Inhabited
def enc_GArr2_List_GNode (x : GArr2_List_GNode) : List D := [(.sl (List.length x.a0) (flatD enc_GNode_ x.a0)), (.sl (List.length x.a1) (flatD enc_GNode_ x.a1))]
theorem enc_GArr2_List_GNode_len (x : GArr2_List_GNode) : (enc_GArr2_List_GNode x).length = 2 := rfl
structure GTchecker where
  l : (List GNode_)
  at_ : Int
  deriving DecidableEq, Inhabited
def enc_GTchecker (x : GTchecker) : List D := [(.sl (List.length x.l) (flatD enc_GNode_ x.l)), (.lit (.int .i64 x.at_))]
theorem enc_GTchecker_len (x : GTchecker) : (enc_GTchecker x).length = 2 := rfl
theorem elemOK_26 : ElemOK Try.prog 26 33 8 80 (.agg #[(.int .u8 0), (.int .u8 0), (.string ⟨#[]⟩), (.string ⟨#[]⟩), (.int .u8 0), (.int .i64 0), (.int .u64 0), (.string ⟨#[]⟩)]) := ⟨by kernel_rfl, by kernel_rfl, by kernel_rfl, by decide, by decide⟩
theorem elemOK_41 : ElemOK Try.prog 41 9 1 16 (.string ⟨#[]⟩) := ⟨by kernel_rfl, by kernel_rfl, by kernel_rfl, by decide, by decide⟩
end Go.Proofs.Ytkajfanpdabjcaa.K
