/- typed data: structures and their cells -/
import Derived.Test.YtdpmojhejidhiaaBly
namespace Go.Proofs.Ytdpmojhejidhiaa.K
open Go.RowKit Go.Lib
set_option linter.unusedVariables false
set_option linter.unusedSimpArgs false

structure GValue where
  Kind : UInt8
  N : Int
  Bits : Int
  Text : (List UInt8)
  deriving DecidableEq, Inhabited
def enc_GValue (x : GValue) : List D := [(byteD x.Kind), (.lit (.int .i64 x.N)), (.lit (.int .u64 x.Bits)), (.lit (.string (toS x.Text)))]
theorem enc_GValue_len (x : GValue) : (enc_GValue x).length = 4 := rfl
theorem enc_GValue_plain (x : GValue) : ∀ d ∈ enc_GValue x, d.Plain := by simp [enc_GValue, D.Plain, byteD]
structure GNode_ where
  Kind : UInt8
  Op : UInt8
  Var : (List UInt8)
  Name : (List UInt8)
  Val : GValue
  deriving DecidableEq, Inhabited
def enc_GNode_ (x : GNode_) : List D := [(byteD x.Kind), (byteD x.Op), (.lit (.string (toS x.Var))), (.lit (.string (toS x.Name))), (byteD x.Val.Kind), (.lit (.int .i64 x.Val.N)), (.lit (.int .u64 x.Val.Bits)), (.lit (.string (toS x.Val.Text)))]
theorem enc_GNode__len (x : GNode_) : (enc_GNode_ x).length = 8 := rfl
theorem enc_GNode__plain (x : GNode_) : ∀ d ∈ enc_GNode_ x, d.Plain := by simp [enc_GNode_, D.Plain, byteD]
structure GNode where
  Kind : UInt8
  Kids : Int
  Lo : Int
  Hi : Int
  Var : (List UInt8)
  Type_ : (List UInt8)
  Test : (List GNode_)
  deriving DecidableEq, Inhabited
def enc_GNode (x : GNode) : List D := [(byteD x.Kind), (.lit (.int .i64 x.Kids)), (.lit (.int .i64 x.Lo)), (.lit (.int .i64 x.Hi)), (.lit (.string (toS x.Var))), (.lit (.string (toS x.Type_))), (.sl (List.length x.Test) (flatD enc_GNode_ x.Test))]
theorem enc_GNode_len (x : GNode) : (enc_GNode x).length = 7 := rfl
structure GPattern where
  Body : (List GNode)
  Within : Int
  By : (List UInt8)
  Mode : UInt8
  deriving DecidableEq, Inhabited
def enc_GPattern (x : GPattern) : List D := [(.sl (List.length x.Body) (flatD enc_GNode x.Body)), (.lit (.int .i64 x.Within)), (.lit (.string (toS x.By))), (byteD x.Mode)]
theorem enc_GPattern_len (x : GPattern) : (enc_GPattern x).length = 4 := rfl
structure GArr2_GPattern where
  a0 : GPattern
  a1 : GPattern
  deriving DecidableEq, Inhabited
def enc_GArr2_GPattern (x : GArr2_GPattern) : List D := [(.sl (List.length x.a0.Body) (flatD enc_GNode x.a0.Body)), (.lit (.int .i64 x.a0.Within)), (.lit (.string (toS x.a0.By))), (byteD x.a0.Mode), (.sl (List.length x.a1.Body) (flatD enc_GNode x.a1.Body)), (.lit (.int .i64 x.a1.Within)), (.lit (.string (toS x.a1.By))), (byteD x.a1.Mode)]
theorem enc_GArr2_GPattern_len (x : GArr2_GPattern) : (enc_GArr2_GPattern x).length = 8 := rfl
structure GTchecker where
  l : (List GNode_)
  at_ : Int
  deriving DecidableEq, Inhabited
def enc_GTchecker (x : GTchecker) : List D := [(.sl (List.length x.l) (flatD enc_GNode_ x.l)), (.lit (.int .i64 x.at_))]
theorem enc_GTchecker_len (x : GTchecker) : (enc_GTchecker x).length = 2 := rfl
theorem elemOK_28 : ElemOK Try.prog 28 44 7 88 (.agg #[(.int .u8 0), (.int .i64 0), (.int .i64 0), (.int .i64 0), (.string ⟨#[]⟩), (.string ⟨#[]⟩), (.slice none 0 0)]) := ⟨by kernel_rfl, by kernel_rfl, by kernel_rfl, by decide, by decide⟩
theorem elemOK_42 : ElemOK Try.prog 42 75 8 80 (.agg #[(.int .u8 0), (.int .u8 0), (.string ⟨#[]⟩), (.string ⟨#[]⟩), (.int .u8 0), (.int .i64 0), (.int .u64 0), (.string ⟨#[]⟩)]) := ⟨by kernel_rfl, by kernel_rfl, by kernel_rfl, by decide, by decide⟩
end Go.Proofs.Ytdpmojhejidhiaa.K
