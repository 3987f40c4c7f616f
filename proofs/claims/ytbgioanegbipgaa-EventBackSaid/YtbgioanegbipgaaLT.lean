/- typed data: structures and their cells -/
import Derived.Test.YtbgioanegbipgaaLi
namespace Go.Proofs.Ytbgioanegbipgaa.K
open Go.RowKit Go.Lib
set_option linter.unusedVariables false
set_option linter.unusedSimpArgs false

structure GField where
  Name : (List UInt8)
  Kind : UInt8
  deriving DecidableEq, Inhabited
def enc_GField (x : GField) : List D := [(.lit (.string (toS x.Name))), (byteD x.Kind)]
theorem enc_GField_len (x : GField) : (enc_GField x).length = 2 := rfl
theorem enc_GField_plain (x : GField) : ∀ d ∈ enc_GField x, d.Plain := by simp [enc_GField, D.Plain, byteD]
structure GType where
  Name : (List UInt8)
  Fields : (List GField)
  deriving DecidableEq, Inhabited
def enc_GType (x : GType) : List D := [(.lit (.string (toS x.Name))), (.sl (List.length x.Fields) (flatD enc_GField x.Fields))]
theorem enc_GType_len (x : GType) : (enc_GType x).length = 2 := rfl
structure GValue where
  Kind : UInt8
  N : Int
  Bits : Int
  Text : (List UInt8)
  deriving DecidableEq, Inhabited
def enc_GValue (x : GValue) : List D := [(byteD x.Kind), (.lit (.int .i64 x.N)), (.lit (.int .u64 x.Bits)), (.lit (.string (toS x.Text)))]
theorem enc_GValue_len (x : GValue) : (enc_GValue x).length = 4 := rfl
theorem enc_GValue_plain (x : GValue) : ∀ d ∈ enc_GValue x, d.Plain := by simp [enc_GValue, D.Plain, byteD]
structure GEvent where
  Time : Int
  Source : Int
  Seq : Int
  Type_ : (List UInt8)
  Vals : (List GValue)
  deriving DecidableEq, Inhabited
def enc_GEvent (x : GEvent) : List D := [(.lit (.int .i64 x.Time)), (.lit (.int .i64 x.Source)), (.lit (.int .i64 x.Seq)), (.lit (.string (toS x.Type_))), (.sl (List.length x.Vals) (flatD enc_GValue x.Vals))]
theorem enc_GEvent_len (x : GEvent) : (enc_GEvent x).length = 5 := rfl
structure GID where
  Time : Int
  Source : Int
  Seq : Int
  deriving DecidableEq, Inhabited
def enc_GID (x : GID) : List D := [(.lit (.int .i64 x.Time)), (.lit (.int .i64 x.Source)), (.lit (.int .i64 x.Seq))]
theorem enc_GID_len (x : GID) : (enc_GID x).length = 3 := rfl
theorem enc_GID_plain (x : GID) : ∀ d ∈ enc_GID x, d.Plain := by simp [enc_GID, D.Plain, byteD]
structure GArr4_Int_ where
  a0 : Int
  a1 : Int
  a2 : Int
  a3 : Int
  deriving DecidableEq, Inhabited
def enc_GArr4_Int_ (x : GArr4_Int_) : List D := [(.lit (.int .u64 x.a0)), (.lit (.int .u64 x.a1)), (.lit (.int .u64 x.a2)), (.lit (.int .u64 x.a3))]
theorem enc_GArr4_Int__len (x : GArr4_Int_) : (enc_GArr4_Int_ x).length = 4 := rfl
theorem enc_GArr4_Int__plain (x : GArr4_Int_) : ∀ d ∈ enc_GArr4_Int_ x, d.Plain := by simp [enc_GArr4_Int_, D.Plain, byteD]
structure GReader where
  Text : (List UInt8)
  At : Int
  E : Int
  deriving DecidableEq, Inhabited
def enc_GReader (x : GReader) : List D := [(.lit (.string (toS x.Text))), (.lit (.int .i64 x.At)), (.lit (.int .i64 x.E))]
theorem enc_GReader_len (x : GReader) : (enc_GReader x).length = 3 := rfl
theorem enc_GReader_plain (x : GReader) : ∀ d ∈ enc_GReader x, d.Plain := by simp [enc_GReader, D.Plain, byteD]
structure GArr2_GEvent where
  a0 : GEvent
  a1 : GEvent
  deriving DecidableEq, Inhabited
def enc_GArr2_GEvent (x : GArr2_GEvent) : List D := [(.lit (.int .i64 x.a0.Time)), (.lit (.int .i64 x.a0.Source)), (.lit (.int .i64 x.a0.Seq)), (.lit (.string (toS x.a0.Type_))), (.sl (List.length x.a0.Vals) (flatD enc_GValue x.a0.Vals)), (.lit (.int .i64 x.a1.Time)), (.lit (.int .i64 x.a1.Source)), (.lit (.int .i64 x.a1.Seq)), (.lit (.string (toS x.a1.Type_))), (.sl (List.length x.a1.Vals) (flatD enc_GValue x.a1.Vals))]
theorem enc_GArr2_GEvent_len (x : GArr2_GEvent) : (enc_GArr2_GEvent x).length = 10 := rfl
theorem elemOK_23 : ElemOK Try.prog 23 47 4 40 (.agg #[(.int .u8 0), (.int .i64 0), (.int .u64 0), (.string ⟨#[]⟩)]) := ⟨by kernel_rfl, by kernel_rfl, by kernel_rfl, by decide, by decide⟩
theorem elemOK_28 : ElemOK Try.prog 28 25 5 64 (.agg #[(.int .i64 0), (.int .i64 0), (.int .i64 0), (.string ⟨#[]⟩), (.slice none 0 0)]) := ⟨by kernel_rfl, by kernel_rfl, by kernel_rfl, by decide, by decide⟩
theorem elemOK_30 : ElemOK Try.prog 30 83 2 40 (.agg #[(.string ⟨#[]⟩), (.slice none 0 0)]) := ⟨by kernel_rfl, by kernel_rfl, by kernel_rfl, by decide, by decide⟩
theorem elemOK_32 : ElemOK Try.prog 32 44 4 40 (.agg #[(.int .u8 0), (.int .i64 0), (.int .u64 0), (.string ⟨#[]⟩)]) := ⟨by kernel_rfl, by kernel_rfl, by kernel_rfl, by decide, by decide⟩
theorem elemOK_36 : ElemOK Try.prog 36 5 1 1 (.int .u8 0) := ⟨by kernel_rfl, by kernel_rfl, by kernel_rfl, by decide, by decide⟩
theorem elemOK_60 : ElemOK Try.prog 60 34 5 64 (.agg #[(.int .i64 0), (.int .i64 0), (.int .i64 0), (.string ⟨#[]⟩), (.slice none 0 0)]) := ⟨by kernel_rfl, by kernel_rfl, by kernel_rfl, by decide, by decide⟩
theorem elemOK_81 : ElemOK Try.prog 81 84 2 24 (.agg #[(.string ⟨#[]⟩), (.int .u8 0)]) := ⟨by kernel_rfl, by kernel_rfl, by kernel_rfl, by decide, by decide⟩
theorem elemOK_110 : ElemOK Try.prog 110 42 1 8 (.int .u64 0) := ⟨by kernel_rfl, by kernel_rfl, by kernel_rfl, by decide, by decide⟩
theorem elemOK_123 : ElemOK Try.prog 123 3 1 8 (.int .i64 0) := ⟨by kernel_rfl, by kernel_rfl, by kernel_rfl, by decide, by decide⟩
end Go.Proofs.Ytbgioanegbipgaa.K
