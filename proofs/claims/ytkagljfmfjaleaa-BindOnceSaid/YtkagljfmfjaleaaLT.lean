/- typed data: structures and their cells -/
import Derived.Test.YtkagljfmfjaleaaBlast
namespace Go.Proofs.Ytkagljfmfjaleaa.K
open Go.RowKit Go.Lib
set_option linter.unusedVariables false
set_option linter.unusedSimpArgs false

structure GValue where
  Kind : UInt8
  N : Int
  Bits : Int
  Text : (List UInt8)
  deriving DecidableEq, Inhabited
def enc_GValue (x : GValue) : List D := [(byteD x.Kind), (.lit (.int .i64 x.N)), (.lit (.int .u64 x.Bits)), (.lit (.string (toS x.Text)))]
theorem enc_GValue_len (x : GValue) : (enc_GValue x).length = 4 := rfl
theorem enc_GValue_plain (x : GValue) : ∀ d ∈ enc_GValue x, d.Plain := by simp [enc_GValue, D.Plain, byteD]
structure GEvent where
  Time : Int
  Source : Int
  Seq : Int
  Type_ : (List UInt8)
  Vals : (List GValue)
  deriving DecidableEq, Inhabited
def enc_GEvent (x : GEvent) : List D := [(.lit (.int .i64 x.Time)), (.lit (.int .i64 x.Source)), (.lit (.int .i64 x.Seq)), (.lit (.string (toS x.Type_))), (.sl (List.length x.Vals) (flatD enc_GValue x.Vals))]
theorem enc_GEvent_len (x : GEvent) : (enc_GEvent x).length = 5 := rfl
structure GPair where
  Var : (List UInt8)
  E : GEvent
  deriving DecidableEq, Inhabited
def enc_GPair (x : GPair) : List D := [(.lit (.string (toS x.Var))), (.lit (.int .i64 x.E.Time)), (.lit (.int .i64 x.E.Source)), (.lit (.int .i64 x.E.Seq)), (.lit (.string (toS x.E.Type_))), (.sl (List.length x.E.Vals) (flatD enc_GValue x.E.Vals))]
theorem enc_GPair_len (x : GPair) : (enc_GPair x).length = 6 := rfl
structure GArr2_List_GPair where
  a0 : (List GPair)
  a1 : (List GPair)
  deriving DecidableEq, Inhabited
def enc_GArr2_List_GPair (x : GArr2_List_GPair) : List D := [(.sl (List.length x.a0) (flatD enc_GPair x.a0)), (.sl (List.length x.a1) (flatD enc_GPair x.a1))]
theorem enc_GArr2_List_GPair_len (x : GArr2_List_GPair) : (enc_GArr2_List_GPair x).length = 2 := rfl
structure GMatch where
  Pattern : Int
  Key : (List UInt8)
  Bound : (List GPair)
  deriving DecidableEq, Inhabited
def enc_GMatch (x : GMatch) : List D := [(.lit (.int .i64 x.Pattern)), (.lit (.string (toS x.Key))), (.sl (List.length x.Bound) (flatD enc_GPair x.Bound))]
theorem enc_GMatch_len (x : GMatch) : (enc_GMatch x).length = 3 := rfl
structure GID where
  Time : Int
  Source : Int
  Seq : Int
  deriving DecidableEq, Inhabited
def enc_GID (x : GID) : List D := [(.lit (.int .i64 x.Time)), (.lit (.int .i64 x.Source)), (.lit (.int .i64 x.Seq))]
theorem enc_GID_len (x : GID) : (enc_GID x).length = 3 := rfl
theorem enc_GID_plain (x : GID) : ∀ d ∈ enc_GID x, d.Plain := by simp [enc_GID, D.Plain, byteD]
structure GArr3_GMatch where
  a0 : GMatch
  a1 : GMatch
  a2 : GMatch
  deriving DecidableEq, Inhabited
def enc_GArr3_GMatch (x : GArr3_GMatch) : List D := [(.lit (.int .i64 x.a0.Pattern)), (.lit (.string (toS x.a0.Key))), (.sl (List.length x.a0.Bound) (flatD enc_GPair x.a0.Bound)), (.lit (.int .i64 x.a1.Pattern)), (.lit (.string (toS x.a1.Key))), (.sl (List.length x.a1.Bound) (flatD enc_GPair x.a1.Bound)), (.lit (.int .i64 x.a2.Pattern)), (.lit (.string (toS x.a2.Key))), (.sl (List.length x.a2.Bound) (flatD enc_GPair x.a2.Bound))]
theorem enc_GArr3_GMatch_len (x : GArr3_GMatch) : (enc_GArr3_GMatch x).length = 9 := rfl
theorem elemOK_22 : ElemOK Try.prog 22 28 6 80 (.agg #[(.string ⟨#[]⟩), (.int .i64 0), (.int .i64 0), (.int .i64 0), (.string ⟨#[]⟩), (.slice none 0 0)]) := ⟨by kernel_rfl, by kernel_rfl, by kernel_rfl, by decide, by decide⟩
theorem elemOK_24 : ElemOK Try.prog 24 88 4 40 (.agg #[(.int .u8 0), (.int .i64 0), (.int .u64 0), (.string ⟨#[]⟩)]) := ⟨by kernel_rfl, by kernel_rfl, by kernel_rfl, by decide, by decide⟩
theorem elemOK_31 : ElemOK Try.prog 31 45 6 80 (.agg #[(.string ⟨#[]⟩), (.int .i64 0), (.int .i64 0), (.int .i64 0), (.string ⟨#[]⟩), (.slice none 0 0)]) := ⟨by kernel_rfl, by kernel_rfl, by kernel_rfl, by decide, by decide⟩
theorem elemOK_33 : ElemOK Try.prog 33 89 4 40 (.agg #[(.int .u8 0), (.int .i64 0), (.int .u64 0), (.string ⟨#[]⟩)]) := ⟨by kernel_rfl, by kernel_rfl, by kernel_rfl, by decide, by decide⟩
theorem elemOK_58 : ElemOK Try.prog 58 48 3 48 (.agg #[(.int .i64 0), (.string ⟨#[]⟩), (.slice none 0 0)]) := ⟨by kernel_rfl, by kernel_rfl, by kernel_rfl, by decide, by decide⟩
theorem elemOK_66 : ElemOK Try.prog 66 61 3 48 (.agg #[(.int .i64 0), (.string ⟨#[]⟩), (.slice none 0 0)]) := ⟨by kernel_rfl, by kernel_rfl, by kernel_rfl, by decide, by decide⟩
theorem elemOK_104 : ElemOK Try.prog 104 5 1 1 (.int .u8 0) := ⟨by kernel_rfl, by kernel_rfl, by kernel_rfl, by decide, by decide⟩
theorem elemOK_112 : ElemOK Try.prog 112 3 1 8 (.int .i64 0) := ⟨by kernel_rfl, by kernel_rfl, by kernel_rfl, by decide, by decide⟩
end Go.Proofs.Ytkagljfmfjaleaa.K
