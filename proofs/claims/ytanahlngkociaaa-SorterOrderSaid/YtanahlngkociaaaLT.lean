/- typed data: structures and their cells -/
import Derived.Test.YtanahlngkociaaaLe
namespace Go.Proofs.Ytanahlngkociaaa.K
open Go.RowKit Go.Lib
set_option linter.unusedVariables false
set_option linter.unusedSimpArgs false

structure GValue where
  Kind : UInt8
  N : Int
  Bits : Int
  Text : (List UInt8)
  deriving DecidableEq, Inhabited
def enc_GValue (x : GValue) : List D := [(byteD x.Kind), (.lit (.int .i64 x.N)), (.lit (.int .u64 x.Bits)), (.lit (.string (toS x.Text)))]
theorem enc_GValue_len (x : GValue) : (enc_GValue x).length = 4 := rfl
theorem enc_GValue_plain (x : GValue) : ∀ d ∈ enc_GValue x, d.Plain := by simp [enc_GValue, D.Plain, byteD]
structure GEvent where
  Time : Int
  Source : Int
  Seq : Int
  Type_ : (List UInt8)
  Vals : (List GValue)
  deriving DecidableEq, Inhabited
def enc_GEvent (x : GEvent) : List D := [(.lit (.int .i64 x.Time)), (.lit (.int .i64 x.Source)), (.lit (.int .i64 x.Seq)), (.lit (.string (toS x.Type_))), (.sl (List.length x.Vals) (flatD enc_GValue x.Vals))]
theorem enc_GEvent_len (x : GEvent) : (enc_GEvent x).length = 5 := rfl
structure GSorter where
  Cap : Int
  L : (List GEvent)
  deriving DecidableEq, Inhabited
def enc_GSorter (x : GSorter) : List D := [(.lit (.int .i64 x.Cap)), (.sl (List.length x.L) (flatD enc_GEvent x.L))]
theorem enc_GSorter_len (x : GSorter) : (enc_GSorter x).length = 2 := rfl
structure GID where
  Time : Int
  Source : Int
  Seq : Int
  deriving DecidableEq, Inhabited
def enc_GID (x : GID) : List D := [(.lit (.int .i64 x.Time)), (.lit (.int .i64 x.Source)), (.lit (.int .i64 x.Seq))]
theorem enc_GID_len (x : GID) : (enc_GID x).length = 3 := rfl
theorem enc_GID_plain (x : GID) : ∀ d ∈ enc_GID x, d.Plain := by simp [enc_GID, D.Plain, byteD]
structure GOp where
  Let : Bool
  At : Int
  E : GEvent
  deriving DecidableEq, Inhabited
def enc_GOp (x : GOp) : List D := [(.lit (.bool x.Let)), (.lit (.int .i64 x.At)), (.lit (.int .i64 x.E.Time)), (.lit (.int .i64 x.E.Source)), (.lit (.int .i64 x.E.Seq)), (.lit (.string (toS x.E.Type_))), (.sl (List.length x.E.Vals) (flatD enc_GValue x.E.Vals))]
theorem enc_GOp_len (x : GOp) : (enc_GOp x).length = 7 := rfl
structure GArr2_Int where
  a0 : Int
  a1 : Int
  deriving DecidableEq, Inhabited
def enc_GArr2_Int (x : GArr2_Int) : List D := [(.lit (.int .i64 x.a0)), (.lit (.int .i64 x.a1))]
theorem enc_GArr2_Int_len (x : GArr2_Int) : (enc_GArr2_Int x).length = 2 := rfl
theorem enc_GArr2_Int_plain (x : GArr2_Int) : ∀ d ∈ enc_GArr2_Int x, d.Plain := by simp [enc_GArr2_Int, D.Plain, byteD]
theorem elemOK_24 : ElemOK Try.prog 24 50 5 64 (.agg #[(.int .i64 0), (.int .i64 0), (.int .i64 0), (.string ⟨#[]⟩), (.slice none 0 0)]) := ⟨by kernel_rfl, by kernel_rfl, by kernel_rfl, by decide, by decide⟩
theorem elemOK_30 : ElemOK Try.prog 30 38 5 64 (.agg #[(.int .i64 0), (.int .i64 0), (.int .i64 0), (.string ⟨#[]⟩), (.slice none 0 0)]) := ⟨by kernel_rfl, by kernel_rfl, by kernel_rfl, by decide, by decide⟩
theorem elemOK_36 : ElemOK Try.prog 36 73 4 40 (.agg #[(.int .u8 0), (.int .i64 0), (.int .u64 0), (.string ⟨#[]⟩)]) := ⟨by kernel_rfl, by kernel_rfl, by kernel_rfl, by decide, by decide⟩
theorem elemOK_48 : ElemOK Try.prog 48 94 4 40 (.agg #[(.int .u8 0), (.int .i64 0), (.int .u64 0), (.string ⟨#[]⟩)]) := ⟨by kernel_rfl, by kernel_rfl, by kernel_rfl, by decide, by decide⟩
theorem elemOK_57 : ElemOK Try.prog 57 3 1 8 (.int .i64 0) := ⟨by kernel_rfl, by kernel_rfl, by kernel_rfl, by decide, by decide⟩
end Go.Proofs.Ytanahlngkociaaa.K
