/- typed data: structures and their cells -/
import Derived.Test.YtkamekhkkkeedaaLh
namespace Go.Proofs.Ytkamekhkkkeedaa.K
open Go.RowKit Go.Lib
set_option linter.unusedVariables false
set_option linter.unusedSimpArgs false

structure GLeave where
  Loc : Int
  Time : Int
  Held : Bool
  deriving DecidableEq, Inhabited
def enc_GLeave (x : GLeave) : List D := [(.lit (.int .i64 x.Loc)), (.lit (.int .i64 x.Time)), (.lit (.bool x.Held))]
theorem enc_GLeave_len (x : GLeave) : (enc_GLeave x).length = 3 := rfl
theorem enc_GLeave_plain (x : GLeave) : ∀ d ∈ enc_GLeave x, d.Plain := by simp [enc_GLeave, D.Plain, byteD]
structure GArr2_List_GLeave where
  a0 : (List GLeave)
  a1 : (List GLeave)
  deriving DecidableEq, Inhabited
def enc_GArr2_List_GLeave (x : GArr2_List_GLeave) : List D := [(.sl (List.length x.a0) (flatD enc_GLeave x.a0)), (.sl (List.length x.a1) (flatD enc_GLeave x.a1))]
theorem enc_GArr2_List_GLeave_len (x : GArr2_List_GLeave) : (enc_GArr2_List_GLeave x).length = 2 := rfl
structure GTurn where
  Kind : UInt8
  A : Int
  B : Int
  deriving DecidableEq, Inhabited
def enc_GTurn (x : GTurn) : List D := [(byteD x.Kind), (.lit (.int .i64 x.A)), (.lit (.int .i64 x.B))]
theorem enc_GTurn_len (x : GTurn) : (enc_GTurn x).length = 3 := rfl
theorem enc_GTurn_plain (x : GTurn) : ∀ d ∈ enc_GTurn x, d.Plain := by simp [enc_GTurn, D.Plain, byteD]
structure GPoint where
  Loc : Int
  Time : Int
  deriving DecidableEq, Inhabited
def enc_GPoint (x : GPoint) : List D := [(.lit (.int .i64 x.Loc)), (.lit (.int .i64 x.Time))]
theorem enc_GPoint_len (x : GPoint) : (enc_GPoint x).length = 2 := rfl
theorem enc_GPoint_plain (x : GPoint) : ∀ d ∈ enc_GPoint x, d.Plain := by simp [enc_GPoint, D.Plain, byteD]
structure GLeave_ where
  Point : GPoint
  Held : Bool
  deriving DecidableEq, Inhabited
def enc_GLeave_ (x : GLeave_) : List D := [(.lit (.int .i64 x.Point.Loc)), (.lit (.int .i64 x.Point.Time)), (.lit (.bool x.Held))]
theorem enc_GLeave__len (x : GLeave_) : (enc_GLeave_ x).length = 3 := rfl
theorem enc_GLeave__plain (x : GLeave_) : ∀ d ∈ enc_GLeave_ x, d.Plain := by simp [enc_GLeave_, D.Plain, byteD]
structure GBook where
  L : (List GLeave_)
  deriving DecidableEq, Inhabited
def enc_GBook (x : GBook) : List D := [(.sl (List.length x.L) (flatD enc_GLeave_ x.L))]
theorem enc_GBook_len (x : GBook) : (enc_GBook x).length = 1 := rfl
structure GChange where
  Loc : Int
  Time : Int
  N : Int
  deriving DecidableEq, Inhabited
def enc_GChange (x : GChange) : List D := [(.lit (.int .i64 x.Loc)), (.lit (.int .i64 x.Time)), (.lit (.int .i64 x.N))]
theorem enc_GChange_len (x : GChange) : (enc_GChange x).length = 3 := rfl
theorem enc_GChange_plain (x : GChange) : ∀ d ∈ enc_GChange x, d.Plain := by simp [enc_GChange, D.Plain, byteD]
structure GArr4_Int where
  a0 : Int
  a1 : Int
  a2 : Int
  a3 : Int
  deriving DecidableEq, Inhabited
def enc_GArr4_Int (x : GArr4_Int) : List D := [(.lit (.int .i64 x.a0)), (.lit (.int .i64 x.a1)), (.lit (.int .i64 x.a2)), (.lit (.int .i64 x.a3))]
theorem enc_GArr4_Int_len (x : GArr4_Int) : (enc_GArr4_Int x).length = 4 := rfl
theorem enc_GArr4_Int_plain (x : GArr4_Int) : ∀ d ∈ enc_GArr4_Int x, d.Plain := by simp [enc_GArr4_Int, D.Plain, byteD]
theorem elemOK_22 : ElemOK Try.prog 22 68 3 24 (.agg #[(.int .i64 0), (.int .i64 0), (.bool false)]) := ⟨by kernel_rfl, by kernel_rfl, by kernel_rfl, by decide, by decide⟩
theorem elemOK_27 : ElemOK Try.prog 27 47 3 24 (.agg #[(.int .i64 0), (.int .i64 0), (.bool false)]) := ⟨by kernel_rfl, by kernel_rfl, by kernel_rfl, by decide, by decide⟩
theorem elemOK_31 : ElemOK Try.prog 31 65 3 24 (.agg #[(.int .i64 0), (.int .i64 0), (.int .i64 0)]) := ⟨by kernel_rfl, by kernel_rfl, by kernel_rfl, by decide, by decide⟩
theorem elemOK_32 : ElemOK Try.prog 32 71 3 24 (.agg #[(.int .i64 0), (.int .i64 0), (.int .i64 0)]) := ⟨by kernel_rfl, by kernel_rfl, by kernel_rfl, by decide, by decide⟩
end Go.Proofs.Ytkamekhkkkeedaa.K
