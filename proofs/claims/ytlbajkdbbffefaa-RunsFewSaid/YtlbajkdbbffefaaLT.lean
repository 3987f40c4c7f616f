/- typed data: structures and their cells -/
import Derived.Test.YtlbajkdbbffefaaLe
namespace Go.Proofs.Ytlbajkdbbffefaa.K
open Go.RowKit Go.Lib
set_option linter.unusedVariables false
set_option linter.unusedSimpArgs false

structure GValue where
  Kind : UInt8
  N : Int
  Bits : Int
  Text : (List UInt8)
  deriving DecidableEq, Inhabited
def enc_GValue (x : GValue) : List D := [(byteD x.Kind), (.lit (.int .i64 x.N)), (.lit (.int .u64 x.Bits)), (.lit (.string (toS x.Text)))]
theorem enc_GValue_len (x : GValue) : (enc_GValue x).length = 4 := rfl
theorem enc_GValue_plain (x : GValue) : ∀ d ∈ enc_GValue x, d.Plain := by simp [enc_GValue, D.Plain, byteD]
structure GEvent where
  Time : Int
  Source : Int
  Seq : Int
  Type_ : (List UInt8)
  Vals : (List GValue)
  deriving DecidableEq, Inhabited
def enc_GEvent (x : GEvent) : List D := [(.lit (.int .i64 x.Time)), (.lit (.int .i64 x.Source)), (.lit (.int .i64 x.Seq)), (.lit (.string (toS x.Type_))), (.sl (List.length x.Vals) (flatD enc_GValue x.Vals))]
theorem enc_GEvent_len (x : GEvent) : (enc_GEvent x).length = 5 := rfl
structure GPair where
  Var : (List UInt8)
  E : GEvent
  deriving DecidableEq, Inhabited
def enc_GPair (x : GPair) : List D := [(.lit (.string (toS x.Var))), (.lit (.int .i64 x.E.Time)), (.lit (.int .i64 x.E.Source)), (.lit (.int .i64 x.E.Seq)), (.lit (.string (toS x.E.Type_))), (.sl (List.length x.E.Vals) (flatD enc_GValue x.E.Vals))]
theorem enc_GPair_len (x : GPair) : (enc_GPair x).length = 6 := rfl
structure GRun where
  Place : Int
  Bound : (List GPair)
  Broken : Int
  deriving DecidableEq, Inhabited
def enc_GRun (x : GRun) : List D := [(.lit (.int .i64 x.Place)), (.sl (List.length x.Bound) (flatD enc_GPair x.Bound)), (.lit (.int .u32 x.Broken))]
theorem enc_GRun_len (x : GRun) : (enc_GRun x).length = 3 := rfl
structure GRuns where
  Cap : Int
  L : (List GRun)
  deriving DecidableEq, Inhabited
def enc_GRuns (x : GRuns) : List D := [(.lit (.int .i64 x.Cap)), (.sl (List.length x.L) (flatD enc_GRun x.L))]
theorem enc_GRuns_len (x : GRuns) : (enc_GRuns x).length = 2 := rfl
structure GArr2_GRuns where
  a0 : GRuns
  a1 : GRuns
  deriving DecidableEq, Inhabited
def enc_GArr2_GRuns (x : GArr2_GRuns) : List D := [(.lit (.int .i64 x.a0.Cap)), (.sl (List.length x.a0.L) (flatD enc_GRun x.a0.L)), (.lit (.int .i64 x.a1.Cap)), (.sl (List.length x.a1.L) (flatD enc_GRun x.a1.L))]
theorem enc_GArr2_GRuns_len (x : GArr2_GRuns) : (enc_GArr2_GRuns x).length = 4 := rfl
structure GID where
  Time : Int
  Source : Int
  Seq : Int
  deriving DecidableEq, Inhabited
def enc_GID (x : GID) : List D := [(.lit (.int .i64 x.Time)), (.lit (.int .i64 x.Source)), (.lit (.int .i64 x.Seq))]
theorem enc_GID_len (x : GID) : (enc_GID x).length = 3 := rfl
theorem enc_GID_plain (x : GID) : ∀ d ∈ enc_GID x, d.Plain := by simp [enc_GID, D.Plain, byteD]
structure GArr3_Int where
  a0 : Int
  a1 : Int
  a2 : Int
  deriving DecidableEq, Inhabited
def enc_GArr3_Int (x : GArr3_Int) : List D := [(.lit (.int .i64 x.a0)), (.lit (.int .i64 x.a1)), (.lit (.int .i64 x.a2))]
theorem enc_GArr3_Int_len (x : GArr3_Int) : (enc_GArr3_Int x).length = 3 := rfl
theorem enc_GArr3_Int_plain (x : GArr3_Int) : ∀ d ∈ enc_GArr3_Int x, d.Plain := by simp [enc_GArr3_Int, D.Plain, byteD]
theorem elemOK_22 : ElemOK Try.prog 22 29 3 40 (.agg #[(.int .i64 0), (.slice none 0 0), (.int .u32 0)]) := ⟨by kernel_rfl, by kernel_rfl, by kernel_rfl, by decide, by decide⟩
theorem elemOK_26 : ElemOK Try.prog 26 83 6 80 (.agg #[(.string ⟨#[]⟩), (.int .i64 0), (.int .i64 0), (.int .i64 0), (.string ⟨#[]⟩), (.slice none 0 0)]) := ⟨by kernel_rfl, by kernel_rfl, by kernel_rfl, by decide, by decide⟩
theorem elemOK_33 : ElemOK Try.prog 33 42 3 40 (.agg #[(.int .i64 0), (.slice none 0 0), (.int .u32 0)]) := ⟨by kernel_rfl, by kernel_rfl, by kernel_rfl, by decide, by decide⟩
theorem elemOK_40 : ElemOK Try.prog 40 93 6 80 (.agg #[(.string ⟨#[]⟩), (.int .i64 0), (.int .i64 0), (.int .i64 0), (.string ⟨#[]⟩), (.slice none 0 0)]) := ⟨by kernel_rfl, by kernel_rfl, by kernel_rfl, by decide, by decide⟩
theorem elemOK_79 : ElemOK Try.prog 79 113 4 40 (.agg #[(.int .u8 0), (.int .i64 0), (.int .u64 0), (.string ⟨#[]⟩)]) := ⟨by kernel_rfl, by kernel_rfl, by kernel_rfl, by decide, by decide⟩
theorem elemOK_89 : ElemOK Try.prog 89 116 4 40 (.agg #[(.int .u8 0), (.int .i64 0), (.int .u64 0), (.string ⟨#[]⟩)]) := ⟨by kernel_rfl, by kernel_rfl, by kernel_rfl, by decide, by decide⟩
end Go.Proofs.Ytlbajkdbbffefaa.K
