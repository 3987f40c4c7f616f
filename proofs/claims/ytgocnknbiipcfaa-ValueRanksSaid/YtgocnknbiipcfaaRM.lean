/- more types and models -/
import Derived.Test.YtgocnknbiipcfaaLM
namespace Go.Proofs.Ytgocnknbiipcfaa.K
open Go.RowKit Go.Lib
set_option linter.unusedVariables false
set_option linter.unusedSimpArgs false

structure GArr3_GValue where
  a0 : GValue
  a1 : GValue
  a2 : GValue
  deriving DecidableEq, Inhabited
def enc_GArr3_GValue (x : GArr3_GValue) : List D := [(byteD x.a0.Kind), (.lit (.int .i64 x.a0.N)), (.lit (.int .u64 x.a0.Bits)), (.lit (.string (toS x.a0.Text))), (byteD x.a1.Kind), (.lit (.int .i64 x.a1.N)), (.lit (.int .u64 x.a1.Bits)), (.lit (.string (toS x.a1.Text))), (byteD x.a2.Kind), (.lit (.int .i64 x.a2.N)), (.lit (.int .u64 x.a2.Bits)), (.lit (.string (toS x.a2.Text)))]
theorem enc_GArr3_GValue_len (x : GArr3_GValue) : (enc_GArr3_GValue x).length = 12 := rfl
theorem enc_GArr3_GValue_plain (x : GArr3_GValue) : ∀ d ∈ enc_GArr3_GValue x, d.Plain := by simp [enc_GArr3_GValue, D.Plain, byteD]

def m_telltalelaw04_ValueRanks_j3 (y3_0 : Int) (k_m_telltalelaw04_ValueRanks_l0 : Int → Option Bool) (y18_3 : Bool) : Option Bool :=
  cond y18_3
  (Option.bind m_telltalelaw04_awake fun r19_2 =>
  some r19_2)
  (k_m_telltalelaw04_ValueRanks_l0 (IntKind.i64.wrap (y3_0 + 1)))
def m_telltalelaw04_ValueRanks_l0 (p0 : GArr3_GValue) : Nat → Int → Option Bool
  | 0, _ => none
  | fu_0 + 1, y3_0 =>
    cond (decide (y3_0 < 3))
    (cond (decide (y3_0 = 0))
    (Option.bind (m_telltalelaw04_Small p0.a0) fun r17_1 =>
    m_telltalelaw04_ValueRanks_j3 y3_0 (fun y3_0 => m_telltalelaw04_ValueRanks_l0 p0 fu_0 y3_0) (decide ((0 : Int) < r17_1)))
    (cond (decide (y3_0 = 1))
    (Option.bind (m_telltalelaw04_Small p0.a1) fun r17_1 =>
    m_telltalelaw04_ValueRanks_j3 y3_0 (fun y3_0 => m_telltalelaw04_ValueRanks_l0 p0 fu_0 y3_0) (decide ((0 : Int) < r17_1)))
    (cond (decide (y3_0 = 2))
    (Option.bind (m_telltalelaw04_Small p0.a2) fun r17_1 =>
    m_telltalelaw04_ValueRanks_j3 y3_0 (fun y3_0 => m_telltalelaw04_ValueRanks_l0 p0 fu_0 y3_0) (decide ((0 : Int) < r17_1)))
    (none))))
    (Option.bind (m_value_Rank p0.a0 p0.a1) fun r28_4 =>
    Option.bind (m_value_Rank p0.a1 p0.a2) fun r31_4 =>
    Option.bind (m_value_Rank p0.a0 p0.a2) fun r34_4 =>
    cond (decide (((-1) : Int) ≤ r28_4))
    (cond (decide (r28_4 ≤ 1))
    (Option.bind (m_value_Rank p0.a1 p0.a0) fun r44_5 =>
    cond (decide (r44_5 = (IntKind.i64.wrap (0 - r28_4))))
    (Option.bind (m_value_Rank p0.a0 p0.a0) fun r52_5 =>
    cond (decide (r52_5 = 0))
    (cond (decide ((0 : Int) < r28_4))
    (cond (decide ((0 : Int) < r28_4))
    (Option.bind m_telltalelaw04_awake fun r80_5 =>
    some r80_5)
    (cond (decide ((0 : Int) ≤ r31_4))
    (Option.bind m_telltalelaw04_awake fun r80_5 =>
    some r80_5)
    (cond (decide (r34_4 < 0))
    (Option.bind m_telltalelaw04_awake fun r80_5 =>
    some r80_5)
    (some false))))
    (cond (decide ((0 : Int) < r31_4))
    (cond (decide ((0 : Int) < r28_4))
    (Option.bind m_telltalelaw04_awake fun r80_5 =>
    some r80_5)
    (cond (decide ((0 : Int) ≤ r31_4))
    (Option.bind m_telltalelaw04_awake fun r80_5 =>
    some r80_5)
    (cond (decide (r34_4 < 0))
    (Option.bind m_telltalelaw04_awake fun r80_5 =>
    some r80_5)
    (some false))))
    (cond (decide (r34_4 ≤ 0))
    (cond (decide ((0 : Int) < r28_4))
    (Option.bind m_telltalelaw04_awake fun r80_5 =>
    some r80_5)
    (cond (decide ((0 : Int) ≤ r31_4))
    (Option.bind m_telltalelaw04_awake fun r80_5 =>
    some r80_5)
    (cond (decide (r34_4 < 0))
    (Option.bind m_telltalelaw04_awake fun r80_5 =>
    some r80_5)
    (some false))))
    (some false))))
    (some false))
    (some false))
    (some false))
    (some false))
def m_telltalelaw04_ValueRanks (p0 : GArr3_GValue) : Option Bool :=
  m_telltalelaw04_ValueRanks_l0 p0 1152921504606846976 0
end Go.Proofs.Ytgocnknbiipcfaa.K
