/- models of the program's functions -/
import Derived.Test.YtlbajkdbbffefaaLT
namespace Go.Proofs.Ytlbajkdbbffefaa.K
open Go.RowKit Go.Lib
set_option linter.unusedVariables false
set_option linter.unusedSimpArgs false

def m_telltalelaw04_Small (p0 : GValue) : Option Int :=
  some (max 0 (IntKind.i64.wrap (((List.length p0.Text : Nat) : Int) - 100)))

def m_telltalelaw07_Over_l4 (p0 : (List GEvent)) (y5_1 : Int) (k_m_telltalelaw07_Over_l1 : Int → Option Int) : Nat → Int → Option Int
  | 0, _ => none
  | fu_4 + 1, y6_4 =>
    Option.bind (geti p0 y5_1) fun x36_5 =>
    cond (decide (y6_4 < ((List.length x36_5.Vals : Nat) : Int)))
    (Option.bind (geti p0 y5_1) fun x45_6 =>
    Option.bind (geti x45_6.Vals y6_4) fun x49_6 =>
    Option.bind (m_telltalelaw04_Small x49_6) fun r51_6 =>
    cond (decide ((0 : Int) < r51_6))
    (some 1)
    (m_telltalelaw07_Over_l4 p0 y5_1 k_m_telltalelaw07_Over_l1 fu_4 (IntKind.i64.wrap (y6_4 + 1))))
    (k_m_telltalelaw07_Over_l1 (IntKind.i64.wrap (y5_1 + 1)))
def m_telltalelaw07_Over_l1 (p0 : (List GEvent)) : Nat → Int → Option Int
  | 0, _ => none
  | fu_1 + 1, y5_1 =>
    cond (decide (y5_1 < ((List.length p0 : Nat) : Int)))
    (Option.bind (geti p0 y5_1) fun x19_3 =>
    cond (decide ((40 : Int) < ((List.length x19_3.Type_ : Nat) : Int)))
    (some 1)
    (Option.bind (geti p0 y5_1) fun x27_3 =>
    cond (decide ((12 : Int) < ((List.length x27_3.Vals : Nat) : Int)))
    (some 1)
    (m_telltalelaw07_Over_l4 p0 y5_1 (fun y5_1 => m_telltalelaw07_Over_l1 p0 fu_1 y5_1) 1152921504606846976 0)))
    (some 0)
def m_telltalelaw07_Over (p0 : (List GEvent)) (p1 : Int) : Option Int :=
  cond (decide (p1 < ((List.length p0 : Nat) : Int)))
  (some 1)
  (m_telltalelaw07_Over_l1 p0 1152921504606846976 0)

def m_telltalelaw19_Long_l1 (p0 : (List GPair)) : Nat → Int → Option Int
  | 0, _ => none
  | fu_1 + 1, y3_1 =>
    cond (decide (y3_1 < ((List.length p0 : Nat) : Int)))
    (Option.bind (geti p0 y3_1) fun x15_3 =>
    cond (decide ((40 : Int) < ((List.length x15_3.Var : Nat) : Int)))
    (some 1)
    (Option.bind (geti p0 y3_1) fun x23_3 =>
    Option.bind (m_telltalelaw07_Over ([x23_3.E] : List GEvent) 1) fun r27_3 =>
    cond (decide ((0 : Int) < r27_3))
    (some 1)
    (m_telltalelaw19_Long_l1 p0 fu_1 (IntKind.i64.wrap (y3_1 + 1)))))
    (some 0)
def m_telltalelaw19_Long (p0 : (List GPair)) : Option Int :=
  cond (decide ((20 : Int) < ((List.length p0 : Nat) : Int)))
  (some 1)
  (m_telltalelaw19_Long_l1 p0 1152921504606846976 0)

def m_telltalelaw21_Over_l1 (p0 : GRuns) : Nat → Int → Option Int
  | 0, _ => none
  | fu_1 + 1, y3_1 =>
    cond (decide (y3_1 < ((List.length p0.L : Nat) : Int)))
    (Option.bind (geti p0.L y3_1) fun x18_3 =>
    Option.bind (m_telltalelaw19_Long x18_3.Bound) fun r21_3 =>
    cond (decide ((0 : Int) < r21_3))
    (some 1)
    (m_telltalelaw21_Over_l1 p0 fu_1 (IntKind.i64.wrap (y3_1 + 1))))
    (some 0)
def m_telltalelaw21_Over (p0 : GRuns) : Option Int :=
  cond (decide ((12 : Int) < ((List.length p0.L : Nat) : Int)))
  (some 1)
  (m_telltalelaw21_Over_l1 p0 1152921504606846976 0)

def m_runs_New (p0 : Int) : Option (GRuns × Int) :=
  cond (decide (p0 < 1))
  (some ((GRuns.mk 0 ([] : List GRun)), 2))
  (cond (decide ((4096 : Int) < p0))
  (some ((GRuns.mk 0 ([] : List GRun)), 2))
  (some ((GRuns.mk p0 ([] : List GRun)), 0)))

def m_telltalelaw21_at (p0 : Int) : Option (List GPair) :=
  some ([(GPair.mk ([120] : List UInt8) (GEvent.mk p0 0 0 ([] : List UInt8) ([] : List GValue)))] : List GPair)

def m_runs_all (p0 : Int) : Option Bool :=
  some true

def m_slices_Clone_Pair (p0 : (List GPair)) : Option (List GPair) :=
  Option.bind (app ([] : List GPair) p0) fun a7_0 =>
  some a7_0

def m_runs_clone (p0 : GRun) : Option GRun :=
  Option.bind (m_slices_Clone_Pair p0.Bound) fun r5_0 =>
  some (GRun.mk p0.Place r5_0 p0.Broken)

def m_runs_Runs_filter__runs_all_l1 (p0 : GRuns) : Nat → (List GRun) → Int → Option GRuns
  | 0, _, _ => none
  | fu_1 + 1, y5_d_1_1, y14_1 =>
    cond (decide (y14_1 < ((List.length p0.L : Nat) : Int)))
    (Option.bind (geti p0.L y14_1) fun x17_2 =>
    Option.bind (m_runs_all y14_1) fun r21_3 =>
    cond r21_3
    (Option.bind (m_runs_clone x17_2) fun r25_4 =>
    Option.bind (app y5_d_1_1 ([r25_4] : List GRun)) fun a27_4 =>
    m_runs_Runs_filter__runs_all_l1 p0 fu_1 a27_4 (IntKind.i64.wrap (y14_1 + 1)))
    (m_runs_Runs_filter__runs_all_l1 p0 fu_1 y5_d_1_1 (IntKind.i64.wrap (y14_1 + 1))))
    (some (GRuns.mk p0.Cap y5_d_1_1))
def m_runs_Runs_filter__runs_all (p0 : GRuns) : Option GRuns :=
  m_runs_Runs_filter__runs_all_l1 p0 1152921504606846976 ([] : List GRun) 0

def m_event_Event_ID (p0 : GEvent) : Option GID :=
  some (GID.mk p0.Time p0.Source p0.Seq)

def m_cmp_isNaN_int (p0 : Int) : Option Bool :=
  some (decide (p0 ≠ p0))

def m_cmp_Compare_int (p0 : Int) (p1 : Int) : Option Int :=
  Option.bind (m_cmp_isNaN_int p0) fun r8_0 =>
  Option.bind (m_cmp_isNaN_int p1) fun r10_1 =>
  cond r8_0
  (cond r10_1
  (some 0)
  (some (-1)))
  (cond r10_1
  (some 1)
  (cond (decide (p0 < p1))
  (some (-1))
  (cond (decide (p1 < p0))
  (some 1)
  (some 0))))

def m_cmp_isNaN_string (p0 : (List UInt8)) : Option Bool :=
  some (decide (p0 ≠ p0))

def m_cmp_Compare_string (p0 : (List UInt8)) (p1 : (List UInt8)) : Option Int :=
  Option.bind (m_cmp_isNaN_string p0) fun r8_0 =>
  Option.bind (m_cmp_isNaN_string p1) fun r10_1 =>
  cond r8_0
  (cond r10_1
  (some 0)
  (some (-1)))
  (cond r10_1
  (some 1)
  (cond (ltS p0 p1)
  (some (-1))
  (cond (gtS p0 p1)
  (some 1)
  (some 0))))

def m_cmp_Or_int_l1 (p0 : (List Int)) : Nat → Int → Option Int
  | 0, _ => none
  | fu_1 + 1, y8_1 =>
    cond (decide (y8_1 < ((List.length p0 : Nat) : Int)))
    (Option.bind (geti p0 y8_1) fun x10_2 =>
    cond (decide (x10_2 ≠ 0))
    (some x10_2)
    (m_cmp_Or_int_l1 p0 fu_1 (IntKind.i64.wrap (y8_1 + 1))))
    (some 0)
def m_cmp_Or_int (p0 : (List Int)) : Option Int :=
  m_cmp_Or_int_l1 p0 1152921504606846976 0

def m_bind_order (p0 : GPair) (p1 : GPair) : Option Int :=
  Option.bind (m_event_Event_ID p0.E) fun r9_0 =>
  Option.bind (m_event_Event_ID p1.E) fun r12_0 =>
  Option.bind (m_cmp_Compare_int r9_0.Time r12_0.Time) fun r17_1 =>
  Option.bind (m_cmp_Compare_int r9_0.Source r12_0.Source) fun r22_1 =>
  Option.bind (m_cmp_Compare_int r9_0.Seq r12_0.Seq) fun r27_1 =>
  Option.bind (m_cmp_Compare_string p0.Var p1.Var) fun r32_1 =>
  Option.bind (m_cmp_Or_int ([r17_1, r22_1, r27_1, r32_1] : List Int)) fun r34_1 =>
  some r34_1

def m_slices_CompareFunc_Pairbind_Pair_bind_Pair_bind_Pair__bind_order_l1 (p0 : (List GPair)) (p1 : (List GPair)) : Nat → Int → Option Int
  | 0, _ => none
  | fu_1 + 1, y13_1 =>
    cond (decide (y13_1 < ((List.length p0 : Nat) : Int)))
    (Option.bind (geti p0 y13_1) fun x16_2 =>
    cond (decide (((List.length p1 : Nat) : Int) ≤ y13_1))
    (some 1)
    (Option.bind (geti p1 y13_1) fun x24_4 =>
    Option.bind (m_bind_order x16_2 x24_4) fun r29_5 =>
    cond (decide (r29_5 ≠ 0))
    (some r29_5)
    (m_slices_CompareFunc_Pairbind_Pair_bind_Pair_bind_Pair__bind_order_l1 p0 p1 fu_1 (IntKind.i64.wrap (y13_1 + 1)))))
    (cond (decide (((List.length p0 : Nat) : Int) < ((List.length p1 : Nat) : Int)))
    (some (-1))
    (some 0))
def m_slices_CompareFunc_Pairbind_Pair_bind_Pair_bind_Pair__bind_order (p0 : (List GPair)) (p1 : (List GPair)) : Option Int :=
  m_slices_CompareFunc_Pairbind_Pair_bind_Pair_bind_Pair__bind_order_l1 p0 p1 1152921504606846976 0

def m_bind_Rank (p0 : (List GPair)) (p1 : (List GPair)) : Option Int :=
  Option.bind (m_slices_CompareFunc_Pairbind_Pair_bind_Pair_bind_Pair__bind_order p0 p1) fun r7_0 =>
  some r7_0

def m_runs_Run_twin (p0 : GRun) (p1 : GRun) : Option Bool :=
  cond (decide (p0.Place = p1.Place))
  (Option.bind (m_bind_Rank p0.Bound p1.Bound) fun r15_0 =>
  some (decide (r15_0 = 0)))
  (some false)

def m_slices_IndexFunc_Run__runs_Run_twin_l1 (p0 : (List GRun)) (p1f0 : GRun) : Nat → Int → Option Int
  | 0, _ => none
  | fu_1 + 1, y8_1 =>
    cond (decide (y8_1 < ((List.length p0 : Nat) : Int)))
    (Option.bind (geti p0 y8_1) fun x14_2 =>
    Option.bind (m_runs_Run_twin p1f0 x14_2) fun r16_2 =>
    cond r16_2
    (some y8_1)
    (m_slices_IndexFunc_Run__runs_Run_twin_l1 p0 p1f0 fu_1 (IntKind.i64.wrap (y8_1 + 1))))
    (some (-1))
def m_slices_IndexFunc_Run__runs_Run_twin (p0 : (List GRun)) (p1f0 : GRun) : Option Int :=
  m_slices_IndexFunc_Run__runs_Run_twin_l1 p0 p1f0 1152921504606846976 0

def m_slices_ContainsFunc_Run__runs_Run_twin (p0 : (List GRun)) (p1f0 : GRun) : Option Bool :=
  Option.bind (m_slices_IndexFunc_Run__runs_Run_twin p0 p1f0) fun r7_0 =>
  some (decide ((0 : Int) ≤ r7_0))

def m_runs_Runs_Add (p0 : GRuns) (p1 : GRun) : Option (GRuns × Int) :=
  Option.bind (m_runs_Runs_filter__runs_all p0) fun r8_0 =>
  Option.bind (m_slices_ContainsFunc_Run__runs_Run_twin p0.L p1) fun r13_1 =>
  cond r13_1
  (some (r8_0, 0))
  (cond (decide (p0.Cap ≤ ((List.length p0.L : Nat) : Int)))
  (some (r8_0, 7))
  (Option.bind (m_runs_clone p1) fun r25_3 =>
  Option.bind (app r8_0.L ([r25_3] : List GRun)) fun a27_3 =>
  some ((GRuns.mk r8_0.Cap a27_3), 0)))

def m_bind_Span (p0 : (List GPair)) : Option (Int × Int × Bool) :=
  cond (decide (((List.length p0 : Nat) : Int) = 0))
  (some (0, 0, false))
  (Option.bind (geti p0 0) fun x9_1 =>
  Option.bind (geti p0 (IntKind.i64.wrap (((List.length p0 : Nat) : Int) - 1))) fun x17_1 =>
  some (x9_1.E.Time, x17_1.E.Time, true))

def m_runs_held (p0 : Int) : Option Int :=
  some (max 0 (min p0 1099511627776))

def m_runs_Runs_Prune_1 (p0 : Int) (p1 : GRuns) (p2 : Int) (p3 : Int) : Option Bool :=
  Option.bind (geti p1.L p0) fun x13_0 =>
  Option.bind (m_bind_Span x13_0.Bound) fun r16_0 =>
  cond (!r16_0.2.2)
  (some true)
  (Option.bind (m_runs_held p2) fun r24_1 =>
  Option.bind (m_runs_held r16_0.1) fun r26_1 =>
  Option.bind (m_runs_held p3) fun r29_1 =>
  some (decide ((IntKind.i64.wrap (r24_1 - r26_1)) ≤ r29_1)))

def m_runs_Runs_filter__runs_Runs_Prune_1_l1 (p0 : GRuns) (p1c0 : GRuns) (p1c1 : Int) (p1c2 : Int) : Nat → (List GRun) → Int → Option GRuns
  | 0, _, _ => none
  | fu_1 + 1, y5_d_1_1, y14_1 =>
    cond (decide (y14_1 < ((List.length p0.L : Nat) : Int)))
    (Option.bind (geti p0.L y14_1) fun x17_2 =>
    Option.bind (m_runs_Runs_Prune_1 y14_1 p1c0 p1c1 p1c2) fun r21_3 =>
    cond r21_3
    (Option.bind (m_runs_clone x17_2) fun r25_4 =>
    Option.bind (app y5_d_1_1 ([r25_4] : List GRun)) fun a27_4 =>
    m_runs_Runs_filter__runs_Runs_Prune_1_l1 p0 p1c0 p1c1 p1c2 fu_1 a27_4 (IntKind.i64.wrap (y14_1 + 1)))
    (m_runs_Runs_filter__runs_Runs_Prune_1_l1 p0 p1c0 p1c1 p1c2 fu_1 y5_d_1_1 (IntKind.i64.wrap (y14_1 + 1))))
    (some (GRuns.mk p0.Cap y5_d_1_1))
def m_runs_Runs_filter__runs_Runs_Prune_1 (p0 : GRuns) (p1c0 : GRuns) (p1c1 : Int) (p1c2 : Int) : Option GRuns :=
  m_runs_Runs_filter__runs_Runs_Prune_1_l1 p0 p1c0 p1c1 p1c2 1152921504606846976 ([] : List GRun) 0

def m_runs_Runs_Prune (p0 : GRuns) (p1 : Int) (p2 : Int) : Option GRuns :=
  Option.bind (m_runs_Runs_filter__runs_Runs_Prune_1 p0 p0 p1 p2) fun r9_0 =>
  some r9_0

def m_runs_Runs_Least_l1 (p0 : GRuns) : Nat → Int → Bool → Int → Option (Int × Bool)
  | 0, _, _, _ => none
  | fu_1 + 1, y4_1, y5_1, y14_1 =>
    cond (decide (y14_1 < ((List.length p0.L : Nat) : Int)))
    (Option.bind (geti p0.L y14_1) fun x16_2 =>
    Option.bind (m_bind_Span x16_2.Bound) fun r21_3 =>
    cond r21_3.2.2
    (cond (!y5_1)
    (m_runs_Runs_Least_l1 p0 fu_1 r21_3.1 true (IntKind.i64.wrap (y14_1 + 1)))
    (cond (decide (r21_3.1 < y4_1))
    (m_runs_Runs_Least_l1 p0 fu_1 r21_3.1 true (IntKind.i64.wrap (y14_1 + 1)))
    (m_runs_Runs_Least_l1 p0 fu_1 y4_1 y5_1 (IntKind.i64.wrap (y14_1 + 1)))))
    (m_runs_Runs_Least_l1 p0 fu_1 y4_1 y5_1 (IntKind.i64.wrap (y14_1 + 1))))
    (some (y4_1, y5_1))
def m_runs_Runs_Least (p0 : GRuns) : Option (Int × Bool) :=
  m_runs_Runs_Least_l1 p0 1152921504606846976 0 false 0

def m_runs_Runs_Break (p0 : GRuns) (p1 : Int) (p2 : Int) : Option GRuns :=
  Option.bind (m_runs_Runs_filter__runs_all p0) fun r9_0 =>
  cond (decide ((0 : Int) ≤ p1))
  (cond (decide (p1 < ((List.length r9_0.L : Nat) : Int)))
  (Option.bind (geti r9_0.L p1) fun x22_2 =>
  Option.bind (geti r9_0.L p1) fun x27_2 =>
  some (GRuns.mk r9_0.Cap (List.set r9_0.L (Int.toNat p1) (GRun.mk x27_2.Place x27_2.Bound (IntKind.u32.wrap (((BitVec.ofInt 32 x22_2.Broken ||| BitVec.ofInt 32 p2).toNat : Int)))))))
  (some r9_0))
  (some r9_0)

def m_runs_Runs_Keep_1 (p0 : Int) (p1 : (List Bool)) : Option Bool :=
  cond (decide (p0 < ((List.length p1 : Nat) : Int)))
  (Option.bind (geti p1 p0) fun x11_0 =>
  some x11_0)
  (some false)

def m_runs_Runs_filter__runs_Runs_Keep_1_l1 (p0 : GRuns) (p1c0 : (List Bool)) : Nat → (List GRun) → Int → Option GRuns
  | 0, _, _ => none
  | fu_1 + 1, y5_d_1_1, y14_1 =>
    cond (decide (y14_1 < ((List.length p0.L : Nat) : Int)))
    (Option.bind (geti p0.L y14_1) fun x17_2 =>
    Option.bind (m_runs_Runs_Keep_1 y14_1 p1c0) fun r21_3 =>
    cond r21_3
    (Option.bind (m_runs_clone x17_2) fun r25_4 =>
    Option.bind (app y5_d_1_1 ([r25_4] : List GRun)) fun a27_4 =>
    m_runs_Runs_filter__runs_Runs_Keep_1_l1 p0 p1c0 fu_1 a27_4 (IntKind.i64.wrap (y14_1 + 1)))
    (m_runs_Runs_filter__runs_Runs_Keep_1_l1 p0 p1c0 fu_1 y5_d_1_1 (IntKind.i64.wrap (y14_1 + 1))))
    (some (GRuns.mk p0.Cap y5_d_1_1))
def m_runs_Runs_filter__runs_Runs_Keep_1 (p0 : GRuns) (p1c0 : (List Bool)) : Option GRuns :=
  m_runs_Runs_filter__runs_Runs_Keep_1_l1 p0 p1c0 1152921504606846976 ([] : List GRun) 0

def m_runs_Runs_Keep (p0 : GRuns) (p1 : (List Bool)) : Option GRuns :=
  Option.bind (m_runs_Runs_filter__runs_Runs_Keep_1 p0 p1) fun r7_0 =>
  some r7_0

def m_runs_Same_1 (p0 : GRun) (p1 : GRun) : Option Bool :=
  Option.bind (m_runs_Run_twin p0 p1) fun r7_0 =>
  cond r7_0
  (some (decide (p0.Broken = p1.Broken)))
  (some false)

def m_slices_EqualFunc_Runruns_Run_runs_Run_runs_Run__runs_Same_1_l2 (p0 : (List GRun)) (p1 : (List GRun)) : Nat → Int → Option Bool
  | 0, _ => none
  | fu_2 + 1, y17_2 =>
    cond (decide (y17_2 < ((List.length p0 : Nat) : Int)))
    (Option.bind (geti p0 y17_2) fun x20_3 =>
    Option.bind (geti p1 y17_2) fun x24_4 =>
    Option.bind (m_runs_Same_1 x20_3 x24_4) fun r29_5 =>
    cond (!r29_5)
    (some false)
    (m_slices_EqualFunc_Runruns_Run_runs_Run_runs_Run__runs_Same_1_l2 p0 p1 fu_2 (IntKind.i64.wrap (y17_2 + 1))))
    (some true)
def m_slices_EqualFunc_Runruns_Run_runs_Run_runs_Run__runs_Same_1 (p0 : (List GRun)) (p1 : (List GRun)) : Option Bool :=
  cond (decide (((List.length p0 : Nat) : Int) ≠ ((List.length p1 : Nat) : Int)))
  (some false)
  (m_slices_EqualFunc_Runruns_Run_runs_Run_runs_Run__runs_Same_1_l2 p0 p1 1152921504606846976 0)

def m_runs_Same (p0 : GRuns) (p1 : GRuns) : Option Bool :=
  cond (decide (p0.Cap = p1.Cap))
  (Option.bind (m_slices_EqualFunc_Runruns_Run_runs_Run_runs_Run__runs_Same_1 p0.L p1.L) fun r15_0 =>
  some r15_0)
  (some false)

def m_telltalelaw21_awake : Option Bool :=
  Option.bind (m_runs_New 2) fun r18_0 =>
  Option.bind (m_runs_New 0) fun r22_1 =>
  Option.bind (m_telltalelaw21_at 4) fun r27_2 =>
  Option.bind (m_runs_Runs_Add r18_0.1 (GRun.mk 1 r27_2 0)) fun r29_2 =>
  Option.bind (m_telltalelaw21_at 5) fun r34_3 =>
  Option.bind (m_runs_Runs_Add r29_2.1 (GRun.mk 1 r34_3 0)) fun r36_3 =>
  Option.bind (m_telltalelaw21_at 5) fun r41_4 =>
  Option.bind (m_runs_Runs_Add r36_3.1 (GRun.mk 2 r41_4 0)) fun r43_4 =>
  Option.bind (m_telltalelaw21_at 5) fun r48_5 =>
  Option.bind (m_runs_Runs_Add r36_3.1 (GRun.mk 1 r48_5 3)) fun r50_5 =>
  Option.bind (m_runs_Runs_Prune r36_3.1 10 5) fun r54_6 =>
  Option.bind (m_runs_Runs_Least r36_3.1) fun r57_7 =>
  Option.bind (m_runs_Runs_Break r36_3.1 1 6) fun r61_8 =>
  cond (decide (r18_0.2 = 0))
  (cond (decide (r22_1.2 = 2))
  (cond (decide (r29_2.2 = 0))
  (cond (decide (r36_3.2 = 0))
  (cond (decide (r43_4.2 = 7))
  (cond (decide (r50_5.2 = 0))
  (cond (decide (((List.length r36_3.1.L : Nat) : Int) = 2))
  (cond (decide (((List.length r43_4.1.L : Nat) : Int) = 2))
  (cond (decide (((List.length r50_5.1.L : Nat) : Int) = 2))
  (cond (decide (((List.length r54_6.L : Nat) : Int) = 1))
  (cond (decide (r57_7.1 = 4))
  (cond r57_7.2
  (Option.bind (m_runs_Runs_Keep r36_3.1 ([true] : List Bool)) fun r118_9 =>
  cond (decide (((List.length r118_9.L : Nat) : Int) = 1))
  (cond (decide (((List.length r61_8.L : Nat) : Int) = 2))
  (Option.bind (geti r61_8.L 1) fun x132_9 =>
  cond (decide (x132_9.Broken = 6))
  (Option.bind (m_runs_Same r36_3.1 r43_4.1) fun r140_9 =>
  cond r140_9
  (Option.bind (m_runs_Same r29_2.1 r36_3.1) fun r145_9 =>
  cond (!r145_9)
  (some true)
  (some false))
  (some false))
  (some false))
  (some false))
  (some false))
  (some false))
  (some false))
  (some false))
  (some false))
  (some false))
  (some false))
  (some false))
  (some false))
  (some false))
  (some false))
  (some false))
  (some false)

def m_telltalelaw06_Vals_l0 (p0 : (List GValue)) : Nat → (List GValue) → Int → Option (List GValue)
  | 0, _, _ => none
  | fu_0 + 1, y3_0, y4_0 =>
    cond (decide (y4_0 < ((List.length p0 : Nat) : Int)))
    (Option.bind (geti p0 y4_0) fun x14_2 =>
    Option.bind (app y3_0 ([x14_2] : List GValue)) fun a17_2 =>
    m_telltalelaw06_Vals_l0 p0 fu_0 a17_2 (IntKind.i64.wrap (y4_0 + 1)))
    (some y3_0)
def m_telltalelaw06_Vals (p0 : (List GValue)) : Option (List GValue) :=
  m_telltalelaw06_Vals_l0 p0 1152921504606846976 ([] : List GValue) 0

def m_telltalelaw07_Own (p0 : GEvent) : Option GEvent :=
  Option.bind (m_telltalelaw06_Vals p0.Vals) fun r13_0 =>
  some (GEvent.mk p0.Time p0.Source p0.Seq p0.Type_ r13_0)

def m_telltalelaw19_Pairs_l0 (p0 : (List GPair)) : Nat → (List GPair) → Int → Option (List GPair)
  | 0, _, _ => none
  | fu_0 + 1, y3_0, y4_0 =>
    cond (decide (y4_0 < ((List.length p0 : Nat) : Int)))
    (Option.bind (geti p0 y4_0) fun x14_2 =>
    Option.bind (geti p0 y4_0) fun x19_2 =>
    Option.bind (m_telltalelaw07_Own x19_2.E) fun r22_2 =>
    Option.bind (app y3_0 ([(GPair.mk x14_2.Var r22_2)] : List GPair)) fun a25_2 =>
    m_telltalelaw19_Pairs_l0 p0 fu_0 a25_2 (IntKind.i64.wrap (y4_0 + 1)))
    (some y3_0)
def m_telltalelaw19_Pairs (p0 : (List GPair)) : Option (List GPair) :=
  m_telltalelaw19_Pairs_l0 p0 1152921504606846976 ([] : List GPair) 0

def m_telltalelaw21_Own (p0 : GRun) : Option GRun :=
  Option.bind (m_telltalelaw19_Pairs p0.Bound) fun r7_0 =>
  some (GRun.mk p0.Place r7_0 p0.Broken)

def m_telltalelaw21_All_l0 (p0 : GRuns) : Nat → (List GRun) → Int → Option GRuns
  | 0, _, _ => none
  | fu_0 + 1, y3_d_1_0, y4_0 =>
    cond (decide (y4_0 < ((List.length p0.L : Nat) : Int)))
    (Option.bind (geti p0.L y4_0) fun x20_2 =>
    Option.bind (m_telltalelaw21_Own x20_2) fun r22_2 =>
    Option.bind (app y3_d_1_0 ([r22_2] : List GRun)) fun a24_2 =>
    m_telltalelaw21_All_l0 p0 fu_0 a24_2 (IntKind.i64.wrap (y4_0 + 1)))
    (some (GRuns.mk p0.Cap y3_d_1_0))
def m_telltalelaw21_All (p0 : GRuns) : Option GRuns :=
  m_telltalelaw21_All_l0 p0 1152921504606846976 ([] : List GRun) 0

def m_telltaleref07_Less (p0 : GEvent) (p1 : GEvent) : Option Bool :=
  cond (decide (p0.Time ≠ p1.Time))
  (some (decide (p0.Time < p1.Time)))
  (cond (decide (p0.Source ≠ p1.Source))
  (some (decide (p0.Source < p1.Source)))
  (some (decide (p0.Seq < p1.Seq))))

def m_telltaleref19_ahead (p0 : GPair) (p1 : GPair) : Option Bool :=
  Option.bind (m_telltaleref07_Less p0.E p1.E) fun r9_0 =>
  cond r9_0
  (Option.bind (m_telltaleref07_Less p0.E p1.E) fun r21_1 =>
  some r21_1)
  (Option.bind (m_telltaleref07_Less p1.E p0.E) fun r15_0 =>
  cond r15_0
  (Option.bind (m_telltaleref07_Less p0.E p1.E) fun r21_2 =>
  some r21_2)
  (some (ltS p0.Var p1.Var)))

def m_telltaleref19_Rank_j4 (p0 : (List GPair)) (p1 : (List GPair)) : Option Int :=
  cond (decide (((List.length p0 : Nat) : Int) < ((List.length p1 : Nat) : Int)))
  (some (-1))
  (some (min 1 (IntKind.i64.wrap (((List.length p0 : Nat) : Int) - ((List.length p1 : Nat) : Int)))))
def m_telltaleref19_Rank_l0 (p0 : (List GPair)) (p1 : (List GPair)) : Nat → Int → Option Int
  | 0, _ => none
  | fu_0 + 1, y5_0 =>
    cond (decide (y5_0 < ((List.length p0 : Nat) : Int)))
    (cond (decide (y5_0 < ((List.length p1 : Nat) : Int)))
    (Option.bind (geti p0 y5_0) fun x20_2 =>
    Option.bind (geti p1 y5_0) fun x24_2 =>
    Option.bind (m_telltaleref19_ahead x20_2 x24_2) fun r26_2 =>
    cond r26_2
    (some (-1))
    (Option.bind (geti p1 y5_0) fun x29_3 =>
    Option.bind (geti p0 y5_0) fun x33_3 =>
    Option.bind (m_telltaleref19_ahead x29_3 x33_3) fun r35_3 =>
    cond r35_3
    (some 1)
    (m_telltaleref19_Rank_l0 p0 p1 fu_0 (IntKind.i64.wrap (y5_0 + 1)))))
    (m_telltaleref19_Rank_j4 p0 p1))
    (m_telltaleref19_Rank_j4 p0 p1)
def m_telltaleref19_Rank (p0 : (List GPair)) (p1 : (List GPair)) : Option Int :=
  m_telltaleref19_Rank_l0 p0 p1 1152921504606846976 0

def m_telltaleref21_Twin_l0 (p0 : (List GRun)) (p1 : GRun) : Nat → Int → Option Bool
  | 0, _ => none
  | fu_0 + 1, y5_0 =>
    cond (decide (y5_0 < ((List.length p0 : Nat) : Int)))
    (Option.bind (geti p0 y5_0) fun x14_2 =>
    cond (decide (x14_2.Place = p1.Place))
    (Option.bind (geti p0 y5_0) fun x23_2 =>
    Option.bind (m_telltaleref19_Rank x23_2.Bound p1.Bound) fun r28_2 =>
    cond (decide (r28_2 = 0))
    (some true)
    (m_telltaleref21_Twin_l0 p0 p1 fu_0 (IntKind.i64.wrap (y5_0 + 1))))
    (m_telltaleref21_Twin_l0 p0 p1 fu_0 (IntKind.i64.wrap (y5_0 + 1))))
    (some false)
def m_telltaleref21_Twin (p0 : (List GRun)) (p1 : GRun) : Option Bool :=
  m_telltaleref21_Twin_l0 p0 p1 1152921504606846976 0

def m_telltaleref21_Add (p0 : GRuns) (p1 : GRun) : Option (GRuns × Int) :=
  Option.bind (m_telltaleref21_Twin p0.L p1) fun r9_0 =>
  cond r9_0
  (some (p0, 0))
  (cond (decide (p0.Cap ≤ ((List.length p0.L : Nat) : Int)))
  (some (p0, 7))
  (Option.bind (app ([] : List GRun) p0.L) fun a23_2 =>
  Option.bind (app a23_2 ([p1] : List GRun)) fun a26_2 =>
  some ((GRuns.mk p0.Cap a26_2), 0)))

def m_telltaleref21_New (p0 : Int) : Option (GRuns × Int) :=
  cond (decide (p0 < 1))
  (some ((GRuns.mk 0 ([] : List GRun)), 2))
  (cond (decide ((4096 : Int) < p0))
  (some ((GRuns.mk 0 ([] : List GRun)), 2))
  (some ((GRuns.mk p0 ([] : List GRun)), 0)))

def m_telltalelaw07_Back_l0 (p0 : GEvent) : Nat → (List GValue) → Int → Option GEvent
  | 0, _, _ => none
  | fu_0 + 1, y3_d_4_0, y4_0 =>
    cond (decide (y4_0 < ((List.length p0.Vals : Nat) : Int)))
    (Option.bind (geti p0.Vals y4_0) fun x26_2 =>
    Option.bind (app y3_d_4_0 ([x26_2] : List GValue)) fun a29_2 =>
    m_telltalelaw07_Back_l0 p0 fu_0 a29_2 (IntKind.i64.wrap (y4_0 + 1)))
    (some (GEvent.mk p0.Time p0.Source p0.Seq p0.Type_ y3_d_4_0))
def m_telltalelaw07_Back (p0 : GEvent) : Option GEvent :=
  m_telltalelaw07_Back_l0 p0 1152921504606846976 ([] : List GValue) 0

def m_telltalelaw19_BackPairs_l0 (p0 : (List GPair)) : Nat → (List GPair) → Int → Option (List GPair)
  | 0, _, _ => none
  | fu_0 + 1, y3_0, y4_0 =>
    cond (decide (y4_0 < ((List.length p0 : Nat) : Int)))
    (Option.bind (geti p0 y4_0) fun x14_2 =>
    Option.bind (geti p0 y4_0) fun x19_2 =>
    Option.bind (m_telltalelaw07_Back x19_2.E) fun r22_2 =>
    Option.bind (app y3_0 ([(GPair.mk x14_2.Var r22_2)] : List GPair)) fun a25_2 =>
    m_telltalelaw19_BackPairs_l0 p0 fu_0 a25_2 (IntKind.i64.wrap (y4_0 + 1)))
    (some y3_0)
def m_telltalelaw19_BackPairs (p0 : (List GPair)) : Option (List GPair) :=
  m_telltalelaw19_BackPairs_l0 p0 1152921504606846976 ([] : List GPair) 0

def m_telltalelaw21_Back_l0 (p0 : GRuns) : Nat → (List GRun) → Int → Option GRuns
  | 0, _, _ => none
  | fu_0 + 1, y3_d_1_0, y4_0 =>
    cond (decide (y4_0 < ((List.length p0.L : Nat) : Int)))
    (Option.bind (geti p0.L y4_0) fun x19_2 =>
    Option.bind (m_telltalelaw19_BackPairs x19_2.Bound) fun r27_3 =>
    Option.bind (app y3_d_1_0 ([(GRun.mk x19_2.Place r27_3 x19_2.Broken)] : List GRun)) fun a32_3 =>
    m_telltalelaw21_Back_l0 p0 fu_0 a32_3 (IntKind.i64.wrap (y4_0 + 1)))
    (some (GRuns.mk p0.Cap y3_d_1_0))
def m_telltalelaw21_Back (p0 : GRuns) : Option GRuns :=
  m_telltalelaw21_Back_l0 p0 1152921504606846976 ([] : List GRun) 0

def m_telltaleref21_Same_j5 : Option Bool :=
  some false
def m_telltaleref21_Same_l1 (p0 : GRuns) (p1 : GRuns) : Nat → Int → Option Bool
  | 0, _ => none
  | fu_1 + 1, y5_1 =>
    cond (decide (y5_1 < ((List.length p0.L : Nat) : Int)))
    (Option.bind (geti p0.L y5_1) fun x32_3 =>
    Option.bind (geti p1.L y5_1) fun x37_3 =>
    cond (decide (x32_3.Place ≠ x37_3.Place))
    (m_telltaleref21_Same_j5 )
    (cond (decide (x32_3.Broken ≠ x37_3.Broken))
    (m_telltaleref21_Same_j5 )
    (Option.bind (m_telltaleref19_Rank x32_3.Bound x37_3.Bound) fun r56_4 =>
    cond (decide (r56_4 ≠ 0))
    (some false)
    (m_telltaleref21_Same_l1 p0 p1 fu_1 (IntKind.i64.wrap (y5_1 + 1))))))
    (some true)
def m_telltaleref21_Same (p0 : GRuns) (p1 : GRuns) : Option Bool :=
  cond (decide (p0.Cap ≠ p1.Cap))
  (some false)
  (cond (decide (((List.length p0.L : Nat) : Int) ≠ ((List.length p1.L : Nat) : Int)))
  (some false)
  (m_telltaleref21_Same_l1 p0 p1 1152921504606846976 0))

def m_telltaleref21_Keep_l0 (p0 : GRuns) (p1 : (List Bool)) : Nat → (List GRun) → Int → Option GRuns
  | 0, _, _ => none
  | fu_0 + 1, y5_d_1_0, y6_0 =>
    cond (decide (y6_0 < ((List.length p0.L : Nat) : Int)))
    (cond (decide (y6_0 < ((List.length p1 : Nat) : Int)))
    (Option.bind (geti p1 y6_0) fun x25_2 =>
    cond x25_2
    (Option.bind (geti p0.L y6_0) fun x32_3 =>
    Option.bind (app y5_d_1_0 ([x32_3] : List GRun)) fun a35_3 =>
    m_telltaleref21_Keep_l0 p0 p1 fu_0 a35_3 (IntKind.i64.wrap (y6_0 + 1)))
    (m_telltaleref21_Keep_l0 p0 p1 fu_0 y5_d_1_0 (IntKind.i64.wrap (y6_0 + 1))))
    (some (GRuns.mk p0.Cap y5_d_1_0)))
    (some (GRuns.mk p0.Cap y5_d_1_0))
def m_telltaleref21_Keep (p0 : GRuns) (p1 : (List Bool)) : Option GRuns :=
  m_telltaleref21_Keep_l0 p0 p1 1152921504606846976 ([] : List GRun) 0

def m_telltaleref18_Bit_l0 (p0 : Int) : Nat → Int → Int → Option Int
  | 0, _, _ => none
  | fu_0 + 1, y3_0, y4_0 =>
    cond (decide (y4_0 < p0))
    (m_telltaleref18_Bit_l0 p0 fu_0 (IntKind.u32.wrap (2 * y3_0)) (IntKind.i64.wrap (y4_0 + 1)))
    (some y3_0)
def m_telltaleref18_Bit (p0 : Int) : Option Int :=
  m_telltaleref18_Bit_l0 p0 1152921504606846976 1 0

def m_telltaleref18_Has (p0 : Int) (p1 : Int) : Option Bool :=
  Option.bind (m_telltaleref18_Bit p1) fun r7_0 =>
  chk (r7_0 ≠ 0) (
  some (decide ((Int.tmod (IntKind.u32.wrap (Int.tdiv p0 r7_0)) 2) = 1)))

def m_telltaleref21_Union_l0 (p0 : Int) (p1 : Int) : Nat → Int → Int → Option Int
  | 0, _, _ => none
  | fu_0 + 1, y5_0, y6_0 =>
    cond (decide (y6_0 < 32))
    (Option.bind (m_telltaleref18_Has p0 y6_0) fun r13_1 =>
    cond r13_1
    (Option.bind (m_telltaleref18_Bit y6_0) fun r21_2 =>
    m_telltaleref21_Union_l0 p0 p1 fu_0 (IntKind.u32.wrap (y5_0 + r21_2)) (IntKind.i64.wrap (y6_0 + 1)))
    (Option.bind (m_telltaleref18_Has p1 y6_0) fun r17_1 =>
    cond r17_1
    (Option.bind (m_telltaleref18_Bit y6_0) fun r21_3 =>
    m_telltaleref21_Union_l0 p0 p1 fu_0 (IntKind.u32.wrap (y5_0 + r21_3)) (IntKind.i64.wrap (y6_0 + 1)))
    (m_telltaleref21_Union_l0 p0 p1 fu_0 y5_0 (IntKind.i64.wrap (y6_0 + 1)))))
    (some y5_0)
def m_telltaleref21_Union (p0 : Int) (p1 : Int) : Option Int :=
  m_telltaleref21_Union_l0 p0 p1 1152921504606846976 0 0

def m_telltaleref21_Break_j4 (y7_d_1_0 : List GRun) (y8_0 : Int) (k_m_telltaleref21_Break_l0 : (List GRun) → Int → Option GRuns) (y9_d_4 : GRun) : Option GRuns :=
  Option.bind (app y7_d_1_0 ([y9_d_4] : List GRun)) fun a37_4 =>
  k_m_telltaleref21_Break_l0 a37_4 (IntKind.i64.wrap (y8_0 + 1))
def m_telltaleref21_Break_l0 (p0 : GRuns) (p1 : Int) (p2 : Int) : Nat → (List GRun) → Int → Option GRuns
  | 0, _, _ => none
  | fu_0 + 1, y7_d_1_0, y8_0 =>
    cond (decide (y8_0 < ((List.length p0.L : Nat) : Int)))
    (Option.bind (geti p0.L y8_0) fun x23_2 =>
    cond (decide (y8_0 = p1))
    (Option.bind (m_telltaleref21_Union x23_2.Broken p2) fun r31_3 =>
    m_telltaleref21_Break_j4 y7_d_1_0 y8_0 (fun y7_d_1_0 y8_0 => m_telltaleref21_Break_l0 p0 p1 p2 fu_0 y7_d_1_0 y8_0) (GRun.mk x23_2.Place x23_2.Bound r31_3))
    (m_telltaleref21_Break_j4 y7_d_1_0 y8_0 (fun y7_d_1_0 y8_0 => m_telltaleref21_Break_l0 p0 p1 p2 fu_0 y7_d_1_0 y8_0) x23_2))
    (some (GRuns.mk p0.Cap y7_d_1_0))
def m_telltaleref21_Break (p0 : GRuns) (p1 : Int) (p2 : Int) : Option GRuns :=
  m_telltaleref21_Break_l0 p0 p1 p2 1152921504606846976 ([] : List GRun) 0

def m_telltaleref21_Least_l0 (p0 : GRuns) : Nat → Int → Bool → Int → Option (Int × Bool)
  | 0, _, _, _ => none
  | fu_0 + 1, y4_0, y5_0, y6_0 =>
    cond (decide (y6_0 < ((List.length p0.L : Nat) : Int)))
    (Option.bind (geti p0.L y6_0) fun x17_2 =>
    cond (decide ((0 : Int) < ((List.length x17_2.Bound : Nat) : Int)))
    (cond (!y5_0)
    (Option.bind (geti p0.L y6_0) fun x43_3 =>
    Option.bind (geti x43_3.Bound 0) fun x46_3 =>
    m_telltaleref21_Least_l0 p0 fu_0 x46_3.E.Time true (IntKind.i64.wrap (y6_0 + 1)))
    (Option.bind (geti p0.L y6_0) fun x29_2 =>
    Option.bind (geti x29_2.Bound 0) fun x32_2 =>
    cond (decide (x32_2.E.Time < y4_0))
    (Option.bind (geti p0.L y6_0) fun x43_4 =>
    Option.bind (geti x43_4.Bound 0) fun x46_4 =>
    m_telltaleref21_Least_l0 p0 fu_0 x46_4.E.Time true (IntKind.i64.wrap (y6_0 + 1)))
    (m_telltaleref21_Least_l0 p0 fu_0 y4_0 y5_0 (IntKind.i64.wrap (y6_0 + 1)))))
    (m_telltaleref21_Least_l0 p0 fu_0 y4_0 y5_0 (IntKind.i64.wrap (y6_0 + 1))))
    (some (y4_0, y5_0))
def m_telltaleref21_Least (p0 : GRuns) : Option (Int × Bool) :=
  m_telltaleref21_Least_l0 p0 1152921504606846976 0 false 0

def m_telltalelaw21_RunsDo_j1 : Option Bool :=
  Option.bind m_telltalelaw21_awake fun r42_2 =>
  some r42_2
def m_telltalelaw21_RunsDo_j10 : Option Bool :=
  some false
def m_telltalelaw21_RunsDo (p0 : GArr2_GRuns) (p1 : GRun) (p2 : (List Bool)) : Option Bool :=
  Option.bind (m_telltalelaw21_Over p0.a0) fun r22_0 =>
  cond (decide ((0 : Int) < r22_0))
  (m_telltalelaw21_RunsDo_j1 )
  (Option.bind (m_telltalelaw21_Over p0.a1) fun r27_0 =>
  cond (decide ((0 : Int) < r27_0))
  (m_telltalelaw21_RunsDo_j1 )
  (Option.bind (m_telltalelaw21_Over (GRuns.mk 0 ([p1] : List GRun))) fun r34_0 =>
  cond (decide ((0 : Int) < r34_0))
  (m_telltalelaw21_RunsDo_j1 )
  (cond (decide ((40 : Int) < ((List.length p2 : Nat) : Int)))
  (Option.bind m_telltalelaw21_awake fun r42_3 =>
  some r42_3)
  (Option.bind (m_telltalelaw21_All p0.a0) fun r45_4 =>
  Option.bind (m_telltalelaw21_Own p1) fun r49_5 =>
  Option.bind (m_runs_Runs_Add r45_4 r49_5) fun r50_5 =>
  Option.bind (m_telltaleref21_Add p0.a0 p1) fun r57_6 =>
  Option.bind (m_runs_New p0.a0.Cap) fun r64_7 =>
  Option.bind (m_telltaleref21_New p0.a0.Cap) fun r71_8 =>
  Option.bind (m_telltalelaw21_Back r50_5.1) fun r75_9 =>
  Option.bind (m_telltaleref21_Same r75_9 r57_6.1) fun r77_9 =>
  cond (!r77_9)
  (m_telltalelaw21_RunsDo_j10 )
  (cond (decide (r50_5.2 ≠ r57_6.2))
  (m_telltalelaw21_RunsDo_j10 )
  (cond (decide (r64_7.2 ≠ r71_8.2))
  (m_telltalelaw21_RunsDo_j10 )
  (Option.bind (m_runs_Runs_Keep r45_4 p2) fun r92_9 =>
  Option.bind (m_telltalelaw21_Back r92_9) fun r93_9 =>
  Option.bind (m_telltaleref21_Keep p0.a0 p2) fun r97_9 =>
  Option.bind (m_telltaleref21_Same r93_9 r97_9) fun r98_9 =>
  cond (!r98_9)
  (m_telltalelaw21_RunsDo_j10 )
  (Option.bind (m_runs_Runs_Break r45_4 p1.Place p1.Broken) fun r107_9 =>
  Option.bind (m_telltalelaw21_Back r107_9) fun r108_9 =>
  Option.bind (m_telltaleref21_Break p0.a0 p1.Place p1.Broken) fun r115_9 =>
  Option.bind (m_telltaleref21_Same r108_9 r115_9) fun r116_9 =>
  cond (!r116_9)
  (some false)
  (Option.bind (m_runs_Runs_Least r45_4) fun r121_11 =>
  Option.bind (m_telltaleref21_Least p0.a0) fun r127_12 =>
  cond (decide (r121_11.1 = r127_12.1))
  (cond (decide (r121_11.2 = r127_12.2))
  (Option.bind (m_telltalelaw21_Back r45_4) fun r140_13 =>
  Option.bind (m_telltaleref21_Same r140_13 p0.a0) fun r143_13 =>
  cond r143_13
  (Option.bind (m_telltalelaw21_All p0.a1) fun r149_13 =>
  Option.bind (m_runs_Same r45_4 r149_13) fun r150_13 =>
  Option.bind (m_telltaleref21_Same p0.a0 p0.a1) fun r155_13 =>
  cond (decide (r150_13 = r155_13))
  (Option.bind m_telltalelaw21_awake fun r159_13 =>
  some r159_13)
  (some false))
  (some false))
  (some false))
  (some false))))))))))

def m_telltaleref21_Held (p0 : Int) : Option Int :=
  some (max 0 (min 1099511627776 p0))

def m_telltaleref21_Early (p0 : (List GPair)) (p1 : Int) (p2 : Int) : Option Bool :=
  cond (decide ((0 : Int) < ((List.length p0 : Nat) : Int)))
  (Option.bind (m_telltaleref21_Held p1) fun r12_0 =>
  Option.bind (geti p0 0) fun x14_0 =>
  Option.bind (m_telltaleref21_Held x14_0.E.Time) fun r18_0 =>
  Option.bind (m_telltaleref21_Held p2) fun r21_0 =>
  some (decide (r21_0 < (IntKind.i64.wrap (r12_0 - r18_0)))))
  (some false)

def m_telltaleref21_Prune_l0 (p0 : GRuns) (p1 : Int) (p2 : Int) : Nat → (List GRun) → Int → Option GRuns
  | 0, _, _ => none
  | fu_0 + 1, y7_d_1_0, y8_0 =>
    cond (decide (y8_0 < ((List.length p0.L : Nat) : Int)))
    (Option.bind (geti p0.L y8_0) fun x22_2 =>
    Option.bind (m_telltaleref21_Early x22_2.Bound p1 p2) fun r27_2 =>
    cond (!r27_2)
    (Option.bind (geti p0.L y8_0) fun x34_3 =>
    Option.bind (app y7_d_1_0 ([x34_3] : List GRun)) fun a37_3 =>
    m_telltaleref21_Prune_l0 p0 p1 p2 fu_0 a37_3 (IntKind.i64.wrap (y8_0 + 1)))
    (m_telltaleref21_Prune_l0 p0 p1 p2 fu_0 y7_d_1_0 (IntKind.i64.wrap (y8_0 + 1))))
    (some (GRuns.mk p0.Cap y7_d_1_0))
def m_telltaleref21_Prune (p0 : GRuns) (p1 : Int) (p2 : Int) : Option GRuns :=
  m_telltaleref21_Prune_l0 p0 p1 p2 1152921504606846976 ([] : List GRun) 0

def m_telltalelaw21_RunsPrunes (p0 : GRuns) (p1 : Int) (p2 : Int) : Option Bool :=
  Option.bind (m_telltalelaw21_Over p0) fun r8_0 =>
  cond (decide ((0 : Int) < r8_0))
  (Option.bind m_telltalelaw21_awake fun r10_1 =>
  some r10_1)
  (Option.bind (m_telltalelaw21_All p0) fun r12_2 =>
  Option.bind (m_runs_Runs_Prune r12_2 p1 p2) fun r15_2 =>
  Option.bind (m_telltalelaw21_Back r15_2) fun r16_2 =>
  Option.bind (m_telltaleref21_Prune p0 p1 p2) fun r20_2 =>
  Option.bind (m_telltaleref21_Same r16_2 r20_2) fun r21_2 =>
  cond r21_2
  (Option.bind m_telltalelaw21_awake fun r23_2 =>
  some r23_2)
  (some false))

def m_telltalelaw21_RunsFew_j1 : Option Bool :=
  Option.bind m_telltalelaw21_awake fun r60_2 =>
  some r60_2
def m_telltalelaw21_RunsFew_j9 : Option Bool :=
  some false
def m_telltalelaw21_RunsFew_j10 (p0 : Int) (r81_7 : (GRuns × Int)) (y9_5 : Int) (k_m_telltalelaw21_RunsFew_l5 : Int → (List GRun) → Int → Option Bool) : Option Bool :=
  cond (decide (p0 < ((List.length r81_7.1.L : Nat) : Int)))
  (some false)
  (k_m_telltalelaw21_RunsFew_l5 r81_7.1.Cap r81_7.1.L (IntKind.i64.wrap (y9_5 + 1)))
def m_telltalelaw21_RunsFew_l13 (y12_11 : Int) (y7_d_1_5 : List GRun) (k_m_telltalelaw21_RunsFew_l11 : Int → Option Bool) : Nat → Int → Option Bool
  | 0, _ => none
  | fu_13 + 1, y13_13 =>
    cond (decide (y13_13 < y12_11))
    (Option.bind (geti y7_d_1_5 y12_11) fun x126_14 =>
    Option.bind (geti y7_d_1_5 y13_13) fun x132_14 =>
    cond (decide (x126_14.Place = x132_14.Place))
    (Option.bind (geti y7_d_1_5 y12_11) fun x140_14 =>
    Option.bind (geti y7_d_1_5 y13_13) fun x146_14 =>
    Option.bind (m_bind_Rank x140_14.Bound x146_14.Bound) fun r149_14 =>
    cond (decide (r149_14 = 0))
    (some false)
    (m_telltalelaw21_RunsFew_l13 y12_11 y7_d_1_5 k_m_telltalelaw21_RunsFew_l11 fu_13 (IntKind.i64.wrap (y13_13 + 1))))
    (m_telltalelaw21_RunsFew_l13 y12_11 y7_d_1_5 k_m_telltalelaw21_RunsFew_l11 fu_13 (IntKind.i64.wrap (y13_13 + 1))))
    (k_m_telltalelaw21_RunsFew_l11 (IntKind.i64.wrap (y12_11 + 1)))
def m_telltalelaw21_RunsFew_l21 (p0 : Int) (p1 : (List GRun)) (r163_15 : GRuns) : Nat → Int → Option Bool
  | 0, _ => none
  | fu_21 + 1, y18_21 =>
    cond (decide (y18_21 < ((List.length p1 : Nat) : Int)))
    (Option.bind (geti p1 y18_21) fun x211_23 =>
    Option.bind (m_telltalelaw21_Own x211_23) fun r213_23 =>
    Option.bind (m_runs_Runs_Add r163_15 r213_23) fun r214_23 =>
    cond (decide (((List.length r163_15.L : Nat) : Int) < p0))
    (cond (decide (r214_23.2 ≠ 0))
    (some false)
    (m_telltalelaw21_RunsFew_l21 p0 p1 r163_15 fu_21 (IntKind.i64.wrap (y18_21 + 1))))
    (m_telltalelaw21_RunsFew_l21 p0 p1 r163_15 fu_21 (IntKind.i64.wrap (y18_21 + 1))))
    (Option.bind m_telltalelaw21_awake fun r226_25 =>
    some r226_25)
def m_telltalelaw21_RunsFew_j20 (p0 : Int) (p1 : (List GRun)) (r163_15 : GRuns) : Option Bool :=
  m_telltalelaw21_RunsFew_l21 p0 p1 r163_15 1152921504606846976 0
def m_telltalelaw21_RunsFew_j19 (p0 : Int) (p1 : (List GRun)) (r163_15 : GRuns) : Option Bool :=
  m_telltalelaw21_RunsFew_j20 p0 p1 r163_15
def m_telltalelaw21_RunsFew_l11 (p0 : Int) (p1 : (List GRun)) (p2 : GArr3_Int) (y7_d_0_5 : Int) (y7_d_1_5 : List GRun) : Nat → Int → Option Bool
  | 0, _ => none
  | fu_11 + 1, y12_11 =>
    cond (decide (y12_11 < ((List.length y7_d_1_5 : Nat) : Int)))
    (m_telltalelaw21_RunsFew_l13 y12_11 y7_d_1_5 (fun y12_11 => m_telltalelaw21_RunsFew_l11 p0 p1 p2 y7_d_0_5 y7_d_1_5 fu_11 y12_11) 1152921504606846976 0)
    (Option.bind (m_runs_Runs_Prune (GRuns.mk y7_d_0_5 y7_d_1_5) p2.a0 p2.a2) fun r157_15 =>
    Option.bind (m_runs_Runs_Prune (GRuns.mk y7_d_0_5 y7_d_1_5) p2.a1 p2.a2) fun r163_15 =>
    Option.bind (m_runs_Runs_Prune r157_15 p2.a1 p2.a2) fun r169_16 =>
    Option.bind (m_runs_Same r169_16 r163_15) fun r171_16 =>
    cond (!r171_16)
    (some false)
    (cond (decide (((List.length r157_15.L : Nat) : Int) < ((List.length r163_15.L : Nat) : Int)))
    (some false)
    (Option.bind (m_runs_Runs_Least r163_15) fun r184_17 =>
    cond r184_17.2
    (cond (decide ((0 : Int) ≤ r184_17.1))
    (cond (decide (r184_17.1 < (IntKind.i64.wrap (p2.a1 - p2.a2))))
    (some false)
    (m_telltalelaw21_RunsFew_j20 p0 p1 r163_15))
    (m_telltalelaw21_RunsFew_j19 p0 p1 r163_15))
    (m_telltalelaw21_RunsFew_j19 p0 p1 r163_15))))
def m_telltalelaw21_RunsFew_l5 (p0 : Int) (p1 : (List GRun)) (p2 : GArr3_Int) : Nat → Int → (List GRun) → Int → Option Bool
  | 0, _, _, _ => none
  | fu_5 + 1, y7_d_0_5, y7_d_1_5, y9_5 =>
    cond (decide (y9_5 < ((List.length p1 : Nat) : Int)))
    (Option.bind (geti p1 y9_5) fun x78_7 =>
    Option.bind (m_telltalelaw21_Own x78_7) fun r80_7 =>
    Option.bind (m_runs_Runs_Add (GRuns.mk y7_d_0_5 y7_d_1_5) r80_7) fun r81_7 =>
    cond (decide (r81_7.2 ≠ 0))
    (cond (decide (r81_7.2 ≠ 7))
    (m_telltalelaw21_RunsFew_j9 )
    (cond (decide (((List.length y7_d_1_5 : Nat) : Int) ≠ p0))
    (m_telltalelaw21_RunsFew_j9 )
    (Option.bind (m_runs_Same r81_7.1 (GRuns.mk y7_d_0_5 y7_d_1_5)) fun r99_8 =>
    cond (!r99_8)
    (m_telltalelaw21_RunsFew_j9 )
    (m_telltalelaw21_RunsFew_j10 p0 r81_7 y9_5 (fun y7_d_0_5 y7_d_1_5 y9_5 => m_telltalelaw21_RunsFew_l5 p0 p1 p2 fu_5 y7_d_0_5 y7_d_1_5 y9_5)))))
    (m_telltalelaw21_RunsFew_j10 p0 r81_7 y9_5 (fun y7_d_0_5 y7_d_1_5 y9_5 => m_telltalelaw21_RunsFew_l5 p0 p1 p2 fu_5 y7_d_0_5 y7_d_1_5 y9_5)))
    (m_telltalelaw21_RunsFew_l11 p0 p1 p2 y7_d_0_5 y7_d_1_5 1152921504606846976 0)
def m_telltalelaw21_RunsFew (p0 : Int) (p1 : (List GRun)) (p2 : GArr3_Int) : Option Bool :=
  Option.bind (m_telltalelaw21_Over (GRuns.mk 0 p1)) fun r23_0 =>
  cond (decide ((0 : Int) < r23_0))
  (m_telltalelaw21_RunsFew_j1 )
  (cond (decide (p0 < 1))
  (m_telltalelaw21_RunsFew_j1 )
  (cond (decide ((8 : Int) < p0))
  (m_telltalelaw21_RunsFew_j1 )
  (cond (decide (p2.a0 < 0))
  (m_telltalelaw21_RunsFew_j1 )
  (cond (decide (p2.a1 < p2.a0))
  (m_telltalelaw21_RunsFew_j1 )
  (cond (decide ((1000 : Int) < p2.a1))
  (m_telltalelaw21_RunsFew_j1 )
  (cond (decide (p2.a2 < 0))
  (m_telltalelaw21_RunsFew_j1 )
  (cond (decide ((1000 : Int) < p2.a2))
  (Option.bind m_telltalelaw21_awake fun r60_3 =>
  some r60_3)
  (Option.bind (m_runs_New p0) fun r63_4 =>
  cond (decide (r63_4.2 ≠ 0))
  (some false)
  (m_telltalelaw21_RunsFew_l5 p0 p1 p2 1152921504606846976 r63_4.1.Cap r63_4.1.L 0)))))))))
end Go.Proofs.Ytlbajkdbbffefaa.K
