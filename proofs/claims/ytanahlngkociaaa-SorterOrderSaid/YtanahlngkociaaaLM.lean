/- models of the program's functions -/
import Derived.Test.YtanahlngkociaaaLT
namespace Go.Proofs.Ytanahlngkociaaa.K
open Go.RowKit Go.Lib
set_option linter.unusedVariables false
set_option linter.unusedSimpArgs false

def m_sorter_New (p0 : Int) : Option (GSorter × Int) :=
  cond (decide (p0 < 1))
  (some ((GSorter.mk 0 ([] : List GEvent)), 2))
  (cond (decide ((4096 : Int) < p0))
  (some ((GSorter.mk 0 ([] : List GEvent)), 2))
  (some ((GSorter.mk p0 ([] : List GEvent)), 0)))

def m_event_Event_ID (p0 : GEvent) : Option GID :=
  some (GID.mk p0.Time p0.Source p0.Seq)

def m_sorter_Sorter_Put_1 (p0 : GEvent) (p1 : GEvent) : Option Bool :=
  Option.bind (m_event_Event_ID p0) fun r5_0 =>
  Option.bind (m_event_Event_ID p1) fun r7_0 =>
  Option.bind (some ((decide (r5_0.Time = r7_0.Time) && (decide (r5_0.Source = r7_0.Source) && (decide (r5_0.Seq = r7_0.Seq) && true))))) fun v8_0 =>
  some v8_0

def m_slices_IndexFunc_Event__sorter_Sorter_Put_1_l1 (p0 : (List GEvent)) (p1c0 : GEvent) : Nat → Int → Option Int
  | 0, _ => none
  | fu_1 + 1, y8_1 =>
    cond (decide (y8_1 < ((List.length p0 : Nat) : Int)))
    (Option.bind (geti p0 y8_1) fun x14_2 =>
    Option.bind (m_sorter_Sorter_Put_1 x14_2 p1c0) fun r16_2 =>
    cond r16_2
    (some y8_1)
    (m_slices_IndexFunc_Event__sorter_Sorter_Put_1_l1 p0 p1c0 fu_1 (IntKind.i64.wrap (y8_1 + 1))))
    (some (-1))
def m_slices_IndexFunc_Event__sorter_Sorter_Put_1 (p0 : (List GEvent)) (p1c0 : GEvent) : Option Int :=
  m_slices_IndexFunc_Event__sorter_Sorter_Put_1_l1 p0 p1c0 1152921504606846976 0

def m_slices_ContainsFunc_Event__sorter_Sorter_Put_1 (p0 : (List GEvent)) (p1c0 : GEvent) : Option Bool :=
  Option.bind (m_slices_IndexFunc_Event__sorter_Sorter_Put_1 p0 p1c0) fun r7_0 =>
  some (decide ((0 : Int) ≤ r7_0))

def m_sorter_Sorter_heap (p0 : GSorter) : Option (List GEvent) :=
  some p0.L

def m_slices_Clone_Event (p0 : (List GEvent)) : Option (List GEvent) :=
  Option.bind (app ([] : List GEvent) p0) fun a7_0 =>
  some a7_0

def m_sorter_Heap_event_Event_clone__sorter_ahead (p0_L : (List GEvent)) : Option (List GEvent) :=
  Option.bind (m_slices_Clone_Event p0_L) fun r5_0 =>
  some r5_0

def m_event_ID_Less (p0 : GID) (p1 : GID) : Option Bool :=
  cond (decide (p0.Time ≠ p1.Time))
  (some (decide (p0.Time < p1.Time)))
  (cond (decide (p0.Source ≠ p1.Source))
  (some (decide (p0.Source < p1.Source)))
  (some (decide (p0.Seq < p1.Seq))))

def m_sorter_ahead (p0 : GEvent) (p1 : GEvent) : Option Bool :=
  Option.bind (m_event_Event_ID p0) fun r6_0 =>
  Option.bind (m_event_Event_ID p1) fun r8_0 =>
  Option.bind (m_event_ID_Less r6_0 r8_0) fun r9_0 =>
  some r9_0

def m_sorter_Heap_event_Event_less__sorter_ahead (p0_L : (List GEvent)) (p1 : Int) (p2 : Int) : Option Bool :=
  Option.bind (geti p0_L p1) fun x16_0 =>
  Option.bind (geti p0_L p2) fun x21_0 =>
  Option.bind (m_sorter_ahead x16_0 x21_0) fun r23_0 =>
  some r23_0

def m_sorter_Heap_event_Event_swap__sorter_ahead (p0_L : (List GEvent)) (p1 : Int) (p2 : Int) : Option (List GEvent) :=
  Option.bind (geti p0_L p2) fun x15_0 =>
  Option.bind (geti p0_L p1) fun x20_0 =>
  Option.bind (geti p0_L p1) fun x22_0 =>
  Option.bind (geti (List.set p0_L (Int.toNat p1) x15_0) p2) fun x23_0 =>
  some (List.set (List.set p0_L (Int.toNat p1) x15_0) (Int.toNat p2) x20_0)

def m_sorter_Heap_event_Event_Push__sorter_ahead_l3 : Nat → (List GEvent) → Int → Option (List GEvent)
  | 0, _, _ => none
  | fu_3 + 1, y5_d_0_3, y6_3 =>
    cond (decide ((0 : Int) < y6_3))
    (Option.bind (m_sorter_Heap_event_Event_less__sorter_ahead y5_d_0_3 y6_3 (IntKind.i64.wrap (Int.tdiv (IntKind.i64.wrap (y6_3 - 1)) 2))) fun r27_4 =>
    cond r27_4
    (Option.bind (m_sorter_Heap_event_Event_swap__sorter_ahead y5_d_0_3 y6_3 (IntKind.i64.wrap (Int.tdiv (IntKind.i64.wrap (y6_3 - 1)) 2))) fun r37_5 =>
    m_sorter_Heap_event_Event_Push__sorter_ahead_l3 fu_3 r37_5 (IntKind.i64.wrap (Int.tdiv (IntKind.i64.wrap (y6_3 - 1)) 2)))
    (some y5_d_0_3))
    (some y5_d_0_3)
def m_sorter_Heap_event_Event_Push__sorter_ahead (p0_L : (List GEvent)) (p1 : GEvent) : Option (List GEvent) :=
  Option.bind (m_sorter_Heap_event_Event_clone__sorter_ahead p0_L) fun r8_0 =>
  Option.bind (app r8_0 ([p1] : List GEvent)) fun a13_1 =>
  m_sorter_Heap_event_Event_Push__sorter_ahead_l3  1152921504606846976 a13_1 (IntKind.i64.wrap (((List.length a13_1 : Nat) : Int) - 1))

def m_sorter_Sorter_Put (p0 : GSorter) (p1 : GEvent) : Option (GSorter × Int) :=
  Option.bind (m_slices_ContainsFunc_Event__sorter_Sorter_Put_1 p0.L p1) fun r10_0 =>
  cond r10_0
  (some (p0, 12))
  (cond (decide (p0.Cap ≤ ((List.length p0.L : Nat) : Int)))
  (some (p0, 7))
  (Option.bind (m_sorter_Sorter_heap p0) fun r25_2 =>
  Option.bind (m_sorter_Heap_event_Event_Push__sorter_ahead r25_2 p1) fun r27_2 =>
  some ((GSorter.mk p0.Cap r27_2), 0)))

def m_sorter_Heap_event_Event_least__sorter_ahead_l0 (p0_L : (List GEvent)) (p1 : Int) : Nat → Int → Int → Option Int
  | 0, _, _ => none
  | fu_0 + 1, y5_0, y6_0 =>
    cond (decide (y6_0 ≤ (IntKind.i64.wrap ((IntKind.i64.wrap (2 * p1)) + 2))))
    (cond (decide (y6_0 < ((List.length p0_L : Nat) : Int)))
    (Option.bind (m_sorter_Heap_event_Event_less__sorter_ahead p0_L y6_0 y5_0) fun r28_2 =>
    cond r28_2
    (m_sorter_Heap_event_Event_least__sorter_ahead_l0 p0_L p1 fu_0 y6_0 (IntKind.i64.wrap (y6_0 + 1)))
    (m_sorter_Heap_event_Event_least__sorter_ahead_l0 p0_L p1 fu_0 y5_0 (IntKind.i64.wrap (y6_0 + 1))))
    (some y5_0))
    (some y5_0)
def m_sorter_Heap_event_Event_least__sorter_ahead (p0_L : (List GEvent)) (p1 : Int) : Option Int :=
  m_sorter_Heap_event_Event_least__sorter_ahead_l0 p0_L p1 1152921504606846976 p1 (IntKind.i64.wrap ((IntKind.i64.wrap (2 * p1)) + 1))

def m_sorter_Heap_event_Event_Pop__sorter_ahead_l5 (x21_2 : GEvent) : Nat → (List GEvent) → Int → Option (GEvent × (List GEvent) × Bool)
  | 0, _, _ => none
  | fu_5 + 1, y5_d_0_5, y9_5 =>
    Option.bind (m_sorter_Heap_event_Event_least__sorter_ahead y5_d_0_5 y9_5) fun r37_6 =>
    cond (decide (r37_6 = y9_5))
    (some (x21_2, y5_d_0_5, true))
    (Option.bind (m_sorter_Heap_event_Event_swap__sorter_ahead y5_d_0_5 y9_5 r37_6) fun r44_7 =>
    m_sorter_Heap_event_Event_Pop__sorter_ahead_l5 x21_2 fu_5 r44_7 r37_6)
def m_sorter_Heap_event_Event_Pop__sorter_ahead (p0_L : (List GEvent)) : Option (GEvent × (List GEvent) × Bool) :=
  Option.bind (m_sorter_Heap_event_Event_clone__sorter_ahead p0_L) fun r12_0 =>
  cond (decide (((List.length r12_0 : Nat) : Int) = 0))
  (some ((GEvent.mk 0 0 0 ([] : List UInt8) ([] : List GValue)), r12_0, false))
  (Option.bind (geti r12_0 0) fun x21_2 =>
  Option.bind (m_sorter_Heap_event_Event_swap__sorter_ahead r12_0 0 (IntKind.i64.wrap (((List.length r12_0 : Nat) : Int) - 1))) fun r29_3 =>
  Option.bind (cut r29_3 0 (IntKind.i64.wrap (((List.length r12_0 : Nat) : Int) - 1))) fun s33_4 =>
  m_sorter_Heap_event_Event_Pop__sorter_ahead_l5 x21_2 1152921504606846976 s33_4 0)

def m_sorter_Sorter_Release_j5 (p0 : GSorter) (y6_5 : List GEvent) (y7_d_0_5 : List GEvent) : Option ((List GEvent) × GSorter) :=
  some (y6_5, (GSorter.mk p0.Cap y7_d_0_5))
def m_sorter_Sorter_Release_l1 (p0 : GSorter) (p1 : Int) : Nat → (List GEvent) → (List GEvent) → Option ((List GEvent) × GSorter)
  | 0, _, _ => none
  | fu_1 + 1, y6_1, y7_d_0_1 =>
    cond (decide ((0 : Int) < ((List.length y7_d_0_1 : Nat) : Int)))
    (Option.bind (geti y7_d_0_1 0) fun x20_2 =>
    cond (decide (x20_2.Time < p1))
    (Option.bind (m_sorter_Heap_event_Event_Pop__sorter_ahead y7_d_0_1) fun r28_3 =>
    Option.bind (app y6_1 ([r28_3.1] : List GEvent)) fun a35_4 =>
    m_sorter_Sorter_Release_l1 p0 p1 fu_1 a35_4 r28_3.2.1)
    (m_sorter_Sorter_Release_j5 p0 y6_1 y7_d_0_1))
    (m_sorter_Sorter_Release_j5 p0 y6_1 y7_d_0_1)
def m_sorter_Sorter_Release (p0 : GSorter) (p1 : Int) : Option ((List GEvent) × GSorter) :=
  Option.bind (m_sorter_Sorter_heap p0) fun r12_0 =>
  m_sorter_Sorter_Release_l1 p0 p1 1152921504606846976 ([] : List GEvent) r12_0

def m_sorter_Sorter_Least (p0 : GSorter) : Option (Int × Bool) :=
  cond (decide (((List.length p0.L : Nat) : Int) = 0))
  (some (0, false))
  (Option.bind (geti p0.L 0) fun x10_1 =>
  some (x10_1.Time, true))

def m_slices_Clone_int (p0 : (List Int)) : Option (List Int) :=
  Option.bind (app ([] : List Int) p0) fun a7_0 =>
  some a7_0

def m_sorter_Heap_int_clone__telltalelaw24_less (p0_L : (List Int)) : Option (List Int) :=
  Option.bind (m_slices_Clone_int p0_L) fun r5_0 =>
  some r5_0

def m_telltalelaw24_less (p0 : Int) (p1 : Int) : Option Bool :=
  some (decide (p0 < p1))

def m_sorter_Heap_int_less__telltalelaw24_less (p0_L : (List Int)) (p1 : Int) (p2 : Int) : Option Bool :=
  Option.bind (geti p0_L p1) fun x16_0 =>
  Option.bind (geti p0_L p2) fun x21_0 =>
  Option.bind (m_telltalelaw24_less x16_0 x21_0) fun r23_0 =>
  some r23_0

def m_sorter_Heap_int_swap__telltalelaw24_less (p0_L : (List Int)) (p1 : Int) (p2 : Int) : Option (List Int) :=
  Option.bind (geti p0_L p2) fun x15_0 =>
  Option.bind (geti p0_L p1) fun x20_0 =>
  Option.bind (geti p0_L p1) fun x22_0 =>
  Option.bind (geti (List.set p0_L (Int.toNat p1) x15_0) p2) fun x23_0 =>
  some (List.set (List.set p0_L (Int.toNat p1) x15_0) (Int.toNat p2) x20_0)

def m_sorter_Heap_int_Push__telltalelaw24_less_l3 : Nat → (List Int) → Int → Option (List Int)
  | 0, _, _ => none
  | fu_3 + 1, y5_d_0_3, y6_3 =>
    cond (decide ((0 : Int) < y6_3))
    (Option.bind (m_sorter_Heap_int_less__telltalelaw24_less y5_d_0_3 y6_3 (IntKind.i64.wrap (Int.tdiv (IntKind.i64.wrap (y6_3 - 1)) 2))) fun r27_4 =>
    cond r27_4
    (Option.bind (m_sorter_Heap_int_swap__telltalelaw24_less y5_d_0_3 y6_3 (IntKind.i64.wrap (Int.tdiv (IntKind.i64.wrap (y6_3 - 1)) 2))) fun r37_5 =>
    m_sorter_Heap_int_Push__telltalelaw24_less_l3 fu_3 r37_5 (IntKind.i64.wrap (Int.tdiv (IntKind.i64.wrap (y6_3 - 1)) 2)))
    (some y5_d_0_3))
    (some y5_d_0_3)
def m_sorter_Heap_int_Push__telltalelaw24_less (p0_L : (List Int)) (p1 : Int) : Option (List Int) :=
  Option.bind (m_sorter_Heap_int_clone__telltalelaw24_less p0_L) fun r8_0 =>
  Option.bind (app r8_0 ([p1] : List Int)) fun a13_1 =>
  m_sorter_Heap_int_Push__telltalelaw24_less_l3  1152921504606846976 a13_1 (IntKind.i64.wrap (((List.length a13_1 : Nat) : Int) - 1))

def m_sorter_Heap_int_least__telltalelaw24_less_l0 (p0_L : (List Int)) (p1 : Int) : Nat → Int → Int → Option Int
  | 0, _, _ => none
  | fu_0 + 1, y5_0, y6_0 =>
    cond (decide (y6_0 ≤ (IntKind.i64.wrap ((IntKind.i64.wrap (2 * p1)) + 2))))
    (cond (decide (y6_0 < ((List.length p0_L : Nat) : Int)))
    (Option.bind (m_sorter_Heap_int_less__telltalelaw24_less p0_L y6_0 y5_0) fun r28_2 =>
    cond r28_2
    (m_sorter_Heap_int_least__telltalelaw24_less_l0 p0_L p1 fu_0 y6_0 (IntKind.i64.wrap (y6_0 + 1)))
    (m_sorter_Heap_int_least__telltalelaw24_less_l0 p0_L p1 fu_0 y5_0 (IntKind.i64.wrap (y6_0 + 1))))
    (some y5_0))
    (some y5_0)
def m_sorter_Heap_int_least__telltalelaw24_less (p0_L : (List Int)) (p1 : Int) : Option Int :=
  m_sorter_Heap_int_least__telltalelaw24_less_l0 p0_L p1 1152921504606846976 p1 (IntKind.i64.wrap ((IntKind.i64.wrap (2 * p1)) + 1))

def m_sorter_Heap_int_Pop__telltalelaw24_less_l5 (x21_2 : Int) : Nat → (List Int) → Int → Option (Int × (List Int) × Bool)
  | 0, _, _ => none
  | fu_5 + 1, y5_d_0_5, y9_5 =>
    Option.bind (m_sorter_Heap_int_least__telltalelaw24_less y5_d_0_5 y9_5) fun r37_6 =>
    cond (decide (r37_6 = y9_5))
    (some (x21_2, y5_d_0_5, true))
    (Option.bind (m_sorter_Heap_int_swap__telltalelaw24_less y5_d_0_5 y9_5 r37_6) fun r44_7 =>
    m_sorter_Heap_int_Pop__telltalelaw24_less_l5 x21_2 fu_5 r44_7 r37_6)
def m_sorter_Heap_int_Pop__telltalelaw24_less (p0_L : (List Int)) : Option (Int × (List Int) × Bool) :=
  Option.bind (m_sorter_Heap_int_clone__telltalelaw24_less p0_L) fun r12_0 =>
  cond (decide (((List.length r12_0 : Nat) : Int) = 0))
  (some (0, r12_0, false))
  (Option.bind (geti r12_0 0) fun x21_2 =>
  Option.bind (m_sorter_Heap_int_swap__telltalelaw24_less r12_0 0 (IntKind.i64.wrap (((List.length r12_0 : Nat) : Int) - 1))) fun r29_3 =>
  Option.bind (cut r29_3 0 (IntKind.i64.wrap (((List.length r12_0 : Nat) : Int) - 1))) fun s33_4 =>
  m_sorter_Heap_int_Pop__telltalelaw24_less_l5 x21_2 1152921504606846976 s33_4 0)

def m_sorter_Fine_int__telltalelaw24_less_l0 (p0_L : (List Int)) : Nat → Int → Option Bool
  | 0, _ => none
  | fu_0 + 1, y3_0 =>
    cond (decide (y3_0 < ((List.length p0_L : Nat) : Int)))
    (Option.bind (m_sorter_Heap_int_less__telltalelaw24_less p0_L y3_0 (IntKind.i64.wrap (Int.tdiv (IntKind.i64.wrap (y3_0 - 1)) 2))) fun r16_2 =>
    cond r16_2
    (some false)
    (m_sorter_Fine_int__telltalelaw24_less_l0 p0_L fu_0 (IntKind.i64.wrap (y3_0 + 1))))
    (some true)
def m_sorter_Fine_int__telltalelaw24_less (p0_L : (List Int)) : Option Bool :=
  m_sorter_Fine_int__telltalelaw24_less_l0 p0_L 1152921504606846976 1

def m_telltalelaw24_awake : Option Bool :=
  Option.bind (m_sorter_New 3) fun r21_0 =>
  Option.bind (m_sorter_Sorter_Put r21_0.1 (GEvent.mk 5 0 0 ([] : List UInt8) ([] : List GValue))) fun r27_1 =>
  Option.bind (m_sorter_Sorter_Put r27_1.1 (GEvent.mk 3 0 0 ([] : List UInt8) ([] : List GValue))) fun r33_2 =>
  Option.bind (m_sorter_Sorter_Put r33_2.1 (GEvent.mk 5 0 0 ([] : List UInt8) ([] : List GValue))) fun r39_3 =>
  Option.bind (m_sorter_Sorter_Put r33_2.1 (GEvent.mk 4 0 0 ([] : List UInt8) ([] : List GValue))) fun r45_4 =>
  Option.bind (m_sorter_Sorter_Put r45_4.1 (GEvent.mk 9 0 0 ([] : List UInt8) ([] : List GValue))) fun r51_5 =>
  Option.bind (m_sorter_Sorter_Release r45_4.1 5) fun r56_6 =>
  Option.bind (m_sorter_Sorter_Least r45_4.1) fun r61_7 =>
  Option.bind (m_sorter_Heap_int_Push__telltalelaw24_less ([] : List Int) 4) fun r66_8 =>
  Option.bind (m_sorter_Heap_int_Push__telltalelaw24_less r66_8 2) fun r67_8 =>
  Option.bind (m_sorter_Heap_int_Push__telltalelaw24_less r67_8 3) fun r68_8 =>
  Option.bind (m_sorter_Heap_int_Pop__telltalelaw24_less r68_8) fun r69_8 =>
  cond (decide (r21_0.2 = 0))
  (cond (decide (r27_1.2 = 0))
  (cond (decide (r33_2.2 = 0))
  (cond (decide (r39_3.2 = 12))
  (cond (decide (r45_4.2 = 0))
  (cond (decide (r51_5.2 = 7))
  (cond (decide (((List.length r56_6.1 : Nat) : Int) = 2))
  (Option.bind (geti r56_6.1 0) fun x102_9 =>
  cond (decide (x102_9.Time = 3))
  (Option.bind (geti r56_6.1 1) fun x109_9 =>
  cond (decide (x109_9.Time = 4))
  (cond (decide (((List.length r56_6.2.L : Nat) : Int) = 1))
  (cond (decide (r61_7.1 = 3))
  (cond r61_7.2
  (cond (decide (r69_8.1 = 2))
  (cond r69_8.2.2
  (cond (decide (((List.length r69_8.2.1 : Nat) : Int) = 2))
  (Option.bind (m_sorter_Fine_int__telltalelaw24_less r69_8.2.1) fun r142_9 =>
  cond r142_9
  (some true)
  (some false))
  (some false))
  (some false))
  (some false))
  (some false))
  (some false))
  (some false))
  (some false))
  (some false))
  (some false))
  (some false))
  (some false))
  (some false))
  (some false))
  (some false))
  (some false)

def m_sorter_Heap_int_less (p0_L : (List Int)) (p1 : Int) (p2 : Int) : Option Bool :=
  some false

def m_sorter_Fine_int_l0 (p0_L : (List Int)) : Nat → Int → Option Bool
  | 0, _ => none
  | fu_0 + 1, y3_0 =>
    cond (decide (y3_0 < ((List.length p0_L : Nat) : Int)))
    (Option.bind (m_sorter_Heap_int_less p0_L y3_0 (IntKind.i64.wrap (Int.tdiv (IntKind.i64.wrap (y3_0 - 1)) 2))) fun r16_2 =>
    cond r16_2
    (some false)
    (m_sorter_Fine_int_l0 p0_L fu_0 (IntKind.i64.wrap (y3_0 + 1))))
    (some true)
def m_sorter_Fine_int (p0_L : (List Int)) : Option Bool :=
  m_sorter_Fine_int_l0 p0_L 1152921504606846976 1

def m_telltalelaw24_SorterFine_l2 (p0 : (List Int)) : Nat → Bool → Int → Option Bool
  | 0, _, _ => none
  | fu_2 + 1, y3_2, y4_2 =>
    cond (decide (y4_2 < ((List.length p0 : Nat) : Int)))
    (cond y3_2
    (Option.bind (geti p0 y4_2) fun x19_4 =>
    Option.bind (geti p0 (IntKind.i64.wrap (Int.tdiv (IntKind.i64.wrap (y4_2 - 1)) 2))) fun x25_4 =>
    m_telltalelaw24_SorterFine_l2 p0 fu_2 (decide (x25_4 ≤ x19_4)) (IntKind.i64.wrap (y4_2 + 1)))
    (m_telltalelaw24_SorterFine_l2 p0 fu_2 false (IntKind.i64.wrap (y4_2 + 1))))
    (Option.bind (m_sorter_Fine_int__telltalelaw24_less p0) fun r31_5 =>
    cond (decide (r31_5 = y3_2))
    (Option.bind (m_sorter_Fine_int p0) fun r37_5 =>
    cond r37_5
    (Option.bind m_telltalelaw24_awake fun r40_5 =>
    some r40_5)
    (some false))
    (some false))
def m_telltalelaw24_SorterFine (p0 : (List Int)) : Option Bool :=
  cond (decide ((40 : Int) < ((List.length p0 : Nat) : Int)))
  (Option.bind m_telltalelaw24_awake fun r8_1 =>
  some r8_1)
  (m_telltalelaw24_SorterFine_l2 p0 1152921504606846976 true 1)

def m_telltalelaw24_SorterHeaps_l8 (p0 : (List Int)) (a41_5 : List Int) (r47_6 : (List Int)) (y3_d_0_3 : List Int) (y7_3 : Int) (y8_3 : Int) (k_m_telltalelaw24_SorterHeaps_l3 : (List Int) → Int → Int → Option Bool) : Nat → Int → Option Bool
  | 0, _ => none
  | fu_8 + 1, y11_8 =>
    cond (decide (y11_8 < ((List.length a41_5 : Nat) : Int)))
    (Option.bind (geti y3_d_0_3 y11_8) fun x68_10 =>
    Option.bind (geti a41_5 y11_8) fun x72_10 =>
    cond (decide (x68_10 ≠ x72_10))
    (some false)
    (m_telltalelaw24_SorterHeaps_l8 p0 a41_5 r47_6 y3_d_0_3 y7_3 y8_3 k_m_telltalelaw24_SorterHeaps_l3 fu_8 (IntKind.i64.wrap (y11_8 + 1))))
    (Option.bind (geti p0 y8_3) fun x79_11 =>
    k_m_telltalelaw24_SorterHeaps_l3 r47_6 (IntKind.i64.wrap (((BitVec.ofInt 64 y7_3 ^^^ BitVec.ofInt 64 x79_11).toNat : Int))) (IntKind.i64.wrap (y8_3 + 1)))
def m_telltalelaw24_SorterHeaps_j16 : Option Bool :=
  some false
def m_telltalelaw24_SorterHeaps_j17 (r90_14 : (Int × (List Int) × Bool)) (y13_12 : Int) (y7_12 : Int) (k_m_telltalelaw24_SorterHeaps_l12 : (List Int) → Int → Int → Int → Option Bool) (y120_17 : Bool) : Option Bool :=
  cond y120_17
  (some false)
  (k_m_telltalelaw24_SorterHeaps_l12 r90_14.2.1 (IntKind.i64.wrap (((BitVec.ofInt 64 y7_12 ^^^ BitVec.ofInt 64 r90_14.1).toNat : Int))) r90_14.1 (IntKind.i64.wrap (y13_12 + 1)))
def m_telltalelaw24_SorterHeaps_l12 (p0 : (List Int)) : Nat → (List Int) → Int → Int → Int → Option Bool
  | 0, _, _, _, _ => none
  | fu_12 + 1, y3_d_0_12, y7_12, y12_12, y13_12 =>
    cond (decide (y13_12 < ((List.length p0 : Nat) : Int)))
    (Option.bind (m_sorter_Heap_int_Pop__telltalelaw24_less y3_d_0_12) fun r90_14 =>
    cond (!r90_14.2.2)
    (m_telltalelaw24_SorterHeaps_j16 )
    (cond (decide ((0 : Int) < y13_12))
    (cond (decide (r90_14.1 < y12_12))
    (m_telltalelaw24_SorterHeaps_j16 )
    (Option.bind (m_sorter_Fine_int__telltalelaw24_less r90_14.2.1) fun r107_15 =>
    cond (!r107_15)
    (m_telltalelaw24_SorterHeaps_j16 )
    (Option.bind (some (decide (((List.length r90_14.2.1 : Nat) : Int) ≠ (IntKind.i64.wrap ((IntKind.i64.wrap (((List.length p0 : Nat) : Int) - 1)) - y13_12))))) fun v119_15 =>
    m_telltalelaw24_SorterHeaps_j17 r90_14 y13_12 y7_12 (fun y3_d_0_12 y7_12 y12_12 y13_12 => m_telltalelaw24_SorterHeaps_l12 p0 fu_12 y3_d_0_12 y7_12 y12_12 y13_12) v119_15)))
    (Option.bind (m_sorter_Fine_int__telltalelaw24_less r90_14.2.1) fun r107_15 =>
    cond (!r107_15)
    (m_telltalelaw24_SorterHeaps_j16 )
    (Option.bind (some (decide (((List.length r90_14.2.1 : Nat) : Int) ≠ (IntKind.i64.wrap ((IntKind.i64.wrap (((List.length p0 : Nat) : Int) - 1)) - y13_12))))) fun v119_15 =>
    m_telltalelaw24_SorterHeaps_j17 r90_14 y13_12 y7_12 (fun y3_d_0_12 y7_12 y12_12 y13_12 => m_telltalelaw24_SorterHeaps_l12 p0 fu_12 y3_d_0_12 y7_12 y12_12 y13_12) v119_15))))
    (Option.bind (m_sorter_Heap_int_Pop__telltalelaw24_less y3_d_0_12) fun r128_18 =>
    cond (!r128_18.2.2)
    (cond (decide (y7_12 = 0))
    (Option.bind m_telltalelaw24_awake fun r139_19 =>
    some r139_19)
    (some false))
    (some false))
def m_telltalelaw24_SorterHeaps_l3 (p0 : (List Int)) : Nat → (List Int) → Int → Int → Option Bool
  | 0, _, _, _ => none
  | fu_3 + 1, y3_d_0_3, y7_3, y8_3 =>
    cond (decide (y8_3 < ((List.length p0 : Nat) : Int)))
    (Option.bind (app ([] : List Int) y3_d_0_3) fun a41_5 =>
    Option.bind (geti p0 y8_3) fun x45_6 =>
    Option.bind (m_sorter_Heap_int_Push__telltalelaw24_less y3_d_0_3 x45_6) fun r47_6 =>
    cond (decide (((List.length r47_6 : Nat) : Int) ≠ (IntKind.i64.wrap (y8_3 + 1))))
    (some false)
    (Option.bind (m_sorter_Fine_int__telltalelaw24_less r47_6) fun r56_7 =>
    cond (!r56_7)
    (some false)
    (m_telltalelaw24_SorterHeaps_l8 p0 a41_5 r47_6 y3_d_0_3 y7_3 y8_3 (fun y3_d_0_3 y7_3 y8_3 => m_telltalelaw24_SorterHeaps_l3 p0 fu_3 y3_d_0_3 y7_3 y8_3) 1152921504606846976 0)))
    (m_telltalelaw24_SorterHeaps_l12 p0 1152921504606846976 y3_d_0_3 y7_3 0 0)
def m_telltalelaw24_SorterHeaps (p0 : (List Int)) : Option Bool :=
  cond (decide ((40 : Int) < ((List.length p0 : Nat) : Int)))
  (Option.bind m_telltalelaw24_awake fun r23_1 =>
  some r23_1)
  (Option.bind (m_sorter_Heap_int_Pop__telltalelaw24_less ([] : List Int)) fun r27_2 =>
  cond r27_2.2.2
  (some false)
  (m_telltalelaw24_SorterHeaps_l3 p0 1152921504606846976 ([] : List Int) 0 0))

def m_telltaleref24_New (p0 : Int) : Option (GSorter × Int) :=
  cond (decide (p0 < 1))
  (some ((GSorter.mk 0 ([] : List GEvent)), 2))
  (cond (decide ((4096 : Int) < p0))
  (some ((GSorter.mk 0 ([] : List GEvent)), 2))
  (some ((GSorter.mk p0 ([] : List GEvent)), 0)))

def m_telltalelaw04_Small (p0 : GValue) : Option Int :=
  some (max 0 (IntKind.i64.wrap (((List.length p0.Text : Nat) : Int) - 100)))

def m_telltalelaw07_Over_l4 (p0 : (List GEvent)) (y5_1 : Int) (k_m_telltalelaw07_Over_l1 : Int → Option Int) : Nat → Int → Option Int
  | 0, _ => none
  | fu_4 + 1, y6_4 =>
    Option.bind (geti p0 y5_1) fun x36_5 =>
    cond (decide (y6_4 < ((List.length x36_5.Vals : Nat) : Int)))
    (Option.bind (geti p0 y5_1) fun x45_6 =>
    Option.bind (geti x45_6.Vals y6_4) fun x49_6 =>
    Option.bind (m_telltalelaw04_Small x49_6) fun r51_6 =>
    cond (decide ((0 : Int) < r51_6))
    (some 1)
    (m_telltalelaw07_Over_l4 p0 y5_1 k_m_telltalelaw07_Over_l1 fu_4 (IntKind.i64.wrap (y6_4 + 1))))
    (k_m_telltalelaw07_Over_l1 (IntKind.i64.wrap (y5_1 + 1)))
def m_telltalelaw07_Over_l1 (p0 : (List GEvent)) : Nat → Int → Option Int
  | 0, _ => none
  | fu_1 + 1, y5_1 =>
    cond (decide (y5_1 < ((List.length p0 : Nat) : Int)))
    (Option.bind (geti p0 y5_1) fun x19_3 =>
    cond (decide ((40 : Int) < ((List.length x19_3.Type_ : Nat) : Int)))
    (some 1)
    (Option.bind (geti p0 y5_1) fun x27_3 =>
    cond (decide ((12 : Int) < ((List.length x27_3.Vals : Nat) : Int)))
    (some 1)
    (m_telltalelaw07_Over_l4 p0 y5_1 (fun y5_1 => m_telltalelaw07_Over_l1 p0 fu_1 y5_1) 1152921504606846976 0)))
    (some 0)
def m_telltalelaw07_Over (p0 : (List GEvent)) (p1 : Int) : Option Int :=
  cond (decide (p1 < ((List.length p0 : Nat) : Int)))
  (some 1)
  (m_telltalelaw07_Over_l1 p0 1152921504606846976 0)

def m_telltaleref24_Release_l0 (p0 : GSorter) (p1 : Int) : Nat → (List GEvent) → (List GEvent) → Int → Option ((List GEvent) × GSorter)
  | 0, _, _, _ => none
  | fu_0 + 1, y6_0, y7_d_1_0, y8_0 =>
    cond (decide (y8_0 < ((List.length p0.L : Nat) : Int)))
    (Option.bind (geti p0.L y8_0) fun x22_2 =>
    cond (decide (x22_2.Time < p1))
    (Option.bind (geti p0.L y8_0) fun x31_3 =>
    Option.bind (app y6_0 ([x31_3] : List GEvent)) fun a34_3 =>
    m_telltaleref24_Release_l0 p0 p1 fu_0 a34_3 y7_d_1_0 (IntKind.i64.wrap (y8_0 + 1)))
    (Option.bind (geti p0.L y8_0) fun x40_4 =>
    Option.bind (app y7_d_1_0 ([x40_4] : List GEvent)) fun a43_4 =>
    m_telltaleref24_Release_l0 p0 p1 fu_0 y6_0 a43_4 (IntKind.i64.wrap (y8_0 + 1))))
    (some (y6_0, (GSorter.mk p0.Cap y7_d_1_0)))
def m_telltaleref24_Release (p0 : GSorter) (p1 : Int) : Option ((List GEvent) × GSorter) :=
  m_telltaleref24_Release_l0 p0 p1 1152921504606846976 ([] : List GEvent) ([] : List GEvent) 0

def m_telltalelaw07_Back_l0 (p0 : GEvent) : Nat → (List GValue) → Int → Option GEvent
  | 0, _, _ => none
  | fu_0 + 1, y3_d_4_0, y4_0 =>
    cond (decide (y4_0 < ((List.length p0.Vals : Nat) : Int)))
    (Option.bind (geti p0.Vals y4_0) fun x26_2 =>
    Option.bind (app y3_d_4_0 ([x26_2] : List GValue)) fun a29_2 =>
    m_telltalelaw07_Back_l0 p0 fu_0 a29_2 (IntKind.i64.wrap (y4_0 + 1)))
    (some (GEvent.mk p0.Time p0.Source p0.Seq p0.Type_ y3_d_4_0))
def m_telltalelaw07_Back (p0 : GEvent) : Option GEvent :=
  m_telltalelaw07_Back_l0 p0 1152921504606846976 ([] : List GValue) 0

def m_telltalelaw07_BackAll_l0 (p0 : (List GEvent)) : Nat → (List GEvent) → Int → Option (List GEvent)
  | 0, _, _ => none
  | fu_0 + 1, y3_0, y4_0 =>
    cond (decide (y4_0 < ((List.length p0 : Nat) : Int)))
    (Option.bind (geti p0 y4_0) fun x14_2 =>
    Option.bind (m_telltalelaw07_Back x14_2) fun r16_2 =>
    Option.bind (app y3_0 ([r16_2] : List GEvent)) fun a18_2 =>
    m_telltalelaw07_BackAll_l0 p0 fu_0 a18_2 (IntKind.i64.wrap (y4_0 + 1)))
    (some y3_0)
def m_telltalelaw07_BackAll (p0 : (List GEvent)) : Option (List GEvent) :=
  m_telltalelaw07_BackAll_l0 p0 1152921504606846976 ([] : List GEvent) 0

def m_telltaleref07_Same_j1 : Option Bool :=
  some false
def m_telltaleref07_Same_l2 (p0 : GEvent) (p1 : GEvent) : Nat → Int → Option Bool
  | 0, _ => none
  | fu_2 + 1, y5_2 =>
    cond (decide (y5_2 < ((List.length p0.Vals : Nat) : Int)))
    (Option.bind (geti p0.Vals y5_2) fun x51_4 =>
    Option.bind (geti p1.Vals y5_2) fun x56_4 =>
    Option.bind (some ((!(decide (((x51_4.Kind.toNat : Nat) : Int) = ((x56_4.Kind.toNat : Nat) : Int)) && (decide (x51_4.N = x56_4.N) && (decide (x51_4.Bits = x56_4.Bits) && (decide (x51_4.Text = x56_4.Text) && true))))))) fun v58_4 =>
    cond v58_4
    (some false)
    (m_telltaleref07_Same_l2 p0 p1 fu_2 (IntKind.i64.wrap (y5_2 + 1))))
    (some true)
def m_telltaleref07_Same (p0 : GEvent) (p1 : GEvent) : Option Bool :=
  cond (decide (p0.Time ≠ p1.Time))
  (m_telltaleref07_Same_j1 )
  (cond (decide (p0.Source ≠ p1.Source))
  (m_telltaleref07_Same_j1 )
  (cond (decide (p0.Seq ≠ p1.Seq))
  (m_telltaleref07_Same_j1 )
  (cond (decide (p0.Type_ ≠ p1.Type_))
  (m_telltaleref07_Same_j1 )
  (cond (decide (((List.length p0.Vals : Nat) : Int) ≠ ((List.length p1.Vals : Nat) : Int)))
  (some false)
  (m_telltaleref07_Same_l2 p0 p1 1152921504606846976 0)))))

def m_telltaleref07_SameAll_l1 (p0 : (List GEvent)) (p1 : (List GEvent)) : Nat → Int → Option Bool
  | 0, _ => none
  | fu_1 + 1, y5_1 =>
    cond (decide (y5_1 < ((List.length p0 : Nat) : Int)))
    (Option.bind (geti p0 y5_1) fun x19_3 =>
    Option.bind (geti p1 y5_1) fun x23_3 =>
    Option.bind (m_telltaleref07_Same x19_3 x23_3) fun r25_3 =>
    cond (!r25_3)
    (some false)
    (m_telltaleref07_SameAll_l1 p0 p1 fu_1 (IntKind.i64.wrap (y5_1 + 1))))
    (some true)
def m_telltaleref07_SameAll (p0 : (List GEvent)) (p1 : (List GEvent)) : Option Bool :=
  cond (decide (((List.length p0 : Nat) : Int) ≠ ((List.length p1 : Nat) : Int)))
  (some false)
  (m_telltaleref07_SameAll_l1 p0 p1 1152921504606846976 0)

def m_telltalelaw06_Vals_l0 (p0 : (List GValue)) : Nat → (List GValue) → Int → Option (List GValue)
  | 0, _, _ => none
  | fu_0 + 1, y3_0, y4_0 =>
    cond (decide (y4_0 < ((List.length p0 : Nat) : Int)))
    (Option.bind (geti p0 y4_0) fun x14_2 =>
    Option.bind (app y3_0 ([x14_2] : List GValue)) fun a17_2 =>
    m_telltalelaw06_Vals_l0 p0 fu_0 a17_2 (IntKind.i64.wrap (y4_0 + 1)))
    (some y3_0)
def m_telltalelaw06_Vals (p0 : (List GValue)) : Option (List GValue) :=
  m_telltalelaw06_Vals_l0 p0 1152921504606846976 ([] : List GValue) 0

def m_telltalelaw07_Own (p0 : GEvent) : Option GEvent :=
  Option.bind (m_telltalelaw06_Vals p0.Vals) fun r13_0 =>
  some (GEvent.mk p0.Time p0.Source p0.Seq p0.Type_ r13_0)

def m_telltaleref07_Less (p0 : GEvent) (p1 : GEvent) : Option Bool :=
  cond (decide (p0.Time ≠ p1.Time))
  (some (decide (p0.Time < p1.Time)))
  (cond (decide (p0.Source ≠ p1.Source))
  (some (decide (p0.Source < p1.Source)))
  (some (decide (p0.Seq < p1.Seq))))

def m_telltaleref07_Into_j2 (p0 : (List GEvent)) (p1 : GEvent) (y6_2 : Int) : Option (List GEvent) :=
  Option.bind (cut p0 0 y6_2) fun s25_3 =>
  Option.bind (app ([] : List GEvent) s25_3) fun a26_3 =>
  Option.bind (app a26_3 ([p1] : List GEvent)) fun a30_4 =>
  Option.bind (cut p0 y6_2 ((List.length p0 : Nat) : Int)) fun s34_5 =>
  Option.bind (app a30_4 s34_5) fun a35_5 =>
  some a35_5
def m_telltaleref07_Into_l0 (p0 : (List GEvent)) (p1 : GEvent) : Nat → Int → Option (List GEvent)
  | 0, _ => none
  | fu_0 + 1, y6_0 =>
    cond (decide (y6_0 < ((List.length p0 : Nat) : Int)))
    (Option.bind (geti p0 y6_0) fun x15_1 =>
    Option.bind (m_telltaleref07_Less p1 x15_1) fun r17_1 =>
    cond (!r17_1)
    (m_telltaleref07_Into_l0 p0 p1 fu_0 (IntKind.i64.wrap (y6_0 + 1)))
    (m_telltaleref07_Into_j2 p0 p1 y6_0))
    (m_telltaleref07_Into_j2 p0 p1 y6_0)
def m_telltaleref07_Into (p0 : (List GEvent)) (p1 : GEvent) : Option (List GEvent) :=
  m_telltaleref07_Into_l0 p0 p1 1152921504606846976 0

def m_telltaleref24_Put_l0 (p0 : GSorter) (p1 : GEvent) : Nat → Int → Option (GSorter × Int)
  | 0, _ => none
  | fu_0 + 1, y6_0 =>
    cond (decide (y6_0 < ((List.length p0.L : Nat) : Int)))
    (Option.bind (geti p0.L y6_0) fun x17_2 =>
    Option.bind (m_telltaleref07_Less x17_2 p1) fun r20_2 =>
    cond (!r20_2)
    (Option.bind (geti p0.L y6_0) fun x27_2 =>
    Option.bind (m_telltaleref07_Less p1 x27_2) fun r29_2 =>
    cond (!r29_2)
    (some (p0, 12))
    (m_telltaleref24_Put_l0 p0 p1 fu_0 (IntKind.i64.wrap (y6_0 + 1))))
    (m_telltaleref24_Put_l0 p0 p1 fu_0 (IntKind.i64.wrap (y6_0 + 1))))
    (cond (decide (p0.Cap ≤ ((List.length p0.L : Nat) : Int)))
    (some (p0, 7))
    (Option.bind (m_telltaleref07_Into p0.L p1) fun r45_4 =>
    some ((GSorter.mk p0.Cap r45_4), 0)))
def m_telltaleref24_Put (p0 : GSorter) (p1 : GEvent) : Option (GSorter × Int) :=
  m_telltaleref24_Put_l0 p0 p1 1152921504606846976 0

def m_telltaleref24_Least (p0 : GSorter) : Option (Int × Bool) :=
  cond (decide (((List.length p0.L : Nat) : Int) = 0))
  (some (0, false))
  (Option.bind (geti p0.L 0) fun x10_1 =>
  some (x10_1.Time, true))

def m_telltalelaw24_SorterDoes_j18 : Option Bool :=
  some false
def m_telltalelaw24_SorterDoes_j14 (y9_4 : Int) (k_m_telltalelaw24_SorterDoes_l4 : GSorter → GSorter → Int → Option Bool) (y5_d_14 : GSorter) (y7_d_0_14 : Int) (y7_d_1_14 : List GEvent) : Option Bool :=
  Option.bind (m_sorter_Sorter_Least y5_d_14) fun r114_15 =>
  Option.bind (m_telltaleref24_Least (GSorter.mk y7_d_0_14 y7_d_1_14)) fun r119_16 =>
  cond (decide (((List.length y5_d_14.L : Nat) : Int) ≠ ((List.length y7_d_1_14 : Nat) : Int)))
  (m_telltalelaw24_SorterDoes_j18 )
  (cond (decide (y5_d_14.Cap ≠ y7_d_0_14))
  (m_telltalelaw24_SorterDoes_j18 )
  (cond (decide (r114_15.1 ≠ r119_16.1))
  (m_telltalelaw24_SorterDoes_j18 )
  (cond (decide (r114_15.2 ≠ r119_16.2))
  (some false)
  (k_m_telltalelaw24_SorterDoes_l4 y5_d_14 (GSorter.mk y7_d_0_14 y7_d_1_14) (IntKind.i64.wrap (y9_4 + 1))))))
def m_telltalelaw24_SorterDoes_l4 (p1 : (List GOp)) : Nat → GSorter → GSorter → Int → Option Bool
  | 0, _, _, _ => none
  | fu_4 + 1, y5_d_4, y7_d_4, y9_4 =>
    cond (decide (y9_4 < ((List.length p1 : Nat) : Int)))
    (Option.bind (geti p1 y9_4) fun x47_6 =>
    Option.bind (m_telltalelaw07_Over ([x47_6.E] : List GEvent) 1) fun r51_6 =>
    cond (decide ((0 : Int) < r51_6))
    (Option.bind m_telltalelaw24_awake fun r53_7 =>
    some r53_7)
    (Option.bind (geti p1 y9_4) fun x56_8 =>
    cond x56_8.Let
    (Option.bind (geti p1 y9_4) fun x63_9 =>
    Option.bind (m_sorter_Sorter_Release y5_d_4 x63_9.At) fun r66_9 =>
    Option.bind (geti p1 y9_4) fun x73_10 =>
    Option.bind (m_telltaleref24_Release y7_d_4 x73_10.At) fun r76_10 =>
    Option.bind (m_telltalelaw07_BackAll r66_9.1) fun r80_11 =>
    Option.bind (m_telltaleref07_SameAll r80_11 r76_10.1) fun r82_11 =>
    cond (!r82_11)
    (some false)
    (m_telltalelaw24_SorterDoes_j14 y9_4 (fun y5_d_4 y7_d_4 y9_4 => m_telltalelaw24_SorterDoes_l4 p1 fu_4 y5_d_4 y7_d_4 y9_4) r66_9.2 r76_10.2.Cap r76_10.2.L))
    (Option.bind (geti p1 y9_4) fun x90_12 =>
    Option.bind (m_telltalelaw07_Own x90_12.E) fun r93_12 =>
    Option.bind (m_sorter_Sorter_Put y5_d_4 r93_12) fun r94_12 =>
    Option.bind (geti p1 y9_4) fun x101_13 =>
    Option.bind (m_telltaleref24_Put y7_d_4 x101_13.E) fun r104_13 =>
    cond (decide (r94_12.2 ≠ r104_13.2))
    (some false)
    (m_telltalelaw24_SorterDoes_j14 y9_4 (fun y5_d_4 y7_d_4 y9_4 => m_telltalelaw24_SorterDoes_l4 p1 fu_4 y5_d_4 y7_d_4 y9_4) r94_12.1 r104_13.1.Cap r104_13.1.L))))
    (Option.bind m_telltalelaw24_awake fun r146_19 =>
    some r146_19)
def m_telltalelaw24_SorterDoes (p0 : Int) (p1 : (List GOp)) : Option Bool :=
  cond (decide ((20 : Int) < ((List.length p1 : Nat) : Int)))
  (Option.bind m_telltalelaw24_awake fun r25_1 =>
  some r25_1)
  (Option.bind (m_sorter_New p0) fun r28_2 =>
  Option.bind (m_telltaleref24_New p0) fun r33_3 =>
  cond (decide (r28_2.2 ≠ r33_3.2))
  (some false)
  (m_telltalelaw24_SorterDoes_l4 p1 1152921504606846976 r28_2.1 r33_3.1 0))

def m_event_order (p0 : GEvent) (p1 : GEvent) : Option Int :=
  Option.bind (m_event_Event_ID p0) fun r8_0 =>
  Option.bind (m_event_Event_ID p1) fun r10_0 =>
  Option.bind (some ((decide (r8_0.Time = r10_0.Time) && (decide (r8_0.Source = r10_0.Source) && (decide (r8_0.Seq = r10_0.Seq) && true))))) fun v13_1 =>
  cond v13_1
  (some 0)
  (Option.bind (m_event_ID_Less r8_0 r10_0) fun r16_2 =>
  cond r16_2
  (some (-1))
  (some 1))

def m_event_Sorted_l0 (p0 : (List GEvent)) : Nat → Int → Option Bool
  | 0, _ => none
  | fu_0 + 1, y3_0 =>
    cond (decide (y3_0 < ((List.length p0 : Nat) : Int)))
    (Option.bind (geti p0 (IntKind.i64.wrap (y3_0 - 1))) fun x13_2 =>
    Option.bind (geti p0 y3_0) fun x17_2 =>
    Option.bind (m_event_order x13_2 x17_2) fun r19_2 =>
    cond (decide ((0 : Int) ≤ r19_2))
    (some false)
    (m_event_Sorted_l0 p0 fu_0 (IntKind.i64.wrap (y3_0 + 1))))
    (some true)
def m_event_Sorted (p0 : (List GEvent)) : Option Bool :=
  m_event_Sorted_l0 p0 1152921504606846976 1

def m_slices_Equal_Value_l2 (p0 : (List GValue)) (p1 : (List GValue)) : Nat → Int → Option Bool
  | 0, _ => none
  | fu_2 + 1, y13_2 =>
    cond (decide (y13_2 < ((List.length p0 : Nat) : Int)))
    (Option.bind (geti p0 y13_2) fun x18_3 =>
    Option.bind (geti p1 y13_2) fun x22_3 =>
    Option.bind (some ((!(decide (((x18_3.Kind.toNat : Nat) : Int) = ((x22_3.Kind.toNat : Nat) : Int)) && (decide (x18_3.N = x22_3.N) && (decide (x18_3.Bits = x22_3.Bits) && (decide (x18_3.Text = x22_3.Text) && true))))))) fun v24_3 =>
    cond v24_3
    (some false)
    (m_slices_Equal_Value_l2 p0 p1 fu_2 (IntKind.i64.wrap (y13_2 + 1))))
    (some true)
def m_slices_Equal_Value (p0 : (List GValue)) (p1 : (List GValue)) : Option Bool :=
  cond (decide (((List.length p0 : Nat) : Int) ≠ ((List.length p1 : Nat) : Int)))
  (some false)
  (m_slices_Equal_Value_l2 p0 p1 1152921504606846976 0)

def m_event_Same (p0 : GEvent) (p1 : GEvent) : Option Bool :=
  Option.bind (m_event_Event_ID p0) fun r6_0 =>
  Option.bind (m_event_Event_ID p1) fun r8_0 =>
  Option.bind (some ((decide (r6_0.Time = r8_0.Time) && (decide (r6_0.Source = r8_0.Source) && (decide (r6_0.Seq = r8_0.Seq) && true))))) fun v9_0 =>
  cond v9_0
  (cond (decide (p0.Type_ = p1.Type_))
  (Option.bind (m_slices_Equal_Value p0.Vals p1.Vals) fun r22_0 =>
  some r22_0)
  (some false))
  (some false)

def m_telltalelaw24_SorterOrder_j13 : Option Bool :=
  some false
def m_telltalelaw24_SorterOrder_j17 : Option Bool :=
  some false
def m_telltalelaw24_SorterOrder_j18 (y17_14 : Int) (k_m_telltalelaw24_SorterOrder_l14 : Int → Option Bool) (y176_18 : Bool) : Option Bool :=
  cond y176_18
  (some false)
  (k_m_telltalelaw24_SorterOrder_l14 (IntKind.i64.wrap (y17_14 + 1)))
def m_telltalelaw24_SorterOrder_j19 (y17_14 : Int) (k_m_telltalelaw24_SorterOrder_l14 : Int → Option Bool) : Option Bool :=
  k_m_telltalelaw24_SorterOrder_l14 (IntKind.i64.wrap (y17_14 + 1))
def m_telltalelaw24_SorterOrder_l14 (p1 : GArr2_Int) (a83_11 : List GEvent) (r62_8 : ((List GEvent) × GSorter)) (r69_9 : ((List GEvent) × GSorter)) (r76_10 : ((List GEvent) × GSorter)) : Nat → Int → Option Bool
  | 0, _ => none
  | fu_14 + 1, y17_14 =>
    cond (decide (y17_14 < ((List.length r76_10.1 : Nat) : Int)))
    (Option.bind (geti r76_10.1 y17_14) fun x127_16 =>
    Option.bind (geti a83_11 y17_14) fun x131_16 =>
    Option.bind (m_event_Same x127_16 x131_16) fun r133_16 =>
    cond (!r133_16)
    (m_telltalelaw24_SorterOrder_j17 )
    (Option.bind (geti r76_10.1 y17_14) fun x138_16 =>
    cond (decide (p1.a1 ≤ x138_16.Time))
    (m_telltalelaw24_SorterOrder_j17 )
    (cond (decide (y17_14 < ((List.length r62_8.1 : Nat) : Int)))
    (Option.bind (geti r76_10.1 y17_14) fun x153_16 =>
    cond (decide (p1.a0 ≤ x153_16.Time))
    (m_telltalelaw24_SorterOrder_j17 )
    (cond (decide (((List.length r62_8.1 : Nat) : Int) ≤ y17_14))
    (Option.bind (geti r76_10.1 y17_14) fun x169_16 =>
    m_telltalelaw24_SorterOrder_j18 y17_14 (fun y17_14 => m_telltalelaw24_SorterOrder_l14 p1 a83_11 r62_8 r69_9 r76_10 fu_14 y17_14) (decide (x169_16.Time < p1.a0)))
    (m_telltalelaw24_SorterOrder_j19 y17_14 (fun y17_14 => m_telltalelaw24_SorterOrder_l14 p1 a83_11 r62_8 r69_9 r76_10 fu_14 y17_14))))
    (cond (decide (((List.length r62_8.1 : Nat) : Int) ≤ y17_14))
    (Option.bind (geti r76_10.1 y17_14) fun x169_16 =>
    m_telltalelaw24_SorterOrder_j18 y17_14 (fun y17_14 => m_telltalelaw24_SorterOrder_l14 p1 a83_11 r62_8 r69_9 r76_10 fu_14 y17_14) (decide (x169_16.Time < p1.a0)))
    (m_telltalelaw24_SorterOrder_j19 y17_14 (fun y17_14 => m_telltalelaw24_SorterOrder_l14 p1 a83_11 r62_8 r69_9 r76_10 fu_14 y17_14))))))
    (Option.bind (m_sorter_Sorter_Least r69_9.2) fun r179_20 =>
    cond (!r179_20.2)
    (cond (decide (r179_20.2 = decide ((0 : Int) < ((List.length r69_9.2.L : Nat) : Int))))
    (Option.bind m_telltalelaw24_awake fun r199_21 =>
    some r199_21)
    (some false))
    (cond (decide (p1.a1 ≤ r179_20.1))
    (cond (decide (r179_20.2 = decide ((0 : Int) < ((List.length r69_9.2.L : Nat) : Int))))
    (Option.bind m_telltalelaw24_awake fun r199_21 =>
    some r199_21)
    (some false))
    (some false)))
def m_telltalelaw24_SorterOrder_l4 (p0 : (List GEvent)) (p1 : GArr2_Int) (r32_3 : (GSorter × Int)) : Nat → GSorter → Int → Option Bool
  | 0, _, _ => none
  | fu_4 + 1, y5_d_4, y7_4 =>
    cond (decide (y7_4 < ((List.length p0 : Nat) : Int)))
    (Option.bind (geti p0 y7_4) fun x45_6 =>
    Option.bind (m_telltalelaw07_Own x45_6) fun r47_6 =>
    Option.bind (m_sorter_Sorter_Put y5_d_4 r47_6) fun r48_6 =>
    cond (decide (r48_6.2 ≠ 0))
    (cond (decide (r48_6.2 ≠ 12))
    (some false)
    (m_telltalelaw24_SorterOrder_l4 p0 p1 r32_3 fu_4 r48_6.1 (IntKind.i64.wrap (y7_4 + 1))))
    (m_telltalelaw24_SorterOrder_l4 p0 p1 r32_3 fu_4 r48_6.1 (IntKind.i64.wrap (y7_4 + 1))))
    (Option.bind (m_sorter_Sorter_Release y5_d_4 p1.a0) fun r62_8 =>
    Option.bind (m_sorter_Sorter_Release r62_8.2 p1.a1) fun r69_9 =>
    Option.bind (m_sorter_Sorter_Release y5_d_4 p1.a1) fun r76_10 =>
    Option.bind (app ([] : List GEvent) r62_8.1) fun a81_11 =>
    Option.bind (app a81_11 r69_9.1) fun a83_11 =>
    cond (decide (r32_3.2 ≠ 0))
    (m_telltalelaw24_SorterOrder_j13 )
    (cond (decide (((List.length a83_11 : Nat) : Int) ≠ ((List.length r76_10.1 : Nat) : Int)))
    (m_telltalelaw24_SorterOrder_j13 )
    (Option.bind (m_event_Sorted a83_11) fun r95_12 =>
    cond (!r95_12)
    (m_telltalelaw24_SorterOrder_j13 )
    (cond (decide (((List.length r69_9.2.L : Nat) : Int) ≠ ((List.length r76_10.2.L : Nat) : Int)))
    (m_telltalelaw24_SorterOrder_j13 )
    (Option.bind (some (decide ((IntKind.i64.wrap (((List.length r76_10.1 : Nat) : Int) + ((List.length r69_9.2.L : Nat) : Int))) ≠ ((List.length y5_d_4.L : Nat) : Int)))) fun v117_12 =>
    cond v117_12
    (some false)
    (m_telltalelaw24_SorterOrder_l14 p1 a83_11 r62_8 r69_9 r76_10 1152921504606846976 0))))))
def m_telltalelaw24_SorterOrder (p0 : (List GEvent)) (p1 : GArr2_Int) : Option Bool :=
  Option.bind (m_telltalelaw07_Over p0 12) fun r21_0 =>
  cond (decide ((0 : Int) < r21_0))
  (Option.bind m_telltalelaw24_awake fun r30_1 =>
  some r30_1)
  (cond (decide (p1.a1 < p1.a0))
  (Option.bind m_telltalelaw24_awake fun r30_2 =>
  some r30_2)
  (Option.bind (m_sorter_New 12) fun r32_3 =>
  m_telltalelaw24_SorterOrder_l4 p0 p1 r32_3 1152921504606846976 r32_3.1 0))
end Go.Proofs.Ytanahlngkociaaa.K
