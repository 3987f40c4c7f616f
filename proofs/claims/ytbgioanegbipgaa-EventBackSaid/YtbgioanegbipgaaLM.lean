/- models of the program's functions -/
import Derived.Test.YtbgioanegbipgaaLT
namespace Go.Proofs.Ytbgioanegbipgaa.K
open Go.RowKit Go.Lib
set_option linter.unusedVariables false
set_option linter.unusedSimpArgs false

def m_telltalelaw06_Over_l4 (p0 : (List GType)) (y3_1 : Int) (k_m_telltalelaw06_Over_l1 : Int → Option Int) : Nat → Int → Option Int
  | 0, _ => none
  | fu_4 + 1, y4_4 =>
    Option.bind (geti p0 y3_1) fun x33_5 =>
    cond (decide (y4_4 < ((List.length x33_5.Fields : Nat) : Int)))
    (Option.bind (geti p0 y3_1) fun x42_6 =>
    Option.bind (geti x42_6.Fields y4_4) fun x46_6 =>
    cond (decide ((40 : Int) < ((List.length x46_6.Name : Nat) : Int)))
    (some 1)
    (m_telltalelaw06_Over_l4 p0 y3_1 k_m_telltalelaw06_Over_l1 fu_4 (IntKind.i64.wrap (y4_4 + 1))))
    (k_m_telltalelaw06_Over_l1 (IntKind.i64.wrap (y3_1 + 1)))
def m_telltalelaw06_Over_l1 (p0 : (List GType)) : Nat → Int → Option Int
  | 0, _ => none
  | fu_1 + 1, y3_1 =>
    cond (decide (y3_1 < ((List.length p0 : Nat) : Int)))
    (Option.bind (geti p0 y3_1) fun x16_3 =>
    cond (decide ((40 : Int) < ((List.length x16_3.Name : Nat) : Int)))
    (some 1)
    (Option.bind (geti p0 y3_1) fun x24_3 =>
    cond (decide ((12 : Int) < ((List.length x24_3.Fields : Nat) : Int)))
    (some 1)
    (m_telltalelaw06_Over_l4 p0 y3_1 (fun y3_1 => m_telltalelaw06_Over_l1 p0 fu_1 y3_1) 1152921504606846976 0)))
    (some 0)
def m_telltalelaw06_Over (p0 : (List GType)) : Option Int :=
  cond (decide ((12 : Int) < ((List.length p0 : Nat) : Int)))
  (some 1)
  (m_telltalelaw06_Over_l1 p0 1152921504606846976 0)

def m_telltalelaw04_Small (p0 : GValue) : Option Int :=
  some (max 0 (IntKind.i64.wrap (((List.length p0.Text : Nat) : Int) - 100)))

def m_telltalelaw07_Over_l4 (p0 : (List GEvent)) (y5_1 : Int) (k_m_telltalelaw07_Over_l1 : Int → Option Int) : Nat → Int → Option Int
  | 0, _ => none
  | fu_4 + 1, y6_4 =>
    Option.bind (geti p0 y5_1) fun x36_5 =>
    cond (decide (y6_4 < ((List.length x36_5.Vals : Nat) : Int)))
    (Option.bind (geti p0 y5_1) fun x45_6 =>
    Option.bind (geti x45_6.Vals y6_4) fun x49_6 =>
    Option.bind (m_telltalelaw04_Small x49_6) fun r51_6 =>
    cond (decide ((0 : Int) < r51_6))
    (some 1)
    (m_telltalelaw07_Over_l4 p0 y5_1 k_m_telltalelaw07_Over_l1 fu_4 (IntKind.i64.wrap (y6_4 + 1))))
    (k_m_telltalelaw07_Over_l1 (IntKind.i64.wrap (y5_1 + 1)))
def m_telltalelaw07_Over_l1 (p0 : (List GEvent)) : Nat → Int → Option Int
  | 0, _ => none
  | fu_1 + 1, y5_1 =>
    cond (decide (y5_1 < ((List.length p0 : Nat) : Int)))
    (Option.bind (geti p0 y5_1) fun x19_3 =>
    cond (decide ((40 : Int) < ((List.length x19_3.Type_ : Nat) : Int)))
    (some 1)
    (Option.bind (geti p0 y5_1) fun x27_3 =>
    cond (decide ((12 : Int) < ((List.length x27_3.Vals : Nat) : Int)))
    (some 1)
    (m_telltalelaw07_Over_l4 p0 y5_1 (fun y5_1 => m_telltalelaw07_Over_l1 p0 fu_1 y5_1) 1152921504606846976 0)))
    (some 0)
def m_telltalelaw07_Over (p0 : (List GEvent)) (p1 : Int) : Option Int :=
  cond (decide (p1 < ((List.length p0 : Nat) : Int)))
  (some 1)
  (m_telltalelaw07_Over_l1 p0 1152921504606846976 0)

def m_schema_letter (p0 : UInt8) : Option Bool :=
  cond (decide ((97 : Int) ≤ ((p0.toNat : Nat) : Int)))
  (some (decide (((p0.toNat : Nat) : Int) ≤ 122)))
  (some false)

def m_schema_Reserved_j0 (y4_0 : Bool) : Option Bool :=
  cond y4_0
  (some true)
  (some false)
def m_schema_Reserved (p0 : (List UInt8)) : Option Bool :=
  cond (decide (p0 = ([119, 105, 116, 104, 105, 110] : List UInt8)))
  (m_schema_Reserved_j0  (decide (p0 = ([119, 105, 116, 104, 105, 110] : List UInt8))))
  (cond (decide (p0 = ([98, 121] : List UInt8)))
  (m_schema_Reserved_j0  (decide (p0 = ([98, 121] : List UInt8))))
  (cond (decide (p0 = ([97, 110, 100] : List UInt8)))
  (m_schema_Reserved_j0  (decide (p0 = ([97, 110, 100] : List UInt8))))
  (cond (decide (p0 = ([111, 114] : List UInt8)))
  (m_schema_Reserved_j0  (decide (p0 = ([111, 114] : List UInt8))))
  (cond (decide (p0 = ([110, 111, 116] : List UInt8)))
  (m_schema_Reserved_j0  (decide (p0 = ([110, 111, 116] : List UInt8))))
  (cond (decide (p0 = ([97, 110, 121] : List UInt8)))
  (m_schema_Reserved_j0  (decide (p0 = ([97, 110, 121] : List UInt8))))
  (cond (decide (p0 = ([110, 101, 120, 116] : List UInt8)))
  (m_schema_Reserved_j0  (decide (p0 = ([110, 101, 120, 116] : List UInt8))))
  (cond (decide (p0 = ([115, 116, 114, 105, 99, 116] : List UInt8)))
  (m_schema_Reserved_j0  (decide (p0 = ([115, 116, 114, 105, 99, 116] : List UInt8))))
  (cond (decide (p0 = ([116, 114, 117, 101] : List UInt8)))
  (m_schema_Reserved_j0  (decide (p0 = ([116, 114, 117, 101] : List UInt8))))
  (m_schema_Reserved_j0  (decide (p0 = ([102, 97, 108, 115, 101] : List UInt8))))))))))))

def m_schema_tail (p0 : UInt8) : Option Bool :=
  Option.bind (m_schema_letter p0) fun r4_0 =>
  cond r4_0
  (some true)
  (cond (decide ((48 : Int) ≤ ((p0.toNat : Nat) : Int)))
  (cond (decide (((p0.toNat : Nat) : Int) ≤ 57))
  (some true)
  (some (decide (((p0.toNat : Nat) : Int) = 95))))
  (some (decide (((p0.toNat : Nat) : Int) = 95))))

def m_schema_Name_j1 : Option Bool :=
  some false
def m_schema_Name_l2 (p0 : (List UInt8)) : Nat → Int → Option Bool
  | 0, _ => none
  | fu_2 + 1, y3_2 =>
    cond (decide (y3_2 < ((List.length p0 : Nat) : Int)))
    (Option.bind (geti p0 y3_2) fun x29_4 =>
    Option.bind (m_schema_tail x29_4) fun r30_4 =>
    cond (!r30_4)
    (some false)
    (m_schema_Name_l2 p0 fu_2 (IntKind.i64.wrap (y3_2 + 1))))
    (some true)
def m_schema_Name (p0 : (List UInt8)) : Option Bool :=
  cond (decide (p0 = ([] : List UInt8)))
  (m_schema_Name_j1 )
  (cond (decide ((12 : Int) < ((List.length p0 : Nat) : Int)))
  (m_schema_Name_j1 )
  (Option.bind (geti p0 0) fun x13_0 =>
  Option.bind (m_schema_letter x13_0) fun r14_0 =>
  cond (!r14_0)
  (m_schema_Name_j1 )
  (Option.bind (m_schema_Reserved p0) fun r19_0 =>
  cond r19_0
  (some false)
  (m_schema_Name_l2 p0 1152921504606846976 1))))

def m_schema_Type_Field_l1 (p0 : GType) (p1 : (List UInt8)) : Nat → Int → Option (Int × UInt8)
  | 0, _ => none
  | fu_1 + 1, y11_1 =>
    cond (decide (y11_1 < ((List.length p0.Fields : Nat) : Int)))
    (Option.bind (geti p0.Fields y11_1) fun x14_2 =>
    cond (decide (x14_2.Name = p1))
    (some (y11_1, x14_2.Kind))
    (m_schema_Type_Field_l1 p0 p1 fu_1 (IntKind.i64.wrap (y11_1 + 1))))
    (some ((-1), 0))
def m_schema_Type_Field (p0 : GType) (p1 : (List UInt8)) : Option (Int × UInt8) :=
  m_schema_Type_Field_l1 p0 p1 1152921504606846976 0

def m_value_Word (p0 : UInt8) : Option (List UInt8) :=
  cond (decide (((p0.toNat : Nat) : Int) = 1))
  (some ([105, 110, 116] : List UInt8))
  (cond (decide (((p0.toNat : Nat) : Int) = 2))
  (some ([102, 108, 97, 103] : List UInt8))
  (cond (decide (((p0.toNat : Nat) : Int) = 3))
  (some ([114, 101, 97, 108] : List UInt8))
  (cond (decide (((p0.toNat : Nat) : Int) = 4))
  (some ([116, 101, 120, 116] : List UInt8))
  (some ([] : List UInt8)))))

def m_schema_Type_check_l3 (p0 : GType) : Nat → Int → Option Int
  | 0, _ => none
  | fu_3 + 1, y18_3 =>
    cond (decide (y18_3 < ((List.length p0.Fields : Nat) : Int)))
    (Option.bind (geti p0.Fields y18_3) fun x21_4 =>
    Option.bind (m_schema_Type_Field p0 x21_4.Name) fun r27_5 =>
    Option.bind (m_schema_Name x21_4.Name) fun r33_6 =>
    cond (!r33_6)
    (some 4)
    (Option.bind (m_value_Word x21_4.Kind) fun r38_7 =>
    cond (decide (r38_7 = ([] : List UInt8)))
    (some 11)
    (cond (decide (r27_5.1 ≠ y18_3))
    (some 21)
    (m_schema_Type_check_l3 p0 fu_3 (IntKind.i64.wrap (y18_3 + 1))))))
    (some 0)
def m_schema_Type_check (p0 : GType) : Option Int :=
  Option.bind (m_schema_Name p0.Name) fun r9_0 =>
  cond (!r9_0)
  (some 4)
  (cond (decide ((6 : Int) < ((List.length p0.Fields : Nat) : Int)))
  (some 5)
  (m_schema_Type_check_l3 p0 1152921504606846976 0))

def m_slices_Clone_Field (p0 : (List GField)) : Option (List GField) :=
  Option.bind (app ([] : List GField) p0) fun a7_0 =>
  some a7_0

def m_schema_Find_l1 (p0 : (List GType)) (p1 : (List UInt8)) : Nat → Int → Option (GType × Bool)
  | 0, _ => none
  | fu_1 + 1, y10_1 =>
    cond (decide (y10_1 < ((List.length p0 : Nat) : Int)))
    (Option.bind (geti p0 y10_1) fun x12_2 =>
    cond (decide (x12_2.Name = p1))
    (Option.bind (m_slices_Clone_Field x12_2.Fields) fun r21_3 =>
    some ((GType.mk p1 r21_3), true))
    (m_schema_Find_l1 p0 p1 fu_1 (IntKind.i64.wrap (y10_1 + 1))))
    (some ((GType.mk ([] : List UInt8) ([] : List GField)), false))
def m_schema_Find (p0 : (List GType)) (p1 : (List UInt8)) : Option (GType × Bool) :=
  m_schema_Find_l1 p0 p1 1152921504606846976 0

def m_schema_Check_l2 (p0 : (List GType)) : Nat → Int → Option Int
  | 0, _ => none
  | fu_2 + 1, y13_2 =>
    cond (decide (y13_2 < ((List.length p0 : Nat) : Int)))
    (Option.bind (geti p0 y13_2) fun x16_3 =>
    Option.bind (m_schema_Type_check x16_3) fun r19_4 =>
    cond (decide (r19_4 ≠ 0))
    (some r19_4)
    (Option.bind (cut p0 0 y13_2) fun s26_5 =>
    Option.bind (m_schema_Find s26_5 x16_3.Name) fun r29_5 =>
    cond r29_5.2
    (some 21)
    (m_schema_Check_l2 p0 fu_2 (IntKind.i64.wrap (y13_2 + 1)))))
    (some 0)
def m_schema_Check (p0 : (List GType)) : Option Int :=
  cond (decide ((8 : Int) < ((List.length p0 : Nat) : Int)))
  (some 5)
  (m_schema_Check_l2 p0 1152921504606846976 0)

def m_event_Event_ID (p0 : GEvent) : Option GID :=
  some (GID.mk p0.Time p0.Source p0.Seq)

def m_event_ID_may (p0 : GID) : Option Bool :=
  cond (decide ((0 : Int) ≤ p0.Time))
  (cond (decide (p0.Time ≤ 1099511627776))
  (cond (decide ((0 : Int) ≤ p0.Source))
  (cond (decide (p0.Source < 16))
  (cond (decide ((0 : Int) ≤ p0.Seq))
  (some (decide (p0.Seq ≤ 1099511627776)))
  (some false))
  (some false))
  (some false))
  (some false))
  (some false)

def m_value_core (p0 : GValue) : Option Value :=
  cond (decide (((p0.Kind.toNat : Nat) : Int) = 1))
  (some (Value.iface 142 (.int .i64 p0.N)))
  (cond (decide (((p0.Kind.toNat : Nat) : Int) = 2))
  (some (Value.iface 143 (.int .i64 p0.N)))
  (cond (decide (((p0.Kind.toNat : Nat) : Int) = 3))
  (some (Value.iface 144 (.int .u64 p0.Bits)))
  (cond (decide (((p0.Kind.toNat : Nat) : Int) = 4))
  (some (Value.iface 146 (.string (toS p0.Text))))
  (some Value.nilIface))))

def m_real_of (p0 : Int) : Option Nat :=
  some (Int.toNat p0)

def m_real_Clean (p0 : Int) : Option Int :=
  Option.bind (m_real_of p0) fun r5_0 =>
  cond (fne r5_0 r5_0)
  (some 9221120237041090560)
  (some p0)

def m_value_number_whole (p0 : Int) : Option GValue :=
  some (GValue.mk 1 p0 0 ([] : List UInt8))

def m_value_flag_whole (p0 : Int) : Option GValue :=
  some (GValue.mk 2 p0 0 ([] : List UInt8))

def m_value_double_whole (p0 : Int) : Option GValue :=
  some (GValue.mk 3 0 p0 ([] : List UInt8))

def m_value_words_whole (p0 : (List UInt8)) : Option GValue :=
  some (GValue.mk 4 0 0 p0)

def m_value_Check_j11 (y46_11 : Bool) : Option Int :=
  cond y46_11
  (some 2)
  (some 0)
def m_value_Check_j9 (p0 : GValue) (r10_0 : Value) : Option Int :=
  cond (isT 142 r10_0)
  (Option.bind (inI .i64 r10_0) fun n44_10_142 =>
  Option.bind (m_value_number_whole n44_10_142) fun r44_10_142 =>
  Option.bind (some ((!(decide (((r44_10_142.Kind.toNat : Nat) : Int) = ((p0.Kind.toNat : Nat) : Int)) && (decide (r44_10_142.N = p0.N) && (decide (r44_10_142.Bits = p0.Bits) && (decide (r44_10_142.Text = p0.Text) && true))))))) fun v46_10 =>
  m_value_Check_j11  v46_10)
  (cond (isT 143 r10_0)
  (Option.bind (inI .i64 r10_0) fun n44_10_143 =>
  Option.bind (m_value_flag_whole n44_10_143) fun r44_10_143 =>
  Option.bind (some ((!(decide (((r44_10_143.Kind.toNat : Nat) : Int) = ((p0.Kind.toNat : Nat) : Int)) && (decide (r44_10_143.N = p0.N) && (decide (r44_10_143.Bits = p0.Bits) && (decide (r44_10_143.Text = p0.Text) && true))))))) fun v46_10 =>
  m_value_Check_j11  v46_10)
  (cond (isT 144 r10_0)
  (Option.bind (inI .u64 r10_0) fun n44_10_144 =>
  Option.bind (m_value_double_whole n44_10_144) fun r44_10_144 =>
  Option.bind (some ((!(decide (((r44_10_144.Kind.toNat : Nat) : Int) = ((p0.Kind.toNat : Nat) : Int)) && (decide (r44_10_144.N = p0.N) && (decide (r44_10_144.Bits = p0.Bits) && (decide (r44_10_144.Text = p0.Text) && true))))))) fun v46_10 =>
  m_value_Check_j11  v46_10)
  (cond (isT 146 r10_0)
  (Option.bind (inS r10_0) fun n44_10_146 =>
  Option.bind (m_value_words_whole n44_10_146) fun r44_10_146 =>
  Option.bind (some ((!(decide (((r44_10_146.Kind.toNat : Nat) : Int) = ((p0.Kind.toNat : Nat) : Int)) && (decide (r44_10_146.N = p0.N) && (decide (r44_10_146.Bits = p0.Bits) && (decide (r44_10_146.Text = p0.Text) && true))))))) fun v46_10 =>
  m_value_Check_j11  v46_10)
  (none))))
def m_value_Check (p0 : GValue) : Option Int :=
  Option.bind (m_value_core p0) fun r10_0 =>
  Option.bind (tasI .i64 142 r10_0) fun z12_1 =>
  cond z12_1.2
  (cond (decide (z12_1.1 < (-4611686018427387904)))
  (some 8)
  (cond (decide ((4611686018427387904 : Int) < z12_1.1))
  (some 8)
  (m_value_Check_j9 p0 r10_0)))
  (Option.bind (tasI .i64 143 r10_0) fun z21_3 =>
  cond z21_3.2
  (cond (decide (z21_3.1 ≠ 0))
  (cond (decide (z21_3.1 ≠ 1))
  (some 8)
  (m_value_Check_j9 p0 r10_0))
  (m_value_Check_j9 p0 r10_0))
  (Option.bind (tasI .u64 144 r10_0) fun z30_5 =>
  cond z30_5.2
  (Option.bind (m_real_Clean z30_5.1) fun r34_6 =>
  cond (decide (r34_6 ≠ z30_5.1))
  (some 4)
  (m_value_Check_j9 p0 r10_0))
  (Option.bind (tasS 146 r10_0) fun z37_7 =>
  cond z37_7.2
  (cond (decide ((24 : Int) < ((List.length z37_7.1 : Nat) : Int)))
  (some 5)
  (m_value_Check_j9 p0 r10_0))
  (some 11))))

def m_schema_Fits_l2 (p0 : GType) (p1 : (List GValue)) : Nat → Int → Option Int
  | 0, _ => none
  | fu_2 + 1, y16_2 =>
    cond (decide (y16_2 < ((List.length p1 : Nat) : Int)))
    (Option.bind (geti p1 y16_2) fun x19_3 =>
    Option.bind (m_value_Check x19_3) fun r22_4 =>
    cond (decide (r22_4 ≠ 0))
    (some r22_4)
    (Option.bind (geti p0.Fields y16_2) fun x31_5 =>
    cond (decide (((x19_3.Kind.toNat : Nat) : Int) ≠ ((x31_5.Kind.toNat : Nat) : Int)))
    (some 19)
    (m_schema_Fits_l2 p0 p1 fu_2 (IntKind.i64.wrap (y16_2 + 1)))))
    (some 0)
def m_schema_Fits (p0 : GType) (p1 : (List GValue)) : Option Int :=
  cond (decide (((List.length p1 : Nat) : Int) ≠ ((List.length p0.Fields : Nat) : Int)))
  (some 5)
  (m_schema_Fits_l2 p0 p1 1152921504606846976 0)

def m_event_Check (p0 : (List GType)) (p1 : GEvent) : Option Int :=
  Option.bind (m_schema_Check p0) fun r8_0 =>
  cond (decide (r8_0 ≠ 0))
  (some 2)
  (Option.bind (m_event_Event_ID p1) fun r11_1 =>
  Option.bind (m_event_ID_may r11_1) fun r12_1 =>
  cond (!r12_1)
  (some 8)
  (Option.bind (m_schema_Find p0 p1.Type_) fun r18_2 =>
  cond (!r18_2.2)
  (some 6)
  (Option.bind (m_schema_Fits r18_2.1 p1.Vals) fun r26_3 =>
  some r26_3)))

def m_event_Put_1 (p0 : GType) (p1 : GEvent) : Option Bool :=
  some (decide (p0.Name = p1.Type_))

def m_slices_IndexFunc_Type__event_Put_1_l1 (p0 : (List GType)) (p1c0 : GEvent) : Nat → Int → Option Int
  | 0, _ => none
  | fu_1 + 1, y8_1 =>
    cond (decide (y8_1 < ((List.length p0 : Nat) : Int)))
    (Option.bind (geti p0 y8_1) fun x14_2 =>
    Option.bind (m_event_Put_1 x14_2 p1c0) fun r16_2 =>
    cond r16_2
    (some y8_1)
    (m_slices_IndexFunc_Type__event_Put_1_l1 p0 p1c0 fu_1 (IntKind.i64.wrap (y8_1 + 1))))
    (some (-1))
def m_slices_IndexFunc_Type__event_Put_1 (p0 : (List GType)) (p1c0 : GEvent) : Option Int :=
  m_slices_IndexFunc_Type__event_Put_1_l1 p0 p1c0 1152921504606846976 0

def m_math_bits_Len64_j2 (y0_2 : Int) (y2_2 : Int) : Option Int :=
  Option.bind (geti ([0, 1, 2, 2, 3, 3, 3, 3, 4, 4, 4, 4, 4, 4, 4, 4, 5, 5, 5, 5, 5, 5, 5, 5, 5, 5, 5, 5, 5, 5, 5, 5, 6, 6, 6, 6, 6, 6, 6, 6, 6, 6, 6, 6, 6, 6, 6, 6, 6, 6, 6, 6, 6, 6, 6, 6, 6, 6, 6, 6, 6, 6, 6, 6, 7, 7, 7, 7, 7, 7, 7, 7, 7, 7, 7, 7, 7, 7, 7, 7, 7, 7, 7, 7, 7, 7, 7, 7, 7, 7, 7, 7, 7, 7, 7, 7, 7, 7, 7, 7, 7, 7, 7, 7, 7, 7, 7, 7, 7, 7, 7, 7, 7, 7, 7, 7, 7, 7, 7, 7, 7, 7, 7, 7, 7, 7, 7, 7, 8, 8, 8, 8, 8, 8, 8, 8, 8, 8, 8, 8, 8, 8, 8, 8, 8, 8, 8, 8, 8, 8, 8, 8, 8, 8, 8, 8, 8, 8, 8, 8, 8, 8, 8, 8, 8, 8, 8, 8, 8, 8, 8, 8, 8, 8, 8, 8, 8, 8, 8, 8, 8, 8, 8, 8, 8, 8, 8, 8, 8, 8, 8, 8, 8, 8, 8, 8, 8, 8, 8, 8, 8, 8, 8, 8, 8, 8, 8, 8, 8, 8, 8, 8, 8, 8, 8, 8, 8, 8, 8, 8, 8, 8, 8, 8, 8, 8, 8, 8, 8, 8, 8, 8, 8, 8, 8, 8, 8, 8, 8, 8, 8, 8, 8, 8, 8, 8, 8, 8, 8, 8, 8, 8, 8, 8, 8, 8] : List UInt8) (((toU8 y0_2).toNat : Nat) : Int)) fun x22_3 =>
  some (IntKind.i64.wrap (y2_2 + ((x22_3.toNat : Nat) : Int)))
def m_math_bits_Len64_j1 (y0_1 : Int) (y2_1 : Int) : Option Int :=
  cond (decide ((256 : Int) ≤ y0_1))
  (m_math_bits_Len64_j2  (Int.fdiv y0_1 (2 ^ 8)) (IntKind.i64.wrap (y2_1 + 8)))
  (m_math_bits_Len64_j2  y0_1 y2_1)
def m_math_bits_Len64_j0 (y0_0 : Int) (y2_0 : Int) : Option Int :=
  cond (decide ((65536 : Int) ≤ y0_0))
  (m_math_bits_Len64_j1  (Int.fdiv y0_0 (2 ^ 16)) (IntKind.i64.wrap (y2_0 + 16)))
  (m_math_bits_Len64_j1  y0_0 y2_0)
def m_math_bits_Len64 (p0 : Int) : Option Int :=
  cond (decide ((4294967296 : Int) ≤ p0))
  (m_math_bits_Len64_j0  (Int.fdiv p0 (2 ^ 32)) 32)
  (m_math_bits_Len64_j0  p0 0)

def m_zig_Size (p0 : Int) : Option Int :=
  Option.bind (m_math_bits_Len64 p0) fun r4_0 =>
  some (max 1 (IntKind.i64.wrap (Int.tdiv (IntKind.i64.wrap ((IntKind.i64.wrap (r4_0 + 7)) - 1)) 7)))

def m_zig_Put_j5 (y20_3 : Int) (y6_3 : List UInt8) (k_m_zig_Put_l3 : (List UInt8) → Int → Option (List UInt8)) (y8_5 : UInt8) : Option (List UInt8) :=
  Option.bind (app y6_3 ([y8_5] : List UInt8)) fun a38_5 =>
  k_m_zig_Put_l3 a38_5 (IntKind.i64.wrap (y20_3 + 1))
def m_zig_Put_l3 (p1 : Int) (r10_0 : Int) : Nat → (List UInt8) → Int → Option (List UInt8)
  | 0, _, _ => none
  | fu_3 + 1, y6_3, y20_3 =>
    cond (decide (y20_3 < r10_0))
    (chk (0 ≤ (IntKind.i64.wrap (7 * y20_3)) ∧ (IntKind.i64.wrap (7 * y20_3)) ≤ 64) (
    Option.bind (some ((toU8 (((BitVec.ofInt 8 (((toU8 (Int.fdiv p1 (2 ^ (Int.toNat (IntKind.i64.wrap (7 * y20_3)))))).toNat : Nat) : Int) ||| BitVec.ofInt 8 128).toNat : Int))))) fun v28_4 =>
    cond (decide (y20_3 = (IntKind.i64.wrap (r10_0 - 1))))
    (m_zig_Put_j5 y20_3 y6_3 (fun y6_3 y20_3 => m_zig_Put_l3 p1 r10_0 fu_3 y6_3 y20_3) (toU8 (((BitVec.ofInt 8 ((v28_4.toNat : Nat) : Int) &&& ~~~ BitVec.ofInt 8 128).toNat : Int))))
    (m_zig_Put_j5 y20_3 y6_3 (fun y6_3 y20_3 => m_zig_Put_l3 p1 r10_0 fu_3 y6_3 y20_3) v28_4)))
    (some y6_3)
def m_zig_Put (p0 : (List UInt8)) (p1 : Int) : Option (List UInt8) :=
  Option.bind (m_zig_Size p1) fun r10_0 =>
  Option.bind (mkc 0 (IntKind.i64.wrap (((List.length p0 : Nat) : Int) + r10_0)) (0 : UInt8)) fun m15_1 =>
  Option.bind (app m15_1 p0) fun a18_2 =>
  m_zig_Put_l3 p1 r10_0 1152921504606846976 a18_2 0

def m_zig_Fold (p0 : Int) : Option Int :=
  Option.bind (some ((IntKind.u64.wrap (((BitVec.ofInt 64 (IntKind.u64.wrap ((IntKind.u64.wrap p0) * 2 ^ 1)) ^^^ BitVec.ofInt 64 (IntKind.u64.wrap (Int.fdiv p0 (2 ^ 63)))).toNat : Int))))) fun v9_0 =>
  some v9_0

def m_zig_PutInt (p0 : (List UInt8)) (p1 : Int) : Option (List UInt8) :=
  Option.bind (m_zig_Fold p1) fun r7_0 =>
  Option.bind (m_zig_Put p0 r7_0) fun r8_0 =>
  some r8_0

def m_octet_grown (p0 : (List UInt8)) (p1 : Int) : Option (List UInt8) :=
  Option.bind (mkl (IntKind.i64.wrap (((List.length p0 : Nat) : Int) + p1)) (0 : UInt8)) fun m10_0 =>
  Option.bind (cpy m10_0 p0) fun c13_1 =>
  some c13_1

def m_octet_lay_l1 (p1 : Int) : Nat → (List UInt8) → Int → Int → Option (List UInt8)
  | 0, _, _, _ => none
  | fu_1 + 1, y0_1, y2_1, y6_1 =>
    cond (decide ((IntKind.i64.wrap (((List.length y0_1 : Nat) : Int) - p1)) ≤ y6_1))
    (Option.bind (geti y0_1 y6_1) fun x22_3 =>
    m_octet_lay_l1 p1 fu_1 (List.set y0_1 (Int.toNat y6_1) (toU8 y2_1)) (Int.fdiv y2_1 (2 ^ 8)) (IntKind.i64.wrap (y6_1 - 1)))
    (some y0_1)
def m_octet_lay (p0 : (List UInt8)) (p1 : Int) (p2 : Int) : Option (List UInt8) :=
  m_octet_lay_l1 p1 1152921504606846976 p0 p2 (IntKind.i64.wrap (((List.length p0 : Nat) : Int) - 1))

def m_octet_Word (p0 : (List UInt8)) (p1 : Int) : Option (List UInt8) :=
  Option.bind (m_octet_grown p0 8) fun r7_0 =>
  Option.bind (m_octet_lay r7_0 8 p1) fun r10_1 =>
  some r10_1

def m_value_Put (p0 : (List UInt8)) (p1 : GValue) : Option ((List UInt8) × Int) :=
  Option.bind (m_value_Check p1) fun r9_0 =>
  cond (decide (r9_0 ≠ 0))
  (some (([] : List UInt8), r9_0))
  (Option.bind (mkc ((List.length p0 : Nat) : Int) (IntKind.i64.wrap (((List.length p0 : Nat) : Int) + 1)) (0 : UInt8)) fun m18_1 =>
  Option.bind (cpy m18_1 p0) fun c21_2 =>
  Option.bind (app c21_2 ([p1.Kind] : List UInt8)) fun a26_3 =>
  cond (decide (((p1.Kind.toNat : Nat) : Int) = 1))
  (Option.bind (m_zig_PutInt a26_3 p1.N) fun r34_4 =>
  some (r34_4, 0))
  (cond (decide (((p1.Kind.toNat : Nat) : Int) = 2))
  (Option.bind (app a26_3 ([(toU8 p1.N)] : List UInt8)) fun a42_5 =>
  some (a42_5, 0))
  (cond (decide (((p1.Kind.toNat : Nat) : Int) = 3))
  (Option.bind (m_octet_Word a26_3 p1.Bits) fun r48_6 =>
  some (r48_6, 0))
  (Option.bind (m_zig_Put a26_3 (IntKind.u64.wrap ((List.length p1.Text : Nat) : Int))) fun r54_7 =>
  Option.bind (app r54_7 p1.Text) fun a57_7 =>
  some (a57_7, 0)))))

def m_event_Put_l6 (p2 : GEvent) : Nat → (List UInt8) → Int → Option ((List UInt8) × Int)
  | 0, _, _ => none
  | fu_6 + 1, y0_6, y44_6 =>
    cond (decide (y44_6 < ((List.length p2.Vals : Nat) : Int)))
    (Option.bind (geti p2.Vals y44_6) fun x46_7 =>
    Option.bind (m_value_Put y0_6 x46_7) fun r51_8 =>
    cond (decide (r51_8.2 ≠ 0))
    (some (([] : List UInt8), r51_8.2))
    (m_event_Put_l6 p2 fu_6 r51_8.1 (IntKind.i64.wrap (y44_6 + 1))))
    (some (y0_6, 0))
def m_event_Put_l2 (p2 : GEvent) (r24_1 : Int) : Nat → (List UInt8) → Int → Option ((List UInt8) × Int)
  | 0, _, _ => none
  | fu_2 + 1, y0_2, y33_2 =>
    cond (decide (y33_2 < 4))
    (Option.bind (geti ([p2.Time, p2.Source, p2.Seq, r24_1] : List Int) y33_2) fun x35_4 =>
    Option.bind (m_zig_Put y0_2 (IntKind.u64.wrap x35_4)) fun r39_3 =>
    m_event_Put_l2 p2 r24_1 fu_2 r39_3 (IntKind.i64.wrap (y33_2 + 1)))
    (m_event_Put_l6 p2 1152921504606846976 y0_2 0)
def m_event_Put (p0 : (List UInt8)) (p1 : (List GType)) (p2 : GEvent) : Option ((List UInt8) × Int) :=
  Option.bind (m_event_Check p1 p2) fun r18_0 =>
  cond (decide (r18_0 ≠ 0))
  (some (([] : List UInt8), r18_0))
  (Option.bind (m_slices_IndexFunc_Type__event_Put_1 p1 p2) fun r24_1 =>
  m_event_Put_l2 p2 r24_1 1152921504606846976 p0 0)

def m_zig_Take_j8 (p1 : Int) (x30_3 : UInt8) (y17_1 : Int) (y4_1 : Int) (k_m_zig_Take_l1 : Int → Int → Option (Int × Int × Int)) : Option (Int × Int × Int) :=
  Option.bind (some ((((toU8 (((BitVec.ofInt 8 ((x30_3.toNat : Nat) : Int) &&& ~~~ BitVec.ofInt 8 128).toNat : Int))).toNat : Nat) : Int))) fun v46_4 =>
  chk (0 ≤ (IntKind.i64.wrap (7 * y17_1)) ∧ (IntKind.i64.wrap (7 * y17_1)) ≤ 64) (
  Option.bind (some ((IntKind.u64.wrap (((BitVec.ofInt 64 y4_1 ||| BitVec.ofInt 64 (IntKind.u64.wrap (v46_4 * 2 ^ (Int.toNat (IntKind.i64.wrap (7 * y17_1)))))).toNat : Int))))) fun v50_4 =>
  cond (decide (((x30_3.toNat : Nat) : Int) < 128))
  (some (v50_4, (IntKind.i64.wrap ((IntKind.i64.wrap (p1 + y17_1)) + 1)), 0))
  (k_m_zig_Take_l1 v50_4 (IntKind.i64.wrap (y17_1 + 1))))
def m_zig_Take_j6 (p1 : Int) (x30_3 : UInt8) (y17_1 : Int) (y4_1 : Int) (k_m_zig_Take_l1 : Int → Int → Option (Int × Int × Int)) : Option (Int × Int × Int) :=
  cond (decide ((0 : Int) < y17_1))
  (cond (decide (((x30_3.toNat : Nat) : Int) = 0))
  (some (0, 0, 4))
  (m_zig_Take_j8 p1 x30_3 y17_1 y4_1 k_m_zig_Take_l1))
  (m_zig_Take_j8 p1 x30_3 y17_1 y4_1 k_m_zig_Take_l1)
def m_zig_Take_l1 (p0 : (List UInt8)) (p1 : Int) : Nat → Int → Int → Option (Int × Int × Int)
  | 0, _, _ => none
  | fu_1 + 1, y4_1, y17_1 =>
    cond (decide (y17_1 < 10))
    (cond (decide (((List.length p0 : Nat) : Int) ≤ (IntKind.i64.wrap (p1 + y17_1))))
    (some (0, 0, 3))
    (Option.bind (geti p0 (IntKind.i64.wrap (p1 + y17_1))) fun x30_3 =>
    cond (decide (y17_1 = 9))
    (cond (decide ((1 : Int) < ((x30_3.toNat : Nat) : Int)))
    (some (0, 0, 8))
    (m_zig_Take_j6 p1 x30_3 y17_1 y4_1 (fun y4_1 y17_1 => m_zig_Take_l1 p0 p1 fu_1 y4_1 y17_1)))
    (m_zig_Take_j6 p1 x30_3 y17_1 y4_1 (fun y4_1 y17_1 => m_zig_Take_l1 p0 p1 fu_1 y4_1 y17_1))))
    (some (0, 0, 8))
def m_zig_Take (p0 : (List UInt8)) (p1 : Int) : Option (Int × Int × Int) :=
  cond (decide (p1 < 0))
  (some (0, 0, 2))
  (cond (decide (((List.length p0 : Nat) : Int) < p1))
  (some (0, 0, 2))
  (m_zig_Take_l1 p0 p1 1152921504606846976 0 0))

def m_event_numbers_l0 (p0 : (List UInt8)) : Nat → Int → GArr4_Int_ → Int → Option (GArr4_Int_ × Int × Int)
  | 0, _, _, _ => none
  | fu_0 + 1, y1_0, y4_d_0, y11_0 =>
    cond (decide (y11_0 < 4))
    (Option.bind (m_zig_Take p0 y1_0) fun r17_1 =>
    cond (decide (r17_1.2.2 ≠ 0))
    (some (y4_d_0, 0, r17_1.2.2))
    (cond (decide (y11_0 = 0))
    (m_event_numbers_l0 p0 fu_0 r17_1.2.1 (GArr4_Int_.mk r17_1.1 y4_d_0.a1 y4_d_0.a2 y4_d_0.a3) (IntKind.i64.wrap (y11_0 + 1)))
    (cond (decide (y11_0 = 1))
    (m_event_numbers_l0 p0 fu_0 r17_1.2.1 (GArr4_Int_.mk y4_d_0.a0 r17_1.1 y4_d_0.a2 y4_d_0.a3) (IntKind.i64.wrap (y11_0 + 1)))
    (cond (decide (y11_0 = 2))
    (m_event_numbers_l0 p0 fu_0 r17_1.2.1 (GArr4_Int_.mk y4_d_0.a0 y4_d_0.a1 r17_1.1 y4_d_0.a3) (IntKind.i64.wrap (y11_0 + 1)))
    (cond (decide (y11_0 = 3))
    (m_event_numbers_l0 p0 fu_0 r17_1.2.1 (GArr4_Int_.mk y4_d_0.a0 y4_d_0.a1 y4_d_0.a2 r17_1.1) (IntKind.i64.wrap (y11_0 + 1)))
    (none))))))
    (some (y4_d_0, y1_0, 0))
def m_event_numbers (p0 : (List UInt8)) (p1 : Int) : Option (GArr4_Int_ × Int × Int) :=
  m_event_numbers_l0 p0 1152921504606846976 p1 (GArr4_Int_.mk 0 0 0 0) 0

def m_event_number (p0 : Int) (p1 : Int) : Option Int :=
  cond (decide ((IntKind.u64.wrap p1) < p0))
  (some (-1))
  (some (IntKind.i64.wrap p0))

def m_zig_Back (p0 : Int) : Option Int :=
  Option.bind (some ((IntKind.i64.wrap (0 - (IntKind.i64.wrap (IntKind.u64.wrap (((BitVec.ofInt 64 p0 &&& BitVec.ofInt 64 1).toNat : Int)))))))) fun v9_0 =>
  Option.bind (some ((IntKind.i64.wrap (((BitVec.ofInt 64 (IntKind.i64.wrap (Int.fdiv p0 (2 ^ 1))) ^^^ BitVec.ofInt 64 v9_0).toNat : Int))))) fun v10_0 =>
  some v10_0

def m_zig_TakeInt (p0 : (List UInt8)) (p1 : Int) : Option (Int × Int × Int) :=
  Option.bind (m_zig_Take p0 p1) fun r11_0 =>
  Option.bind (m_zig_Back r11_0.1) fun r16_1 =>
  some (r16_1, r11_0.2.1, r11_0.2.2)

def m_octet_Open (p0 : (List UInt8)) : Option GReader :=
  some (GReader.mk p0 0 0)

def m_octet_Reader_Left (p0 : GReader) : Option Int :=
  cond (decide (p0.At < 0))
  (some 0)
  (cond (decide (((List.length p0.Text : Nat) : Int) < p0.At))
  (some 0)
  (some (IntKind.i64.wrap (((List.length p0.Text : Nat) : Int) - p0.At))))

def m_octet_Reader_fail (p0 : GReader) (p1 : Int) : Option GReader :=
  cond (decide (p0.E = 0))
  (some (GReader.mk p0.Text p0.At p1))
  (some p0)

def m_octet_Reader_take_l4 (p0 : GReader) (p1 : Int) (s28_3 : List UInt8) : Nat → Int → Int → Option (GReader × Int)
  | 0, _, _ => none
  | fu_4 + 1, y6_4, y31_4 =>
    cond (decide (y31_4 < ((List.length s28_3 : Nat) : Int)))
    (Option.bind (geti s28_3 y31_4) fun x33_5 =>
    Option.bind (some ((IntKind.u64.wrap (((BitVec.ofInt 64 (IntKind.u64.wrap (y6_4 * 2 ^ 8)) ||| BitVec.ofInt 64 ((x33_5.toNat : Nat) : Int)).toNat : Int))))) fun v39_6 =>
    m_octet_Reader_take_l4 p0 p1 s28_3 fu_4 v39_6 (IntKind.i64.wrap (y31_4 + 1)))
    (some ((GReader.mk p0.Text (IntKind.i64.wrap (p0.At + p1)) p0.E), y6_4))
def m_octet_Reader_take (p0 : GReader) (p1 : Int) : Option (GReader × Int) :=
  cond (decide (p0.E ≠ 0))
  (Option.bind (m_octet_Reader_fail p0 3) fun r19_1 =>
  some (r19_1, 0))
  (Option.bind (m_octet_Reader_Left p0) fun r14_0 =>
  cond (decide (r14_0 < p1))
  (Option.bind (m_octet_Reader_fail p0 3) fun r19_2 =>
  some (r19_2, 0))
  (Option.bind (cut p0.Text p0.At (IntKind.i64.wrap (p0.At + p1))) fun s28_3 =>
  chk (List.length s28_3 ≤ 1000000000) (
  m_octet_Reader_take_l4 p0 p1 s28_3 1152921504606846976 0 0)))

def m_octet_Reader_Word (p0 : GReader) : Option (GReader × Int) :=
  Option.bind (m_octet_Reader_take p0 8) fun r5_0 =>
  some (r5_0.1, r5_0.2)

def m_value_body (p0 : UInt8) (p1 : (List UInt8)) (p2 : Int) : Option (GValue × Int × Int) :=
  cond (decide (((p0.toNat : Nat) : Int) = 1))
  (Option.bind (m_zig_TakeInt p1 p2) fun r26_0 =>
  some ((GValue.mk p0 r26_0.1 0 ([] : List UInt8)), r26_0.2.1, r26_0.2.2))
  (cond (decide (((p0.toNat : Nat) : Int) = 2))
  (cond (decide (p2 = ((List.length p1 : Nat) : Int)))
  (some ((GValue.mk p0 0 0 ([] : List UInt8)), 0, 3))
  (Option.bind (geti p1 p2) fun x44_2 =>
  some ((GValue.mk p0 ((x44_2.toNat : Nat) : Int) 0 ([] : List UInt8)), (IntKind.i64.wrap (p2 + 1)), 0)))
  (cond (decide (((p0.toNat : Nat) : Int) = 3))
  (Option.bind (cut p1 p2 ((List.length p1 : Nat) : Int)) fun s55_3 =>
  Option.bind (m_octet_Open s55_3) fun r56_3 =>
  Option.bind (m_octet_Reader_Word r56_3) fun r57_3 =>
  some ((GValue.mk p0 0 r57_3.2 ([] : List UInt8)), (IntKind.i64.wrap (p2 + r57_3.1.At)), r57_3.1.E))
  (cond (decide (((p0.toNat : Nat) : Int) = 4))
  (Option.bind (m_zig_Take p1 p2) fun r74_4 =>
  cond (decide (r74_4.2.2 ≠ 0))
  (some ((GValue.mk p0 0 0 ([] : List UInt8)), 0, r74_4.2.2))
  (cond (decide ((24 : Int) < r74_4.1))
  (some ((GValue.mk p0 0 0 ([] : List UInt8)), 0, 5))
  (cond (decide ((IntKind.i64.wrap (((List.length p1 : Nat) : Int) - r74_4.2.1)) < (IntKind.i64.wrap r74_4.1)))
  (some ((GValue.mk p0 0 0 ([] : List UInt8)), 0, 3))
  (Option.bind (cut p1 r74_4.2.1 (IntKind.i64.wrap (r74_4.2.1 + (IntKind.i64.wrap r74_4.1)))) fun s99_6 =>
  some ((GValue.mk p0 0 0 s99_6), (IntKind.i64.wrap (r74_4.2.1 + (IntKind.i64.wrap r74_4.1))), 0)))))
  (some ((GValue.mk p0 0 0 ([] : List UInt8)), 0, 11)))))

def m_value_Take_j4 (r28_2 : (GValue × Int × Int)) (y6_4 : Int) : Option (GValue × Int × Int) :=
  cond (decide (y6_4 ≠ 0))
  (some ((GValue.mk 0 0 0 ([] : List UInt8)), 0, y6_4))
  (some (r28_2.1, r28_2.2.1, 0))
def m_value_Take (p0 : (List UInt8)) (p1 : Int) : Option (GValue × Int × Int) :=
  cond (decide (p1 < 0))
  (some ((GValue.mk 0 0 0 ([] : List UInt8)), 0, 2))
  (cond (decide (((List.length p0 : Nat) : Int) < p1))
  (some ((GValue.mk 0 0 0 ([] : List UInt8)), 0, 2))
  (cond (decide (p1 = ((List.length p0 : Nat) : Int)))
  (some ((GValue.mk 0 0 0 ([] : List UInt8)), 0, 3))
  (Option.bind (geti p0 p1) fun x24_2 =>
  Option.bind (m_value_body x24_2 p0 (IntKind.i64.wrap (p1 + 1))) fun r28_2 =>
  cond (decide (r28_2.2.2 = 0))
  (Option.bind (m_value_Check r28_2.1) fun r35_3 =>
  m_value_Take_j4 r28_2 r35_3)
  (m_value_Take_j4 r28_2 r28_2.2.2))))

def m_event_Take_j1 : Option (GEvent × Int × Int) :=
  some ((GEvent.mk 0 0 0 ([] : List UInt8) ([] : List GValue)), 0, 2)
def m_event_Take_l7 (p0 : (List GType)) (p1 : (List UInt8)) (r55_5 : Int) (r58_5 : Int) (r61_5 : Int) (x51_4 : GType) : Nat → (List GValue) → Int → Int → Option (GEvent × Int × Int)
  | 0, _, _, _ => none
  | fu_7 + 1, y6_d_4_7, y7_7, y68_7 =>
    cond (decide (y68_7 < ((List.length x51_4.Fields : Nat) : Int)))
    (Option.bind (m_value_Take p1 y7_7) fun r73_8 =>
    cond (decide (r73_8.2.2 ≠ 0))
    (some ((GEvent.mk 0 0 0 ([] : List UInt8) ([] : List GValue)), 0, r73_8.2.2))
    (Option.bind (app y6_d_4_7 ([r73_8.1] : List GValue)) fun a85_9 =>
    m_event_Take_l7 p0 p1 r55_5 r58_5 r61_5 x51_4 fu_7 a85_9 r73_8.2.1 (IntKind.i64.wrap (y68_7 + 1))))
    (Option.bind (m_event_Check p0 (GEvent.mk r55_5 r58_5 r61_5 x51_4.Name y6_d_4_7)) fun r91_10 =>
    cond (decide (r91_10 ≠ 0))
    (some ((GEvent.mk 0 0 0 ([] : List UInt8) ([] : List GValue)), 0, r91_10))
    (some ((GEvent.mk r55_5 r58_5 r61_5 x51_4.Name y6_d_4_7), y7_7, 0)))
def m_event_Take (p0 : (List GType)) (p1 : (List UInt8)) (p2 : Int) : Option (GEvent × Int × Int) :=
  Option.bind (m_schema_Check p0) fun r17_0 =>
  cond (decide (r17_0 ≠ 0))
  (m_event_Take_j1 )
  (cond (decide (p2 < 0))
  (m_event_Take_j1 )
  (cond (decide (((List.length p1 : Nat) : Int) < p2))
  (some ((GEvent.mk 0 0 0 ([] : List UInt8) ([] : List GValue)), 0, 2))
  (Option.bind (m_event_numbers p1 p2) fun r33_2 =>
  cond (decide (r33_2.2.2 ≠ 0))
  (some ((GEvent.mk 0 0 0 ([] : List UInt8) ([] : List GValue)), 0, r33_2.2.2))
  (cond (decide ((IntKind.u64.wrap ((List.length p0 : Nat) : Int)) ≤ r33_2.1.a3))
  (some ((GEvent.mk 0 0 0 ([] : List UInt8) ([] : List GValue)), 0, 6))
  (Option.bind (geti p0 r33_2.1.a3) fun x51_4 =>
  Option.bind (m_event_number r33_2.1.a0 1099511627776) fun r55_5 =>
  Option.bind (m_event_number r33_2.1.a1 15) fun r58_5 =>
  Option.bind (m_event_number r33_2.1.a2 1099511627776) fun r61_5 =>
  m_event_Take_l7 p0 p1 r55_5 r58_5 r61_5 x51_4 1152921504606846976 ([] : List GValue) r33_2.2.1 0)))))

def m_event_Event_Value (p0 : GEvent) (p1 : (List GType)) (p2 : (List UInt8)) : Option (GValue × Bool) :=
  Option.bind (m_schema_Find p1 p0.Type_) fun r16_0 =>
  Option.bind (m_schema_Type_Field r16_0.1 p2) fun r22_1 =>
  cond (decide (r22_1.1 < 0))
  (some ((GValue.mk 0 0 0 ([] : List UInt8)), false))
  (cond (decide (((List.length p0.Vals : Nat) : Int) ≤ r22_1.1))
  (some ((GValue.mk 0 0 0 ([] : List UInt8)), false))
  (Option.bind (geti p0.Vals r22_1.1) fun x38_3 =>
  some (x38_3, true)))

def m_slices_Clone_Value (p0 : (List GValue)) : Option (List GValue) :=
  Option.bind (app ([] : List GValue) p0) fun a7_0 =>
  some a7_0

def m_event_clone (p0 : GEvent) : Option GEvent :=
  Option.bind (m_slices_Clone_Value p0.Vals) fun r5_0 =>
  some (GEvent.mk p0.Time p0.Source p0.Seq p0.Type_ r5_0)

def m_event_ID_Less (p0 : GID) (p1 : GID) : Option Bool :=
  cond (decide (p0.Time ≠ p1.Time))
  (some (decide (p0.Time < p1.Time)))
  (cond (decide (p0.Source ≠ p1.Source))
  (some (decide (p0.Source < p1.Source)))
  (some (decide (p0.Seq < p1.Seq))))

def m_event_order (p0 : GEvent) (p1 : GEvent) : Option Int :=
  Option.bind (m_event_Event_ID p0) fun r8_0 =>
  Option.bind (m_event_Event_ID p1) fun r10_0 =>
  Option.bind (some ((decide (r8_0.Time = r10_0.Time) && (decide (r8_0.Source = r10_0.Source) && (decide (r8_0.Seq = r10_0.Seq) && true))))) fun v13_1 =>
  cond v13_1
  (some 0)
  (Option.bind (m_event_ID_Less r8_0 r10_0) fun r16_2 =>
  cond r16_2
  (some (-1))
  (some 1))

def m_slices_insertionSortCmpFunc_event_Event__event_order_l1 (p1 : Int) (y8_0 : Int) (k_m_slices_insertionSortCmpFunc_event_Event__event_order_l0 : (List GEvent) → Int → Option (List GEvent)) : Nat → (List GEvent) → Int → Option (List GEvent)
  | 0, _, _ => none
  | fu_1 + 1, y0_1, y9_1 =>
    cond (decide (p1 < y9_1))
    (Option.bind (geti y0_1 y9_1) fun x25_2 =>
    Option.bind (geti y0_1 (IntKind.i64.wrap (y9_1 - 1))) fun x30_2 =>
    Option.bind (m_event_order x25_2 x30_2) fun r32_2 =>
    cond (decide (r32_2 < 0))
    (Option.bind (geti y0_1 (IntKind.i64.wrap (y9_1 - 1))) fun x45_3 =>
    Option.bind (geti y0_1 y9_1) fun x49_3 =>
    Option.bind (geti y0_1 y9_1) fun x51_3 =>
    Option.bind (geti (List.set y0_1 (Int.toNat y9_1) x45_3) (IntKind.i64.wrap (y9_1 - 1))) fun x52_3 =>
    m_slices_insertionSortCmpFunc_event_Event__event_order_l1 p1 y8_0 k_m_slices_insertionSortCmpFunc_event_Event__event_order_l0 fu_1 (List.set (List.set y0_1 (Int.toNat y9_1) x45_3) (Int.toNat (IntKind.i64.wrap (y9_1 - 1))) x49_3) (IntKind.i64.wrap (y9_1 - 1)))
    (k_m_slices_insertionSortCmpFunc_event_Event__event_order_l0 y0_1 (IntKind.i64.wrap (y8_0 + 1))))
    (k_m_slices_insertionSortCmpFunc_event_Event__event_order_l0 y0_1 (IntKind.i64.wrap (y8_0 + 1)))
def m_slices_insertionSortCmpFunc_event_Event__event_order_l0 (p1 : Int) (p2 : Int) : Nat → (List GEvent) → Int → Option (List GEvent)
  | 0, _, _ => none
  | fu_0 + 1, y0_0, y8_0 =>
    cond (decide (y8_0 < p2))
    (m_slices_insertionSortCmpFunc_event_Event__event_order_l1 p1 y8_0 (fun y0_0 y8_0 => m_slices_insertionSortCmpFunc_event_Event__event_order_l0 p1 p2 fu_0 y0_0 y8_0) 1152921504606846976 y0_0 y8_0)
    (some y0_0)
def m_slices_insertionSortCmpFunc_event_Event__event_order (p0 : (List GEvent)) (p1 : Int) (p2 : Int) : Option (List GEvent) :=
  m_slices_insertionSortCmpFunc_event_Event__event_order_l0 p1 p2 1152921504606846976 p0 (IntKind.i64.wrap (p1 + 1))

def m_slices_swapRangeCmpFunc_event_Event__event_order_l0 (p1 : Int) (p2 : Int) (p3 : Int) : Nat → (List GEvent) → Int → Option (List GEvent)
  | 0, _, _ => none
  | fu_0 + 1, y0_0, y10_0 =>
    cond (decide (y10_0 < p3))
    (Option.bind (geti y0_0 (IntKind.i64.wrap (p2 + y10_0))) fun x28_1 =>
    Option.bind (geti y0_0 (IntKind.i64.wrap (p1 + y10_0))) fun x34_1 =>
    Option.bind (geti y0_0 (IntKind.i64.wrap (p1 + y10_0))) fun x36_1 =>
    Option.bind (geti (List.set y0_0 (Int.toNat (IntKind.i64.wrap (p1 + y10_0))) x28_1) (IntKind.i64.wrap (p2 + y10_0))) fun x37_1 =>
    m_slices_swapRangeCmpFunc_event_Event__event_order_l0 p1 p2 p3 fu_0 (List.set (List.set y0_0 (Int.toNat (IntKind.i64.wrap (p1 + y10_0))) x28_1) (Int.toNat (IntKind.i64.wrap (p2 + y10_0))) x34_1) (IntKind.i64.wrap (y10_0 + 1)))
    (some y0_0)
def m_slices_swapRangeCmpFunc_event_Event__event_order (p0 : (List GEvent)) (p1 : Int) (p2 : Int) (p3 : Int) : Option (List GEvent) :=
  m_slices_swapRangeCmpFunc_event_Event__event_order_l0 p1 p2 p3 1152921504606846976 p0 0

def m_slices_rotateCmpFunc_event_Event__event_order_l0 (p2 : Int) : Nat → (List GEvent) → Int → Int → Option (List GEvent)
  | 0, _, _, _ => none
  | fu_0 + 1, y0_0, y10_0, y11_0 =>
    cond (decide (y10_0 ≠ y11_0))
    (cond (decide (y11_0 < y10_0))
    (Option.bind (m_slices_swapRangeCmpFunc_event_Event__event_order y0_0 (IntKind.i64.wrap (p2 - y10_0)) p2 y11_0) fun r31_1 =>
    m_slices_rotateCmpFunc_event_Event__event_order_l0 p2 fu_0 r31_1 (IntKind.i64.wrap (y10_0 - y11_0)) y11_0)
    (Option.bind (m_slices_swapRangeCmpFunc_event_Event__event_order y0_0 (IntKind.i64.wrap (p2 - y10_0)) (IntKind.i64.wrap ((IntKind.i64.wrap (p2 + y11_0)) - y10_0)) y10_0) fun r46_2 =>
    m_slices_rotateCmpFunc_event_Event__event_order_l0 p2 fu_0 r46_2 y10_0 (IntKind.i64.wrap (y11_0 - y10_0))))
    (Option.bind (m_slices_swapRangeCmpFunc_event_Event__event_order y0_0 (IntKind.i64.wrap (p2 - y10_0)) p2 y10_0) fun r57_3 =>
    some r57_3)
def m_slices_rotateCmpFunc_event_Event__event_order (p0 : (List GEvent)) (p1 : Int) (p2 : Int) (p3 : Int) : Option (List GEvent) :=
  m_slices_rotateCmpFunc_event_Event__event_order_l0 p2 1152921504606846976 p0 (IntKind.i64.wrap (p2 - p1)) (IntKind.i64.wrap (p3 - p2))

def m_slices_symMergeCmpFunc_event_Event__event_order_l4 (y10_0 : Int) : Nat → (List GEvent) → Int → Option (List GEvent)
  | 0, _, _ => none
  | fu_4 + 1, y0_4, y13_4 =>
    cond (decide (y13_4 < (IntKind.i64.wrap (y10_0 - 1))))
    (Option.bind (geti y0_4 (IntKind.i64.wrap (y13_4 + 1))) fun x69_5 =>
    Option.bind (geti y0_4 y13_4) fun x73_5 =>
    Option.bind (geti y0_4 y13_4) fun x75_5 =>
    Option.bind (geti (List.set y0_4 (Int.toNat y13_4) x69_5) (IntKind.i64.wrap (y13_4 + 1))) fun x76_5 =>
    m_slices_symMergeCmpFunc_event_Event__event_order_l4 y10_0 fu_4 (List.set (List.set y0_4 (Int.toNat y13_4) x69_5) (Int.toNat (IntKind.i64.wrap (y13_4 + 1))) x73_5) (IntKind.i64.wrap (y13_4 + 1)))
    (some y0_4)
def m_slices_symMergeCmpFunc_event_Event__event_order_l0 (p0 : (List GEvent)) (p1 : Int) : Nat → Int → Int → Option (List GEvent)
  | 0, _, _ => none
  | fu_0 + 1, y10_0, y11_0 =>
    cond (decide (y10_0 < y11_0))
    (Option.bind (geti p0 (IntKind.i64.wrap (Int.fdiv (IntKind.u64.wrap (IntKind.i64.wrap (y10_0 + y11_0))) (2 ^ 1)))) fun x43_2 =>
    Option.bind (geti p0 p1) fun x47_2 =>
    Option.bind (m_event_order x43_2 x47_2) fun r49_2 =>
    cond (decide (r49_2 < 0))
    (Option.bind (some ((IntKind.i64.wrap ((IntKind.i64.wrap (Int.fdiv (IntKind.u64.wrap (IntKind.i64.wrap (y10_0 + y11_0))) (2 ^ 1))) + 1)))) fun v52_3 =>
    m_slices_symMergeCmpFunc_event_Event__event_order_l0 p0 p1 fu_0 v52_3 y11_0)
    (m_slices_symMergeCmpFunc_event_Event__event_order_l0 p0 p1 fu_0 y10_0 (IntKind.i64.wrap (Int.fdiv (IntKind.u64.wrap (IntKind.i64.wrap (y10_0 + y11_0))) (2 ^ 1)))))
    (m_slices_symMergeCmpFunc_event_Event__event_order_l4 y10_0 1152921504606846976 p0 p1)
def m_slices_symMergeCmpFunc_event_Event__event_order_l10 (y14_6 : Int) : Nat → (List GEvent) → Int → Option (List GEvent)
  | 0, _, _ => none
  | fu_10 + 1, y0_10, y17_10 =>
    cond (decide (y14_6 < y17_10))
    (Option.bind (geti y0_10 (IntKind.i64.wrap (y17_10 - 1))) fun x121_11 =>
    Option.bind (geti y0_10 y17_10) fun x125_11 =>
    Option.bind (geti y0_10 y17_10) fun x127_11 =>
    Option.bind (geti (List.set y0_10 (Int.toNat y17_10) x121_11) (IntKind.i64.wrap (y17_10 - 1))) fun x128_11 =>
    m_slices_symMergeCmpFunc_event_Event__event_order_l10 y14_6 fu_10 (List.set (List.set y0_10 (Int.toNat y17_10) x121_11) (Int.toNat (IntKind.i64.wrap (y17_10 - 1))) x125_11) (IntKind.i64.wrap (y17_10 - 1)))
    (some y0_10)
def m_slices_symMergeCmpFunc_event_Event__event_order_l6 (p0 : (List GEvent)) (p2 : Int) : Nat → Int → Int → Option (List GEvent)
  | 0, _, _ => none
  | fu_6 + 1, y14_6, y15_6 =>
    cond (decide (y14_6 < y15_6))
    (Option.bind (geti p0 p2) fun x95_8 =>
    Option.bind (geti p0 (IntKind.i64.wrap (Int.fdiv (IntKind.u64.wrap (IntKind.i64.wrap (y14_6 + y15_6))) (2 ^ 1)))) fun x99_8 =>
    Option.bind (m_event_order x95_8 x99_8) fun r101_8 =>
    cond (!decide (r101_8 < 0))
    (Option.bind (some ((IntKind.i64.wrap ((IntKind.i64.wrap (Int.fdiv (IntKind.u64.wrap (IntKind.i64.wrap (y14_6 + y15_6))) (2 ^ 1))) + 1)))) fun v105_9 =>
    m_slices_symMergeCmpFunc_event_Event__event_order_l6 p0 p2 fu_6 v105_9 y15_6)
    (m_slices_symMergeCmpFunc_event_Event__event_order_l6 p0 p2 fu_6 y14_6 (IntKind.i64.wrap (Int.fdiv (IntKind.u64.wrap (IntKind.i64.wrap (y14_6 + y15_6))) (2 ^ 1)))))
    (m_slices_symMergeCmpFunc_event_Event__event_order_l10 y14_6 1152921504606846976 p0 p2)
def m_slices_symMergeCmpFunc_event_Event__event_order_j24 (p1 : Int) (p3 : Int) (v137_13 : Int) (y20_15 : Int) (k_rec : (List GEvent) → Int → Int → Int → Option (List GEvent)) (y0_24 : List GEvent) : Option (List GEvent) :=
  Option.bind (some (decide ((IntKind.i64.wrap (Int.fdiv (IntKind.u64.wrap (IntKind.i64.wrap (p1 + p3))) (2 ^ 1))) < (IntKind.i64.wrap (v137_13 - y20_15))))) fun v208_25 =>
  cond v208_25
  (cond (decide ((IntKind.i64.wrap (v137_13 - y20_15)) < p3))
  (Option.bind (k_rec y0_24 (IntKind.i64.wrap (Int.fdiv (IntKind.u64.wrap (IntKind.i64.wrap (p1 + p3))) (2 ^ 1))) (IntKind.i64.wrap (v137_13 - y20_15)) p3) fun r219_26 =>
  some r219_26)
  (some y0_24))
  (some y0_24)
def m_slices_symMergeCmpFunc_event_Event__event_order_j21 (p1 : Int) (p3 : Int) (v137_13 : Int) (y20_15 : Int) (k_rec : (List GEvent) → Int → Int → Int → Option (List GEvent)) (y0_21 : List GEvent) : Option (List GEvent) :=
  cond (decide (p1 < y20_15))
  (cond (decide (y20_15 < (IntKind.i64.wrap (Int.fdiv (IntKind.u64.wrap (IntKind.i64.wrap (p1 + p3))) (2 ^ 1)))))
  (Option.bind (k_rec y0_21 p1 y20_15 (IntKind.i64.wrap (Int.fdiv (IntKind.u64.wrap (IntKind.i64.wrap (p1 + p3))) (2 ^ 1)))) fun r205_23 =>
  m_slices_symMergeCmpFunc_event_Event__event_order_j24 p1 p3 v137_13 y20_15 k_rec r205_23)
  (m_slices_symMergeCmpFunc_event_Event__event_order_j24 p1 p3 v137_13 y20_15 k_rec y0_21))
  (m_slices_symMergeCmpFunc_event_Event__event_order_j24 p1 p3 v137_13 y20_15 k_rec y0_21)
def m_slices_symMergeCmpFunc_event_Event__event_order_l15 (p0 : (List GEvent)) (p1 : Int) (p2 : Int) (p3 : Int) (v137_13 : Int) (k_rec : (List GEvent) → Int → Int → Int → Option (List GEvent)) : Nat → Int → Int → Option (List GEvent)
  | 0, _, _ => none
  | fu_15 + 1, y20_15, y21_15 =>
    cond (decide (y20_15 < y21_15))
    (Option.bind (some ((IntKind.i64.wrap ((IntKind.i64.wrap (v137_13 - 1)) - (IntKind.i64.wrap (Int.fdiv (IntKind.u64.wrap (IntKind.i64.wrap (y20_15 + y21_15))) (2 ^ 1))))))) fun v162_17 =>
    Option.bind (geti p0 v162_17) fun x163_17 =>
    Option.bind (geti p0 (IntKind.i64.wrap (Int.fdiv (IntKind.u64.wrap (IntKind.i64.wrap (y20_15 + y21_15))) (2 ^ 1)))) fun x167_17 =>
    Option.bind (m_event_order x163_17 x167_17) fun r169_17 =>
    cond (!decide (r169_17 < 0))
    (Option.bind (some ((IntKind.i64.wrap ((IntKind.i64.wrap (Int.fdiv (IntKind.u64.wrap (IntKind.i64.wrap (y20_15 + y21_15))) (2 ^ 1))) + 1)))) fun v173_18 =>
    m_slices_symMergeCmpFunc_event_Event__event_order_l15 p0 p1 p2 p3 v137_13 k_rec fu_15 v173_18 y21_15)
    (m_slices_symMergeCmpFunc_event_Event__event_order_l15 p0 p1 p2 p3 v137_13 k_rec fu_15 y20_15 (IntKind.i64.wrap (Int.fdiv (IntKind.u64.wrap (IntKind.i64.wrap (y20_15 + y21_15))) (2 ^ 1)))))
    (cond (decide (y20_15 < p2))
    (cond (decide (p2 < (IntKind.i64.wrap (v137_13 - y20_15))))
    (Option.bind (m_slices_rotateCmpFunc_event_Event__event_order p0 y20_15 p2 (IntKind.i64.wrap (v137_13 - y20_15))) fun r191_20 =>
    m_slices_symMergeCmpFunc_event_Event__event_order_j21 p1 p3 v137_13 y20_15 k_rec r191_20)
    (m_slices_symMergeCmpFunc_event_Event__event_order_j21 p1 p3 v137_13 y20_15 k_rec p0))
    (m_slices_symMergeCmpFunc_event_Event__event_order_j21 p1 p3 v137_13 y20_15 k_rec p0))
def m_slices_symMergeCmpFunc_event_Event__event_order_j14 (p0 : (List GEvent)) (p1 : Int) (p2 : Int) (p3 : Int) (v137_13 : Int) (k_rec : (List GEvent) → Int → Int → Int → Option (List GEvent)) (y20_14 : Int) (y21_14 : Int) : Option (List GEvent) :=
  m_slices_symMergeCmpFunc_event_Event__event_order_l15 p0 p1 p2 p3 v137_13 k_rec 1152921504606846976 y20_14 y21_14
def m_slices_symMergeCmpFunc_event_Event__event_order : Nat → (List GEvent) → Int → Int → Int → Option (List GEvent)
  | 0, _, _, _, _ => none
  | fuR + 1, p0, p1, p2, p3 =>
    cond (decide ((IntKind.i64.wrap (p2 - p1)) = 1))
    (m_slices_symMergeCmpFunc_event_Event__event_order_l0 p0 p1 1152921504606846976 p2 p3)
    (cond (decide ((IntKind.i64.wrap (p3 - p2)) = 1))
    (m_slices_symMergeCmpFunc_event_Event__event_order_l6 p0 p2 1152921504606846976 p1 p2)
    (Option.bind (some ((IntKind.i64.wrap ((IntKind.i64.wrap (Int.fdiv (IntKind.u64.wrap (IntKind.i64.wrap (p1 + p3))) (2 ^ 1))) + p2)))) fun v137_13 =>
    cond (decide ((IntKind.i64.wrap (Int.fdiv (IntKind.u64.wrap (IntKind.i64.wrap (p1 + p3))) (2 ^ 1))) < p2))
    (m_slices_symMergeCmpFunc_event_Event__event_order_j14 p0 p1 p2 p3 v137_13 (fun p0 p1 p2 p3 => m_slices_symMergeCmpFunc_event_Event__event_order fuR p0 p1 p2 p3) (IntKind.i64.wrap (v137_13 - p3)) (IntKind.i64.wrap (Int.fdiv (IntKind.u64.wrap (IntKind.i64.wrap (p1 + p3))) (2 ^ 1))))
    (m_slices_symMergeCmpFunc_event_Event__event_order_j14 p0 p1 p2 p3 v137_13 (fun p0 p1 p2 p3 => m_slices_symMergeCmpFunc_event_Event__event_order fuR p0 p1 p2 p3) p1 p2)))

def m_slices_stableCmpFunc_event_Event__event_order_l4 (p1 : Int) (y6_3 : Int) (k_m_slices_stableCmpFunc_event_Event__event_order_l3 : (List GEvent) → Int → Option (List GEvent)) : Nat → (List GEvent) → Int → Int → Option (List GEvent)
  | 0, _, _, _ => none
  | fu_4 + 1, y0_4, y7_4, y8_4 =>
    cond (decide (y8_4 ≤ p1))
    (Option.bind (m_slices_symMergeCmpFunc_event_Event__event_order 1152921504606846976 y0_4 y7_4 (IntKind.i64.wrap (y7_4 + y6_3)) y8_4) fun r43_5 =>
    m_slices_stableCmpFunc_event_Event__event_order_l4 p1 y6_3 k_m_slices_stableCmpFunc_event_Event__event_order_l3 fu_4 r43_5 y8_4 (IntKind.i64.wrap (y8_4 + (IntKind.i64.wrap (2 * y6_3)))))
    (cond (decide ((IntKind.i64.wrap (y7_4 + y6_3)) < p1))
    (Option.bind (m_slices_symMergeCmpFunc_event_Event__event_order 1152921504606846976 y0_4 y7_4 (IntKind.i64.wrap (y7_4 + y6_3)) p1) fun r60_6 =>
    k_m_slices_stableCmpFunc_event_Event__event_order_l3 r60_6 (IntKind.i64.wrap (y6_3 * 2)))
    (k_m_slices_stableCmpFunc_event_Event__event_order_l3 y0_4 (IntKind.i64.wrap (y6_3 * 2))))
def m_slices_stableCmpFunc_event_Event__event_order_l3 (p1 : Int) : Nat → (List GEvent) → Int → Option (List GEvent)
  | 0, _, _ => none
  | fu_3 + 1, y0_3, y6_3 =>
    cond (decide (y6_3 < p1))
    (m_slices_stableCmpFunc_event_Event__event_order_l4 p1 y6_3 (fun y0_3 y6_3 => m_slices_stableCmpFunc_event_Event__event_order_l3 p1 fu_3 y0_3 y6_3) 1152921504606846976 y0_3 0 (IntKind.i64.wrap (2 * y6_3)))
    (some y0_3)
def m_slices_stableCmpFunc_event_Event__event_order_l0 (p1 : Int) : Nat → (List GEvent) → Int → Int → Option (List GEvent)
  | 0, _, _, _ => none
  | fu_0 + 1, y0_0, y7_0, y8_0 =>
    cond (decide (y8_0 ≤ p1))
    (Option.bind (m_slices_insertionSortCmpFunc_event_Event__event_order y0_0 y7_0 y8_0) fun r18_1 =>
    m_slices_stableCmpFunc_event_Event__event_order_l0 p1 fu_0 r18_1 y8_0 (IntKind.i64.wrap (y8_0 + 20)))
    (Option.bind (m_slices_insertionSortCmpFunc_event_Event__event_order y0_0 y7_0 p1) fun r27_2 =>
    m_slices_stableCmpFunc_event_Event__event_order_l3 p1 1152921504606846976 r27_2 20)
def m_slices_stableCmpFunc_event_Event__event_order (p0 : (List GEvent)) (p1 : Int) : Option (List GEvent) :=
  m_slices_stableCmpFunc_event_Event__event_order_l0 p1 1152921504606846976 p0 0 20

def m_slices_SortStableFunc_Event__event_order (p0 : (List GEvent)) : Option (List GEvent) :=
  Option.bind (m_slices_stableCmpFunc_event_Event__event_order p0 ((List.length p0 : Nat) : Int)) fun r8_0 =>
  some r8_0

def m_event_Sort_l1 (p0 : (List GEvent)) : Nat → (List GEvent) → Int → Option (List GEvent)
  | 0, _, _ => none
  | fu_1 + 1, y3_1, y8_1 =>
    cond (decide (y8_1 < ((List.length p0 : Nat) : Int)))
    (Option.bind (geti p0 y8_1) fun x10_2 =>
    Option.bind (m_event_clone x10_2) fun r14_3 =>
    Option.bind (app y3_1 ([r14_3] : List GEvent)) fun a16_3 =>
    m_event_Sort_l1 p0 fu_1 a16_3 (IntKind.i64.wrap (y8_1 + 1)))
    (Option.bind (m_slices_SortStableFunc_Event__event_order y3_1) fun r19_4 =>
    some r19_4)
def m_event_Sort (p0 : (List GEvent)) : Option (List GEvent) :=
  m_event_Sort_l1 p0 1152921504606846976 ([] : List GEvent) 0

def m_value_OfInt (p0 : Int) : Option GValue :=
  some (GValue.mk 1 (max (-4611686018427387904) (min p0 4611686018427387904)) 0 ([] : List UInt8))

def m_event_Sorted_l0 (p0 : (List GEvent)) : Nat → Int → Option Bool
  | 0, _ => none
  | fu_0 + 1, y3_0 =>
    cond (decide (y3_0 < ((List.length p0 : Nat) : Int)))
    (Option.bind (geti p0 (IntKind.i64.wrap (y3_0 - 1))) fun x13_2 =>
    Option.bind (geti p0 y3_0) fun x17_2 =>
    Option.bind (m_event_order x13_2 x17_2) fun r19_2 =>
    cond (decide ((0 : Int) ≤ r19_2))
    (some false)
    (m_event_Sorted_l0 p0 fu_0 (IntKind.i64.wrap (y3_0 + 1))))
    (some true)
def m_event_Sorted (p0 : (List GEvent)) : Option Bool :=
  m_event_Sorted_l0 p0 1152921504606846976 1

def m_telltalelaw07_awake : Option Bool :=
  Option.bind (m_event_Put ([] : List UInt8) ([(GType.mk ([115, 116, 111, 112] : List UInt8) ([] : List GField)), (GType.mk ([98, 117, 121] : List UInt8) ([(GField.mk ([110] : List UInt8) 1)] : List GField))] : List GType) (GEvent.mk 5 0 1 ([115, 116, 111, 112] : List UInt8) ([] : List GValue))) fun r21_0 =>
  Option.bind (m_event_Take ([(GType.mk ([115, 116, 111, 112] : List UInt8) ([] : List GField)), (GType.mk ([98, 117, 121] : List UInt8) ([(GField.mk ([110] : List UInt8) 1)] : List GField))] : List GType) ([7, 1, 0, 1, 1, 6] : List UInt8) 0) fun r26_1 =>
  Option.bind (m_event_Take ([(GType.mk ([115, 116, 111, 112] : List UInt8) ([] : List GField)), (GType.mk ([98, 117, 121] : List UInt8) ([(GField.mk ([110] : List UInt8) 1)] : List GField))] : List GType) ([7, 1, 0, 2] : List UInt8) 0) fun r32_2 =>
  Option.bind (m_event_Event_Value r26_1.1 ([(GType.mk ([115, 116, 111, 112] : List UInt8) ([] : List GField)), (GType.mk ([98, 117, 121] : List UInt8) ([(GField.mk ([110] : List UInt8) 1)] : List GField))] : List GType) ([110] : List UInt8)) fun r39_3 =>
  Option.bind (m_event_Sort ([(GEvent.mk 2 0 0 ([] : List UInt8) ([] : List GValue)), (GEvent.mk 1 1 0 ([] : List UInt8) ([] : List GValue)), (GEvent.mk 1 0 3 ([] : List UInt8) ([] : List GValue))] : List GEvent)) fun r46_4 =>
  cond (decide (r21_0.2 = 0))
  (cond (decide (r21_0.1 = ([5, 0, 1, 0] : List UInt8)))
  (cond (decide (r26_1.2.2 = 0))
  (cond (decide (r26_1.2.1 = 6))
  (cond r39_3.2
  (Option.bind (m_value_OfInt 3) fun r67_5 =>
  Option.bind (some ((decide (((r39_3.1.Kind.toNat : Nat) : Int) = ((r67_5.Kind.toNat : Nat) : Int)) && (decide (r39_3.1.N = r67_5.N) && (decide (r39_3.1.Bits = r67_5.Bits) && (decide (r39_3.1.Text = r67_5.Text) && true)))))) fun v68_5 =>
  cond v68_5
  (cond (decide (r32_2.2.2 = 6))
  (cond (decide (((List.length r46_4 : Nat) : Int) = 3))
  (Option.bind (geti r46_4 0) fun x81_5 =>
  cond (decide (x81_5.Seq = 3))
  (Option.bind (m_event_Sorted r46_4) fun r88_5 =>
  cond r88_5
  (Option.bind (m_event_Check ([(GType.mk ([115, 116, 111, 112] : List UInt8) ([] : List GField)), (GType.mk ([98, 117, 121] : List UInt8) ([(GField.mk ([110] : List UInt8) 1)] : List GField))] : List GType) (GEvent.mk 0 0 0 ([115, 101, 108, 108] : List UInt8) ([] : List GValue))) fun r93_5 =>
  cond (decide (r93_5 = 6))
  (Option.bind (m_event_Event_ID r26_1.1) fun r98_5 =>
  cond (decide (r98_5.Time = 7) && (decide (r98_5.Source = 1) && (decide (r98_5.Seq = 0) && true)))
  (some true)
  (some false))
  (some false))
  (some false))
  (some false))
  (some false))
  (some false))
  (some false))
  (some false))
  (some false))
  (some false))
  (some false))
  (some false)

def m_telltalelaw06_Own_l3 (p0 : (List GType)) (x15_2 : GType) (y3_0 : List GType) (y4_0 : Int) (k_m_telltalelaw06_Own_l0 : (List GType) → Int → Option (List GType)) : Nat → (List GField) → Int → Option (List GType)
  | 0, _, _ => none
  | fu_3 + 1, y5_d_1_3, y6_3 =>
    Option.bind (geti p0 y4_0) fun x22_4 =>
    cond (decide (y6_3 < ((List.length x22_4.Fields : Nat) : Int)))
    (Option.bind (geti p0 y4_0) fun x33_5 =>
    Option.bind (geti x33_5.Fields y6_3) fun x37_5 =>
    Option.bind (app y5_d_1_3 ([x37_5] : List GField)) fun a40_5 =>
    m_telltalelaw06_Own_l3 p0 x15_2 y3_0 y4_0 k_m_telltalelaw06_Own_l0 fu_3 a40_5 (IntKind.i64.wrap (y6_3 + 1)))
    (Option.bind (app y3_0 ([(GType.mk x15_2.Name y5_d_1_3)] : List GType)) fun a45_6 =>
    k_m_telltalelaw06_Own_l0 a45_6 (IntKind.i64.wrap (y4_0 + 1)))
def m_telltalelaw06_Own_l0 (p0 : (List GType)) : Nat → (List GType) → Int → Option (List GType)
  | 0, _, _ => none
  | fu_0 + 1, y3_0, y4_0 =>
    cond (decide (y4_0 < ((List.length p0 : Nat) : Int)))
    (Option.bind (geti p0 y4_0) fun x15_2 =>
    m_telltalelaw06_Own_l3 p0 x15_2 y3_0 y4_0 (fun y3_0 y4_0 => m_telltalelaw06_Own_l0 p0 fu_0 y3_0 y4_0) 1152921504606846976 ([] : List GField) 0)
    (some y3_0)
def m_telltalelaw06_Own (p0 : (List GType)) : Option (List GType) :=
  m_telltalelaw06_Own_l0 p0 1152921504606846976 ([] : List GType) 0

def m_telltalelaw06_Vals_l0 (p0 : (List GValue)) : Nat → (List GValue) → Int → Option (List GValue)
  | 0, _, _ => none
  | fu_0 + 1, y3_0, y4_0 =>
    cond (decide (y4_0 < ((List.length p0 : Nat) : Int)))
    (Option.bind (geti p0 y4_0) fun x14_2 =>
    Option.bind (app y3_0 ([x14_2] : List GValue)) fun a17_2 =>
    m_telltalelaw06_Vals_l0 p0 fu_0 a17_2 (IntKind.i64.wrap (y4_0 + 1)))
    (some y3_0)
def m_telltalelaw06_Vals (p0 : (List GValue)) : Option (List GValue) :=
  m_telltalelaw06_Vals_l0 p0 1152921504606846976 ([] : List GValue) 0

def m_telltalelaw07_Own (p0 : GEvent) : Option GEvent :=
  Option.bind (m_telltalelaw06_Vals p0.Vals) fun r13_0 =>
  some (GEvent.mk p0.Time p0.Source p0.Seq p0.Type_ r13_0)

def m_telltaleref06_Reserved_l0 (p0 : (List UInt8)) : Nat → Int → Option Bool
  | 0, _ => none
  | fu_0 + 1, y4_0 =>
    Option.bind (some (((List.length ([([119, 105, 116, 104, 105, 110] : List UInt8), ([98, 121] : List UInt8), ([97, 110, 100] : List UInt8), ([111, 114] : List UInt8), ([110, 111, 116] : List UInt8), ([97, 110, 121] : List UInt8), ([110, 101, 120, 116] : List UInt8), ([115, 116, 114, 105, 99, 116] : List UInt8), ([116, 114, 117, 101] : List UInt8), ([102, 97, 108, 115, 101] : List UInt8)] : List (List UInt8)) : Nat) : Int))) fun v8_2 =>
    cond (decide (y4_0 < v8_2))
    (Option.bind (geti ([([119, 105, 116, 104, 105, 110] : List UInt8), ([98, 121] : List UInt8), ([97, 110, 100] : List UInt8), ([111, 114] : List UInt8), ([110, 111, 116] : List UInt8), ([97, 110, 121] : List UInt8), ([110, 101, 120, 116] : List UInt8), ([115, 116, 114, 105, 99, 116] : List UInt8), ([116, 114, 117, 101] : List UInt8), ([102, 97, 108, 115, 101] : List UInt8)] : List (List UInt8)) y4_0) fun x14_3 =>
    cond (decide (x14_3 = p0))
    (some true)
    (m_telltaleref06_Reserved_l0 p0 fu_0 (IntKind.i64.wrap (y4_0 + 1))))
    (some false)
def m_telltaleref06_Reserved (p0 : (List UInt8)) : Option Bool :=
  m_telltaleref06_Reserved_l0 p0 1152921504606846976 0

def m_telltaleref06_Name_j1 : Option Bool :=
  some false
def m_telltaleref06_Name_j6 (x31_4 : UInt8) (y3_2 : Int) (k_m_telltaleref06_Name_l2 : Int → Option Bool) (y5_6 : Bool) : Option Bool :=
  cond (!decide (((x31_4.toNat : Nat) : Int) ≤ 122))
  (cond (decide (y3_2 = 0))
  (some false)
  (cond (!y5_6)
  (some false)
  (k_m_telltaleref06_Name_l2 (IntKind.i64.wrap (y3_2 + 1)))))
  (k_m_telltaleref06_Name_l2 (IntKind.i64.wrap (y3_2 + 1)))
def m_telltaleref06_Name_j11 (y3_2 : Int) (k_m_telltaleref06_Name_l2 : Int → Option Bool) : Option Bool :=
  k_m_telltaleref06_Name_l2 (IntKind.i64.wrap (y3_2 + 1))
def m_telltaleref06_Name_j10 (y3_2 : Int) (k_m_telltaleref06_Name_l2 : Int → Option Bool) (y5_10 : Bool) : Option Bool :=
  cond (decide (y3_2 = 0))
  (some false)
  (cond (!y5_10)
  (some false)
  (k_m_telltaleref06_Name_l2 (IntKind.i64.wrap (y3_2 + 1))))
def m_telltaleref06_Name_l2 (p0 : (List UInt8)) : Nat → Int → Option Bool
  | 0, _ => none
  | fu_2 + 1, y3_2 =>
    cond (decide (y3_2 < ((List.length p0 : Nat) : Int)))
    (Option.bind (geti p0 y3_2) fun x26_4 =>
    cond (decide ((97 : Int) ≤ ((x26_4.toNat : Nat) : Int)))
    (Option.bind (geti p0 y3_2) fun x31_4 =>
    Option.bind (geti p0 y3_2) fun x36_5 =>
    cond (decide ((48 : Int) ≤ ((x36_5.toNat : Nat) : Int)))
    (Option.bind (geti p0 y3_2) fun x41_5 =>
    cond (decide (((x41_5.toNat : Nat) : Int) ≤ 57))
    (cond (!decide (((x31_4.toNat : Nat) : Int) ≤ 122))
    (cond (decide (y3_2 = 0))
    (some false)
    (m_telltaleref06_Name_j11 y3_2 (fun y3_2 => m_telltaleref06_Name_l2 p0 fu_2 y3_2)))
    (m_telltaleref06_Name_j11 y3_2 (fun y3_2 => m_telltaleref06_Name_l2 p0 fu_2 y3_2)))
    (Option.bind (geti p0 y3_2) fun x47_5 =>
    m_telltaleref06_Name_j6 x31_4 y3_2 (fun y3_2 => m_telltaleref06_Name_l2 p0 fu_2 y3_2) (decide (((x47_5.toNat : Nat) : Int) = 95))))
    (Option.bind (geti p0 y3_2) fun x47_5 =>
    m_telltaleref06_Name_j6 x31_4 y3_2 (fun y3_2 => m_telltaleref06_Name_l2 p0 fu_2 y3_2) (decide (((x47_5.toNat : Nat) : Int) = 95))))
    (Option.bind (geti p0 y3_2) fun x36_9 =>
    cond (decide ((48 : Int) ≤ ((x36_9.toNat : Nat) : Int)))
    (Option.bind (geti p0 y3_2) fun x41_9 =>
    cond (decide (((x41_9.toNat : Nat) : Int) ≤ 57))
    (cond (decide (y3_2 = 0))
    (some false)
    (m_telltaleref06_Name_l2 p0 fu_2 (IntKind.i64.wrap (y3_2 + 1))))
    (Option.bind (geti p0 y3_2) fun x47_9 =>
    m_telltaleref06_Name_j10 y3_2 (fun y3_2 => m_telltaleref06_Name_l2 p0 fu_2 y3_2) (decide (((x47_9.toNat : Nat) : Int) = 95))))
    (Option.bind (geti p0 y3_2) fun x47_9 =>
    m_telltaleref06_Name_j10 y3_2 (fun y3_2 => m_telltaleref06_Name_l2 p0 fu_2 y3_2) (decide (((x47_9.toNat : Nat) : Int) = 95)))))
    (some true)
def m_telltaleref06_Name (p0 : (List UInt8)) : Option Bool :=
  cond (decide (((List.length p0 : Nat) : Int) < 1))
  (m_telltaleref06_Name_j1 )
  (cond (decide ((12 : Int) < ((List.length p0 : Nat) : Int)))
  (m_telltaleref06_Name_j1 )
  (Option.bind (m_telltaleref06_Reserved p0) fun r16_0 =>
  cond r16_0
  (some false)
  (m_telltaleref06_Name_l2 p0 1152921504606846976 0)))

def m_telltaleref04_Word (p0 : UInt8) : Option (List UInt8) :=
  cond (decide (((p0.toNat : Nat) : Int) = 1))
  (some ([105, 110, 116] : List UInt8))
  (cond (decide (((p0.toNat : Nat) : Int) = 2))
  (some ([102, 108, 97, 103] : List UInt8))
  (cond (decide (((p0.toNat : Nat) : Int) = 3))
  (some ([114, 101, 97, 108] : List UInt8))
  (cond (decide (((p0.toNat : Nat) : Int) = 4))
  (some ([116, 101, 120, 116] : List UInt8))
  (some ([] : List UInt8)))))

def m_telltaleref06_one_l7 (p0 : GType) (x24_4 : GField) (y3_2 : Int) (k_m_telltaleref06_one_l2 : Int → Option Int) : Nat → Int → Option Int
  | 0, _ => none
  | fu_7 + 1, y5_7 =>
    cond (decide (y5_7 < y3_2))
    (Option.bind (geti p0.Fields y5_7) fun x42_8 =>
    cond (decide (x42_8.Name = x24_4.Name))
    (some 21)
    (m_telltaleref06_one_l7 p0 x24_4 y3_2 k_m_telltaleref06_one_l2 fu_7 (IntKind.i64.wrap (y5_7 + 1))))
    (k_m_telltaleref06_one_l2 (IntKind.i64.wrap (y3_2 + 1)))
def m_telltaleref06_one_l2 (p0 : GType) : Nat → Int → Option Int
  | 0, _ => none
  | fu_2 + 1, y3_2 =>
    cond (decide (y3_2 < ((List.length p0.Fields : Nat) : Int)))
    (Option.bind (geti p0.Fields y3_2) fun x24_4 =>
    Option.bind (m_telltaleref06_Name x24_4.Name) fun r28_5 =>
    cond (!r28_5)
    (some 4)
    (Option.bind (m_telltaleref04_Word x24_4.Kind) fun r32_6 =>
    cond (decide (r32_6 = ([] : List UInt8)))
    (some 11)
    (m_telltaleref06_one_l7 p0 x24_4 y3_2 (fun y3_2 => m_telltaleref06_one_l2 p0 fu_2 y3_2) 1152921504606846976 0)))
    (some 0)
def m_telltaleref06_one (p0 : GType) : Option Int :=
  Option.bind (m_telltaleref06_Name p0.Name) fun r8_0 =>
  cond (!r8_0)
  (some 4)
  (cond (decide ((6 : Int) < ((List.length p0.Fields : Nat) : Int)))
  (some 5)
  (m_telltaleref06_one_l2 p0 1152921504606846976 0))

def m_telltaleref06_Check_l4 (p0 : (List GType)) (y3_1 : Int) (k_m_telltaleref06_Check_l1 : Int → Option Int) : Nat → Int → Option Int
  | 0, _ => none
  | fu_4 + 1, y5_4 =>
    cond (decide (y5_4 < y3_1))
    (Option.bind (geti p0 y5_4) fun x30_5 =>
    Option.bind (geti p0 y3_1) fun x35_5 =>
    cond (decide (x30_5.Name = x35_5.Name))
    (some 21)
    (m_telltaleref06_Check_l4 p0 y3_1 k_m_telltaleref06_Check_l1 fu_4 (IntKind.i64.wrap (y5_4 + 1))))
    (k_m_telltaleref06_Check_l1 (IntKind.i64.wrap (y3_1 + 1)))
def m_telltaleref06_Check_l1 (p0 : (List GType)) : Nat → Int → Option Int
  | 0, _ => none
  | fu_1 + 1, y3_1 =>
    cond (decide (y3_1 < ((List.length p0 : Nat) : Int)))
    (Option.bind (geti p0 y3_1) fun x17_3 =>
    Option.bind (m_telltaleref06_one x17_3) fun r19_3 =>
    cond (decide (r19_3 ≠ 0))
    (some r19_3)
    (m_telltaleref06_Check_l4 p0 y3_1 (fun y3_1 => m_telltaleref06_Check_l1 p0 fu_1 y3_1) 1152921504606846976 0))
    (some 0)
def m_telltaleref06_Check (p0 : (List GType)) : Option Int :=
  cond (decide ((8 : Int) < ((List.length p0 : Nat) : Int)))
  (some 5)
  (m_telltaleref06_Check_l1 p0 1152921504606846976 0)

def m_telltaleref06_Find_l0 (p0 : (List GType)) (p1 : (List UInt8)) : Nat → Int → Option (GType × Bool)
  | 0, _ => none
  | fu_0 + 1, y6_0 =>
    cond (decide (y6_0 < ((List.length p0 : Nat) : Int)))
    (Option.bind (geti p0 y6_0) fun x15_2 =>
    cond (decide (x15_2.Name = p1))
    (Option.bind (geti p0 y6_0) fun x22_3 =>
    some (x22_3, true))
    (m_telltaleref06_Find_l0 p0 p1 fu_0 (IntKind.i64.wrap (y6_0 + 1))))
    (some ((GType.mk ([] : List UInt8) ([] : List GField)), false))
def m_telltaleref06_Find (p0 : (List GType)) (p1 : (List UInt8)) : Option (GType × Bool) :=
  m_telltaleref06_Find_l0 p0 p1 1152921504606846976 0

def m_telltaleref03_Exp (p0 : Int) : Option Int :=
  some (IntKind.i64.wrap (Int.tmod (IntKind.u64.wrap (Int.tdiv p0 4503599627370496)) 2048))

def m_telltaleref03_Frac (p0 : Int) : Option Int :=
  some (Int.tmod p0 4503599627370496)

def m_telltaleref03_Kind_j1 (p0 : Int) : Option UInt8 :=
  Option.bind (m_telltaleref03_Exp p0) fun r12_2 =>
  cond (decide (r12_2 = 2047))
  (some 4)
  (Option.bind (m_telltaleref03_Exp p0) fun r15_3 =>
  cond (decide (r15_3 ≠ 0))
  (some 3)
  (Option.bind (m_telltaleref03_Frac p0) fun r18_4 =>
  cond (decide (r18_4 ≠ 0))
  (some 2)
  (some 1)))
def m_telltaleref03_Kind (p0 : Int) : Option UInt8 :=
  Option.bind (m_telltaleref03_Exp p0) fun r4_0 =>
  cond (decide (r4_0 = 2047))
  (Option.bind (m_telltaleref03_Frac p0) fun r8_0 =>
  cond (decide (r8_0 ≠ 0))
  (some 5)
  (m_telltaleref03_Kind_j1 p0))
  (m_telltaleref03_Kind_j1 p0)

def m_telltaleref03_Clean (p0 : Int) : Option Int :=
  Option.bind (m_telltaleref03_Kind p0) fun r4_0 =>
  cond (decide (((r4_0.toNat : Nat) : Int) = 5))
  (some 9221120237041090560)
  (some p0)

def m_telltaleref04_Check_j11 : Option Int :=
  some 2
def m_telltaleref04_Check_j12 (p0 : GValue) : Option Int :=
  cond (decide (p0.Text ≠ ([] : List UInt8)))
  (some 2)
  (some 0)
def m_telltaleref04_Check_j13 : Option Int :=
  some 0
def m_telltaleref04_Check_j9 (p0 : GValue) : Option Int :=
  cond (decide ((2 : Int) < ((p0.Kind.toNat : Nat) : Int)))
  (cond (decide (p0.N ≠ 0))
  (m_telltaleref04_Check_j11 )
  (cond (decide (((p0.Kind.toNat : Nat) : Int) ≠ 3))
  (cond (decide (p0.Bits ≠ 0))
  (m_telltaleref04_Check_j11 )
  (cond (decide (((p0.Kind.toNat : Nat) : Int) ≠ 4))
  (m_telltaleref04_Check_j12 p0)
  (m_telltaleref04_Check_j13 )))
  (cond (decide (((p0.Kind.toNat : Nat) : Int) ≠ 4))
  (m_telltaleref04_Check_j12 p0)
  (m_telltaleref04_Check_j13 ))))
  (cond (decide (((p0.Kind.toNat : Nat) : Int) ≠ 3))
  (cond (decide (p0.Bits ≠ 0))
  (m_telltaleref04_Check_j11 )
  (cond (decide (((p0.Kind.toNat : Nat) : Int) ≠ 4))
  (m_telltaleref04_Check_j12 p0)
  (m_telltaleref04_Check_j13 )))
  (cond (decide (((p0.Kind.toNat : Nat) : Int) ≠ 4))
  (m_telltaleref04_Check_j12 p0)
  (m_telltaleref04_Check_j13 )))
def m_telltaleref04_Check_j7 (p0 : GValue) : Option Int :=
  cond (decide (((p0.Kind.toNat : Nat) : Int) = 4))
  (cond (decide ((24 : Int) < ((List.length p0.Text : Nat) : Int)))
  (some 5)
  (m_telltaleref04_Check_j9 p0))
  (m_telltaleref04_Check_j9 p0)
def m_telltaleref04_Check_j5 (p0 : GValue) : Option Int :=
  cond (decide (((p0.Kind.toNat : Nat) : Int) = 3))
  (Option.bind (m_telltaleref03_Clean p0.Bits) fun r45_6 =>
  cond (decide (r45_6 ≠ p0.Bits))
  (some 4)
  (m_telltaleref04_Check_j7 p0))
  (m_telltaleref04_Check_j7 p0)
def m_telltaleref04_Check_j2 : Option Int :=
  some 8
def m_telltaleref04_Check_j3 (p0 : GValue) : Option Int :=
  cond (decide ((1 : Int) < p0.N))
  (some 8)
  (m_telltaleref04_Check_j5 p0)
def m_telltaleref04_Check_j4 (p0 : GValue) : Option Int :=
  m_telltaleref04_Check_j5 p0
def m_telltaleref04_Check (p0 : GValue) : Option Int :=
  cond (decide (((p0.Kind.toNat : Nat) : Int) < 1))
  (some 11)
  (cond (decide ((4 : Int) < ((p0.Kind.toNat : Nat) : Int)))
  (some 11)
  (cond (decide (((p0.Kind.toNat : Nat) : Int) = 1))
  (cond (decide (p0.N < (-4611686018427387904)))
  (m_telltaleref04_Check_j2 )
  (cond (decide ((4611686018427387904 : Int) < p0.N))
  (m_telltaleref04_Check_j2 )
  (cond (decide (((p0.Kind.toNat : Nat) : Int) = 2))
  (cond (decide (p0.N < 0))
  (m_telltaleref04_Check_j2 )
  (m_telltaleref04_Check_j3 p0))
  (m_telltaleref04_Check_j4 p0))))
  (cond (decide (((p0.Kind.toNat : Nat) : Int) = 2))
  (cond (decide (p0.N < 0))
  (m_telltaleref04_Check_j2 )
  (m_telltaleref04_Check_j3 p0))
  (m_telltaleref04_Check_j4 p0))))

def m_telltaleref06_Fits_l1 (p0 : GType) (p1 : (List GValue)) : Nat → Int → Option Int
  | 0, _ => none
  | fu_1 + 1, y5_1 =>
    cond (decide (y5_1 < ((List.length p1 : Nat) : Int)))
    (Option.bind (geti p1 y5_1) fun x21_3 =>
    Option.bind (m_telltaleref04_Check x21_3) fun r23_3 =>
    cond (decide (r23_3 ≠ 0))
    (some r23_3)
    (Option.bind (geti p1 y5_1) fun x29_4 =>
    Option.bind (geti p0.Fields y5_1) fun x35_4 =>
    cond (decide (((x29_4.Kind.toNat : Nat) : Int) ≠ ((x35_4.Kind.toNat : Nat) : Int)))
    (some 19)
    (m_telltaleref06_Fits_l1 p0 p1 fu_1 (IntKind.i64.wrap (y5_1 + 1)))))
    (some 0)
def m_telltaleref06_Fits (p0 : GType) (p1 : (List GValue)) : Option Int :=
  cond (decide (((List.length p1 : Nat) : Int) ≠ ((List.length p0.Fields : Nat) : Int)))
  (some 5)
  (m_telltaleref06_Fits_l1 p0 p1 1152921504606846976 0)

def m_telltaleref07_Check_j2 : Option Int :=
  some 8
def m_telltaleref07_Check (p0 : (List GType)) (p1 : GEvent) : Option Int :=
  Option.bind (m_telltaleref06_Check p0) fun r8_0 =>
  cond (decide (r8_0 ≠ 0))
  (some 2)
  (cond (decide (p1.Time < 0))
  (m_telltaleref07_Check_j2 )
  (cond (decide ((1099511627776 : Int) < p1.Time))
  (m_telltaleref07_Check_j2 )
  (cond (decide (p1.Source < 0))
  (m_telltaleref07_Check_j2 )
  (cond (decide ((16 : Int) ≤ p1.Source))
  (m_telltaleref07_Check_j2 )
  (cond (decide (p1.Seq < 0))
  (m_telltaleref07_Check_j2 )
  (cond (decide ((1099511627776 : Int) < p1.Seq))
  (some 8)
  (Option.bind (m_telltaleref06_Find p0 p1.Type_) fun r42_3 =>
  cond (!r42_3.2)
  (some 6)
  (Option.bind (m_telltaleref06_Fits r42_3.1 p1.Vals) fun r50_4 =>
  some r50_4))))))))

def m_telltaleref02_sevens_l1 : Nat → Int → (List Int) → Option (List Int)
  | 0, _, _ => none
  | fu_1 + 1, y0_1, y3_1 =>
    cond (decide ((0 : Int) < y0_1))
    (Option.bind (app y3_1 ([(IntKind.i64.wrap (Int.tmod y0_1 128))] : List Int)) fun a17_2 =>
    m_telltaleref02_sevens_l1 fu_1 (IntKind.u64.wrap (Int.tdiv y0_1 128)) a17_2)
    (some y3_1)
def m_telltaleref02_sevens (p0 : Int) : Option (List Int) :=
  m_telltaleref02_sevens_l1  1152921504606846976 (IntKind.u64.wrap (Int.tdiv p0 128)) ([(IntKind.i64.wrap (Int.tmod p0 128))] : List Int)

def m_telltaleref02_Put_l2 (r12_1 : (List Int)) : Nat → (List UInt8) → Int → Option (List UInt8)
  | 0, _, _ => none
  | fu_2 + 1, y5_2, y7_2 =>
    cond (decide (y7_2 < ((List.length r12_1 : Nat) : Int)))
    (cond (decide (y7_2 < (IntKind.i64.wrap (((List.length r12_1 : Nat) : Int) - 1))))
    (Option.bind (geti r12_1 y7_2) fun x27_5 =>
    Option.bind (app y5_2 ([(toU8 (IntKind.i64.wrap (128 + x27_5)))] : List UInt8)) fun a32_5 =>
    m_telltaleref02_Put_l2 r12_1 fu_2 a32_5 (IntKind.i64.wrap (y7_2 + 1)))
    (Option.bind (geti r12_1 y7_2) fun x36_6 =>
    Option.bind (app y5_2 ([(toU8 x36_6)] : List UInt8)) fun a40_6 =>
    m_telltaleref02_Put_l2 r12_1 fu_2 a40_6 (IntKind.i64.wrap (y7_2 + 1))))
    (some y5_2)
def m_telltaleref02_Put (p0 : (List UInt8)) (p1 : Int) : Option (List UInt8) :=
  Option.bind (app ([] : List UInt8) p0) fun a10_0 =>
  Option.bind (m_telltaleref02_sevens p1) fun r12_1 =>
  m_telltaleref02_Put_l2 r12_1 1152921504606846976 a10_0 0

def m_telltaleref07_place_l0 (p0 : (List GType)) (p1 : (List UInt8)) : Nat → Int → Option Int
  | 0, _ => none
  | fu_0 + 1, y5_0 =>
    cond (decide (y5_0 < ((List.length p0 : Nat) : Int)))
    (Option.bind (geti p0 y5_0) fun x14_2 =>
    cond (decide (x14_2.Name = p1))
    (some y5_0)
    (m_telltaleref07_place_l0 p0 p1 fu_0 (IntKind.i64.wrap (y5_0 + 1))))
    (some (-1))
def m_telltaleref07_place (p0 : (List GType)) (p1 : (List UInt8)) : Option Int :=
  m_telltaleref07_place_l0 p0 p1 1152921504606846976 0

def m_telltaleref02_Fold (p0 : Int) : Option Int :=
  cond (decide (p0 < 0))
  (Option.bind (some ((IntKind.u64.wrap ((IntKind.u64.wrap (2 * (IntKind.u64.wrap (IntKind.i64.wrap (0 - (IntKind.i64.wrap (p0 + 1))))))) + 1)))) fun v10_0 =>
  some v10_0)
  (some (IntKind.u64.wrap (2 * (IntKind.u64.wrap p0))))

def m_telltaleref01_Word_l0 (p0 : (List UInt8)) : Nat → Int → (List UInt8) → Int → Option (List UInt8)
  | 0, _, _, _ => none
  | fu_0 + 1, y1_0, y5_0, y6_0 =>
    cond (decide (y6_0 < 8))
    (Option.bind (app ([(toU8 (Int.tmod y1_0 256))] : List UInt8) y5_0) fun a16_1 =>
    m_telltaleref01_Word_l0 p0 fu_0 (IntKind.u64.wrap (Int.tdiv y1_0 256)) a16_1 (IntKind.i64.wrap (y6_0 + 1)))
    (Option.bind (app ([] : List UInt8) p0) fun a21_2 =>
    Option.bind (app a21_2 y5_0) fun a23_2 =>
    some a23_2)
def m_telltaleref01_Word (p0 : (List UInt8)) (p1 : Int) : Option (List UInt8) :=
  m_telltaleref01_Word_l0 p0 1152921504606846976 p1 ([] : List UInt8) 0

def m_telltaleref04_Put (p0 : (List UInt8)) (p1 : GValue) : Option ((List UInt8) × Int) :=
  Option.bind (m_telltaleref04_Check p1) fun r9_0 =>
  cond (decide (r9_0 ≠ 0))
  (some (([] : List UInt8), r9_0))
  (Option.bind (app ([] : List UInt8) p0) fun a15_1 =>
  Option.bind (app a15_1 ([p1.Kind] : List UInt8)) fun a19_1 =>
  cond (decide (((p1.Kind.toNat : Nat) : Int) = 1))
  (Option.bind (m_telltaleref02_Fold p1.N) fun r26_2 =>
  Option.bind (m_telltaleref02_Put a19_1 r26_2) fun r27_2 =>
  some (r27_2, 0))
  (cond (decide (((p1.Kind.toNat : Nat) : Int) = 2))
  (Option.bind (app a19_1 ([(toU8 p1.N)] : List UInt8)) fun a36_3 =>
  some (a36_3, 0))
  (cond (decide (((p1.Kind.toNat : Nat) : Int) = 3))
  (Option.bind (m_telltaleref01_Word a19_1 p1.Bits) fun r43_4 =>
  some (r43_4, 0))
  (Option.bind (m_telltaleref02_Put a19_1 (IntKind.u64.wrap ((List.length p1.Text : Nat) : Int))) fun r49_5 =>
  Option.bind (app r49_5 p1.Text) fun a52_5 =>
  some (a52_5, 0)))))

def m_telltaleref07_Put_l5 (p2 : GEvent) : Nat → (List UInt8) → Int → Option ((List UInt8) × Int)
  | 0, _, _ => none
  | fu_5 + 1, y0_5, y9_5 =>
    cond (decide (y9_5 < ((List.length p2.Vals : Nat) : Int)))
    (Option.bind (geti p2.Vals y9_5) fun x50_7 =>
    Option.bind (m_telltaleref04_Put y0_5 x50_7) fun r52_7 =>
    m_telltaleref07_Put_l5 p2 fu_5 r52_7.1 (IntKind.i64.wrap (y9_5 + 1)))
    (some (y0_5, 0))
def m_telltaleref07_Put (p0 : (List UInt8)) (p1 : (List GType)) (p2 : GEvent) : Option ((List UInt8) × Int) :=
  Option.bind (m_telltaleref07_Check p1 p2) fun r12_0 =>
  cond (decide (r12_0 ≠ 0))
  (some (([] : List UInt8), r12_0))
  (Option.bind (m_telltaleref02_Put p0 (IntKind.u64.wrap p2.Time)) fun r20_1 =>
  Option.bind (m_telltaleref02_Put r20_1 (IntKind.u64.wrap p2.Source)) fun r25_2 =>
  Option.bind (m_telltaleref02_Put r25_2 (IntKind.u64.wrap p2.Seq)) fun r30_3 =>
  Option.bind (m_telltaleref07_place p1 p2.Type_) fun r35_4 =>
  Option.bind (m_telltaleref02_Put r30_3 (IntKind.u64.wrap r35_4)) fun r37_4 =>
  m_telltaleref07_Put_l5 p2 1152921504606846976 r37_4 0)

def m_telltaleref06_At_l0 (p0 : GType) (p1 : (List UInt8)) : Nat → Int → Option (Int × UInt8)
  | 0, _ => none
  | fu_0 + 1, y6_0 =>
    cond (decide (y6_0 < ((List.length p0.Fields : Nat) : Int)))
    (Option.bind (geti p0.Fields y6_0) fun x17_2 =>
    cond (decide (x17_2.Name = p1))
    (Option.bind (geti p0.Fields y6_0) fun x26_3 =>
    some (y6_0, x26_3.Kind))
    (m_telltaleref06_At_l0 p0 p1 fu_0 (IntKind.i64.wrap (y6_0 + 1))))
    (some ((-1), 0))
def m_telltaleref06_At (p0 : GType) (p1 : (List UInt8)) : Option (Int × UInt8) :=
  m_telltaleref06_At_l0 p0 p1 1152921504606846976 0

def m_telltaleref07_Value (p0 : (List GType)) (p1 : GEvent) (p2 : (List UInt8)) : Option (GValue × Bool) :=
  Option.bind (m_telltaleref06_Find p0 p1.Type_) fun r16_0 =>
  Option.bind (m_telltaleref06_At r16_0.1 p2) fun r22_1 =>
  cond (decide (r22_1.1 < 0))
  (some ((GValue.mk 0 0 0 ([] : List UInt8)), false))
  (cond (decide (((List.length p1.Vals : Nat) : Int) ≤ r22_1.1))
  (some ((GValue.mk 0 0 0 ([] : List UInt8)), false))
  (Option.bind (geti p1.Vals r22_1.1) fun x38_3 =>
  some (x38_3, true)))

def m_telltalelaw07_EventChecks_j1 : Option Bool :=
  Option.bind m_telltalelaw07_awake fun r31_2 =>
  some r31_2
def m_telltalelaw07_EventChecks (p0 : (List GType)) (p1 : GEvent) (p2 : (List UInt8)) : Option Bool :=
  Option.bind (m_telltalelaw06_Over p0) fun r18_0 =>
  cond (decide ((0 : Int) < r18_0))
  (m_telltalelaw07_EventChecks_j1 )
  (Option.bind (m_telltalelaw07_Over ([p1] : List GEvent) 1) fun r23_0 =>
  cond (decide ((0 : Int) < r23_0))
  (m_telltalelaw07_EventChecks_j1 )
  (cond (decide ((40 : Int) < ((List.length p2 : Nat) : Int)))
  (Option.bind m_telltalelaw07_awake fun r31_3 =>
  some r31_3)
  (Option.bind (m_telltalelaw06_Own p0) fun r33_4 =>
  Option.bind (m_telltalelaw07_Own p1) fun r35_4 =>
  Option.bind (m_event_Put ([112] : List UInt8) r33_4 r35_4) fun r41_5 =>
  Option.bind (m_telltaleref07_Put ([112] : List UInt8) p0 p1) fun r49_6 =>
  Option.bind (m_event_Event_Value r35_4 r33_4 p2) fun r56_7 =>
  Option.bind (m_telltaleref07_Value p0 p1 p2) fun r63_8 =>
  Option.bind (m_event_Check r33_4 r35_4) fun r68_9 =>
  Option.bind (m_telltaleref07_Check p0 p1) fun r71_9 =>
  cond (decide (r68_9 = r71_9))
  (cond (decide (r41_5.1 = r49_6.1))
  (cond (decide (r41_5.2 = r49_6.2))
  (Option.bind (some ((decide (((r56_7.1.Kind.toNat : Nat) : Int) = ((r63_8.1.Kind.toNat : Nat) : Int)) && (decide (r56_7.1.N = r63_8.1.N) && (decide (r56_7.1.Bits = r63_8.1.Bits) && (decide (r56_7.1.Text = r63_8.1.Text) && true)))))) fun v88_9 =>
  cond v88_9
  (cond (decide (r56_7.2 = r63_8.2))
  (Option.bind m_telltalelaw07_awake fun r96_9 =>
  some r96_9)
  (some false))
  (some false))
  (some false))
  (some false))
  (some false))))

def m_telltaleref02_Take_j9 (p1 : Int) (x33_3 : UInt8) (y7_1 : Int) (y8_1 : Int) (y9_1 : Int) (k_m_telltaleref02_Take_l1 : Int → Int → Int → Option (Int × Int × Int)) : Option (Int × Int × Int) :=
  Option.bind (some ((IntKind.u64.wrap (y7_1 + (IntKind.u64.wrap ((IntKind.u64.wrap (Int.tmod ((x33_3.toNat : Nat) : Int) 128)) * y8_1)))))) fun v53_6 =>
  cond (decide (((x33_3.toNat : Nat) : Int) < 128))
  (some (v53_6, (IntKind.i64.wrap ((IntKind.i64.wrap (p1 + y9_1)) + 1)), 0))
  (k_m_telltaleref02_Take_l1 v53_6 (IntKind.u64.wrap (y8_1 * 128)) (IntKind.i64.wrap (y9_1 + 1)))
def m_telltaleref02_Take_j8 (p1 : Int) (x33_3 : UInt8) (y7_1 : Int) (y8_1 : Int) (y9_1 : Int) (k_m_telltaleref02_Take_l1 : Int → Int → Int → Option (Int × Int × Int)) : Option (Int × Int × Int) :=
  cond (decide (((x33_3.toNat : Nat) : Int) = 0))
  (cond (decide ((0 : Int) < y9_1))
  (some (0, 0, 4))
  (m_telltaleref02_Take_j9 p1 x33_3 y7_1 y8_1 y9_1 k_m_telltaleref02_Take_l1))
  (m_telltaleref02_Take_j9 p1 x33_3 y7_1 y8_1 y9_1 k_m_telltaleref02_Take_l1)
def m_telltaleref02_Take_l1 (p0 : (List UInt8)) (p1 : Int) : Nat → Int → Int → Int → Option (Int × Int × Int)
  | 0, _, _, _ => none
  | fu_1 + 1, y7_1, y8_1, y9_1 =>
    cond (decide (y9_1 < 10))
    (cond (decide ((IntKind.i64.wrap (((List.length p0 : Nat) : Int) - p1)) ≤ y9_1))
    (some (0, 0, 3))
    (Option.bind (geti p0 (IntKind.i64.wrap (p1 + y9_1))) fun x33_3 =>
    cond (decide (y9_1 = 9))
    (cond (decide ((1 : Int) < ((x33_3.toNat : Nat) : Int)))
    (some (0, 0, 8))
    (m_telltaleref02_Take_j8 p1 x33_3 y7_1 y8_1 y9_1 (fun y7_1 y8_1 y9_1 => m_telltaleref02_Take_l1 p0 p1 fu_1 y7_1 y8_1 y9_1)))
    (m_telltaleref02_Take_j8 p1 x33_3 y7_1 y8_1 y9_1 (fun y7_1 y8_1 y9_1 => m_telltaleref02_Take_l1 p0 p1 fu_1 y7_1 y8_1 y9_1))))
    (some (0, 0, 8))
def m_telltaleref02_Take (p0 : (List UInt8)) (p1 : Int) : Option (Int × Int × Int) :=
  cond (decide (p1 < 0))
  (some (0, 0, 2))
  (cond (decide (((List.length p0 : Nat) : Int) < p1))
  (some (0, 0, 2))
  (m_telltaleref02_Take_l1 p0 p1 1152921504606846976 0 1 0))

def m_telltaleref01_Open (p0 : (List UInt8)) : Option GReader :=
  some (GReader.mk p0 0 0)

def m_telltaleref01_rest (p0 : GReader) : Option (List UInt8) :=
  cond (decide (p0.At < 0))
  (some ([] : List UInt8))
  (cond (decide (((List.length p0.Text : Nat) : Int) < p0.At))
  (some ([] : List UInt8))
  (Option.bind (cut p0.Text p0.At ((List.length p0.Text : Nat) : Int)) fun s18_1 =>
  some s18_1))

def m_telltaleref01_RWord_l2 (p0 : GReader) (r8_0 : (List UInt8)) : Nat → Int → Int → Option (GReader × Int)
  | 0, _, _ => none
  | fu_2 + 1, y5_2, y6_2 =>
    cond (decide (y6_2 < 8))
    (Option.bind (geti r8_0 y6_2) fun x26_3 =>
    m_telltaleref01_RWord_l2 p0 r8_0 fu_2 (IntKind.u64.wrap ((IntKind.u64.wrap (y5_2 * 256)) + ((x26_3.toNat : Nat) : Int))) (IntKind.i64.wrap (y6_2 + 1)))
    (some ((GReader.mk p0.Text (IntKind.i64.wrap (p0.At + 8)) p0.E), y5_2))
def m_telltaleref01_RWord (p0 : GReader) : Option (GReader × Int) :=
  Option.bind (m_telltaleref01_rest p0) fun r8_0 =>
  cond (decide (p0.E ≠ 0))
  (some (p0, 0))
  (cond (decide (((List.length r8_0 : Nat) : Int) < 8))
  (some ((GReader.mk p0.Text p0.At 3), 0))
  (m_telltaleref01_RWord_l2 p0 r8_0 1152921504606846976 0 0))

def m_telltaleref02_Back (p0 : Int) : Option Int :=
  cond (decide ((Int.tmod p0 2) = 1))
  (some (IntKind.i64.wrap ((IntKind.i64.wrap (0 - (IntKind.i64.wrap (IntKind.u64.wrap (Int.tdiv p0 2))))) - 1)))
  (some (IntKind.i64.wrap (IntKind.u64.wrap (Int.tdiv p0 2))))

def m_telltaleref04_Take_j12 (y7_d_12 : GValue) (y8_12 : Int) : Option (GValue × Int × Int) :=
  Option.bind (m_telltaleref04_Check y7_d_12) fun r120_13 =>
  cond (decide (r120_13 ≠ 0))
  (some ((GValue.mk 0 0 0 ([] : List UInt8)), 0, r120_13))
  (some (y7_d_12, y8_12, 0))
def m_telltaleref04_Take (p0 : (List UInt8)) (p1 : Int) : Option (GValue × Int × Int) :=
  cond (decide (p1 < 0))
  (some ((GValue.mk 0 0 0 ([] : List UInt8)), 0, 2))
  (cond (decide (((List.length p0 : Nat) : Int) < p1))
  (some ((GValue.mk 0 0 0 ([] : List UInt8)), 0, 2))
  (cond (decide (p1 = ((List.length p0 : Nat) : Int)))
  (some ((GValue.mk 0 0 0 ([] : List UInt8)), 0, 3))
  (Option.bind (geti p0 p1) fun x31_2 =>
  cond (decide (((x31_2.toNat : Nat) : Int) < 1))
  (some ((GValue.mk 0 0 0 ([] : List UInt8)), 0, 11))
  (cond (decide ((4 : Int) < ((x31_2.toNat : Nat) : Int)))
  (some ((GValue.mk 0 0 0 ([] : List UInt8)), 0, 11))
  (cond (decide (((x31_2.toNat : Nat) : Int) = 2))
  (cond (decide ((IntKind.i64.wrap (p1 + 1)) = ((List.length p0 : Nat) : Int)))
  (some ((GValue.mk 0 0 0 ([] : List UInt8)), 0, 3))
  (Option.bind (geti p0 (IntKind.i64.wrap (p1 + 1))) fun x54_5 =>
  m_telltaleref04_Take_j12  (GValue.mk x31_2 ((x54_5.toNat : Nat) : Int) 0 ([] : List UInt8)) (IntKind.i64.wrap ((IntKind.i64.wrap (p1 + 1)) + 1))))
  (cond (decide (((x31_2.toNat : Nat) : Int) = 3))
  (Option.bind (cut p0 (IntKind.i64.wrap (p1 + 1)) ((List.length p0 : Nat) : Int)) fun s65_6 =>
  Option.bind (m_telltaleref01_Open s65_6) fun r66_6 =>
  Option.bind (m_telltaleref01_RWord r66_6) fun r67_6 =>
  cond (decide (r67_6.1.E ≠ 0))
  (some ((GValue.mk 0 0 0 ([] : List UInt8)), 0, 3))
  (m_telltaleref04_Take_j12  (GValue.mk x31_2 0 r67_6.2 ([] : List UInt8)) (IntKind.i64.wrap ((IntKind.i64.wrap (p1 + 1)) + 8))))
  (Option.bind (m_telltaleref02_Take p0 (IntKind.i64.wrap (p1 + 1))) fun r81_7 =>
  cond (decide (r81_7.2.2 ≠ 0))
  (some ((GValue.mk 0 0 0 ([] : List UInt8)), 0, r81_7.2.2))
  (cond (decide (((x31_2.toNat : Nat) : Int) = 1))
  (Option.bind (m_telltaleref02_Back r81_7.1) fun r93_8 =>
  m_telltaleref04_Take_j12  (GValue.mk x31_2 r93_8 0 ([] : List UInt8)) r81_7.2.1)
  (cond (decide ((24 : Int) < r81_7.1))
  (some ((GValue.mk 0 0 0 ([] : List UInt8)), 0, 5))
  (cond (decide ((IntKind.i64.wrap (((List.length p0 : Nat) : Int) - r81_7.2.1)) < (IntKind.i64.wrap r81_7.1)))
  (some ((GValue.mk 0 0 0 ([] : List UInt8)), 0, 3))
  (Option.bind (cut p0 r81_7.2.1 (IntKind.i64.wrap (r81_7.2.1 + (IntKind.i64.wrap r81_7.1)))) fun s113_10 =>
  m_telltaleref04_Take_j12  (GValue.mk x31_2 0 0 s113_10) (IntKind.i64.wrap (r81_7.2.1 + (IntKind.i64.wrap r81_7.1))))))))))))))

def m_telltaleref07_Take_j1 : Option (GEvent × Int × Int) :=
  some ((GEvent.mk 0 0 0 ([] : List UInt8) ([] : List GValue)), 0, 2)
def m_telltaleref07_Take_j14 (p0 : (List GType)) (x68_6 : GType) (y15_d_4_7 : List GValue) (y2_7 : Int) (y15_d_0_14 : Int) (y15_d_1_14 : Int) (y15_d_2_14 : Int) : Option (GEvent × Int × Int) :=
  Option.bind (m_telltaleref07_Check p0 (GEvent.mk y15_d_0_14 y15_d_1_14 y15_d_2_14 x68_6.Name y15_d_4_7)) fun r131_15 =>
  cond (decide (r131_15 ≠ 0))
  (some ((GEvent.mk 0 0 0 ([] : List UInt8) ([] : List GValue)), 0, r131_15))
  (some ((GEvent.mk y15_d_0_14 y15_d_1_14 y15_d_2_14 x68_6.Name y15_d_4_7), y2_7, 0))
def m_telltaleref07_Take_j12 (p0 : (List GType)) (x68_6 : GType) (y15_d_4_7 : List GValue) (y2_7 : Int) : Option (GEvent × Int × Int) :=
  m_telltaleref07_Take_j14 p0 x68_6 y15_d_4_7 y2_7 (-1) (-1) (-1)
def m_telltaleref07_Take_l7 (p0 : (List GType)) (p1 : (List UInt8)) (x68_6 : GType) (y9_2 : List Int) : Nat → Int → (List GValue) → Int → Option (GEvent × Int × Int)
  | 0, _, _, _ => none
  | fu_7 + 1, y2_7, y15_d_4_7, y16_7 =>
    cond (decide (y16_7 < ((List.length x68_6.Fields : Nat) : Int)))
    (Option.bind (m_telltaleref04_Take p1 y2_7) fun r83_9 =>
    cond (decide (r83_9.2.2 ≠ 0))
    (some ((GEvent.mk 0 0 0 ([] : List UInt8) ([] : List GValue)), 0, r83_9.2.2))
    (Option.bind (app y15_d_4_7 ([r83_9.1] : List GValue)) fun a95_10 =>
    m_telltaleref07_Take_l7 p0 p1 x68_6 y9_2 fu_7 r83_9.2.1 a95_10 (IntKind.i64.wrap (y16_7 + 1))))
    (Option.bind (geti y9_2 0) fun x99_11 =>
    cond (decide (x99_11 ≤ 1099511627776))
    (Option.bind (geti y9_2 1) fun x104_11 =>
    cond (decide (x104_11 < 16))
    (Option.bind (geti y9_2 2) fun x110_11 =>
    cond (decide (x110_11 ≤ 1099511627776))
    (Option.bind (geti y9_2 0) fun x115_13 =>
    Option.bind (geti y9_2 1) fun x119_13 =>
    Option.bind (geti y9_2 2) fun x123_13 =>
    m_telltaleref07_Take_j14 p0 x68_6 y15_d_4_7 y2_7 (IntKind.i64.wrap x115_13) (IntKind.i64.wrap x119_13) (IntKind.i64.wrap x123_13))
    (m_telltaleref07_Take_j14 p0 x68_6 y15_d_4_7 y2_7 (-1) (-1) (-1)))
    (m_telltaleref07_Take_j12 p0 x68_6 y15_d_4_7 y2_7))
    (m_telltaleref07_Take_j12 p0 x68_6 y15_d_4_7 y2_7))
def m_telltaleref07_Take_l2 (p0 : (List GType)) (p1 : (List UInt8)) : Nat → Int → (List Int) → Int → Option (GEvent × Int × Int)
  | 0, _, _, _ => none
  | fu_2 + 1, y2_2, y9_2, y10_2 =>
    cond (decide (y10_2 < 4))
    (Option.bind (m_telltaleref02_Take p1 y2_2) fun r42_3 =>
    cond (decide (r42_3.2.2 ≠ 0))
    (some ((GEvent.mk 0 0 0 ([] : List UInt8) ([] : List GValue)), 0, r42_3.2.2))
    (Option.bind (app y9_2 ([r42_3.1] : List Int)) fun a53_4 =>
    m_telltaleref07_Take_l2 p0 p1 fu_2 r42_3.2.1 a53_4 (IntKind.i64.wrap (y10_2 + 1))))
    (Option.bind (geti y9_2 3) fun x56_5 =>
    cond (decide ((IntKind.u64.wrap ((List.length p0 : Nat) : Int)) ≤ x56_5))
    (some ((GEvent.mk 0 0 0 ([] : List UInt8) ([] : List GValue)), 0, 6))
    (Option.bind (geti y9_2 3) fun x65_6 =>
    Option.bind (geti p0 (IntKind.i64.wrap x65_6)) fun x68_6 =>
    m_telltaleref07_Take_l7 p0 p1 x68_6 y9_2 1152921504606846976 y2_2 ([] : List GValue) 0))
def m_telltaleref07_Take (p0 : (List GType)) (p1 : (List UInt8)) (p2 : Int) : Option (GEvent × Int × Int) :=
  Option.bind (m_telltaleref06_Check p0) fun r22_0 =>
  cond (decide (r22_0 ≠ 0))
  (m_telltaleref07_Take_j1 )
  (cond (decide (p2 < 0))
  (m_telltaleref07_Take_j1 )
  (cond (decide (((List.length p1 : Nat) : Int) < p2))
  (some ((GEvent.mk 0 0 0 ([] : List UInt8) ([] : List GValue)), 0, 2))
  (m_telltaleref07_Take_l2 p0 p1 1152921504606846976 p2 ([] : List Int) 0)))

def m_telltalelaw07_Back_l0 (p0 : GEvent) : Nat → (List GValue) → Int → Option GEvent
  | 0, _, _ => none
  | fu_0 + 1, y3_d_4_0, y4_0 =>
    cond (decide (y4_0 < ((List.length p0.Vals : Nat) : Int)))
    (Option.bind (geti p0.Vals y4_0) fun x26_2 =>
    Option.bind (app y3_d_4_0 ([x26_2] : List GValue)) fun a29_2 =>
    m_telltalelaw07_Back_l0 p0 fu_0 a29_2 (IntKind.i64.wrap (y4_0 + 1)))
    (some (GEvent.mk p0.Time p0.Source p0.Seq p0.Type_ y3_d_4_0))
def m_telltalelaw07_Back (p0 : GEvent) : Option GEvent :=
  m_telltalelaw07_Back_l0 p0 1152921504606846976 ([] : List GValue) 0

def m_telltaleref07_Same_j1 : Option Bool :=
  some false
def m_telltaleref07_Same_l2 (p0 : GEvent) (p1 : GEvent) : Nat → Int → Option Bool
  | 0, _ => none
  | fu_2 + 1, y5_2 =>
    cond (decide (y5_2 < ((List.length p0.Vals : Nat) : Int)))
    (Option.bind (geti p0.Vals y5_2) fun x51_4 =>
    Option.bind (geti p1.Vals y5_2) fun x56_4 =>
    Option.bind (some ((!(decide (((x51_4.Kind.toNat : Nat) : Int) = ((x56_4.Kind.toNat : Nat) : Int)) && (decide (x51_4.N = x56_4.N) && (decide (x51_4.Bits = x56_4.Bits) && (decide (x51_4.Text = x56_4.Text) && true))))))) fun v58_4 =>
    cond v58_4
    (some false)
    (m_telltaleref07_Same_l2 p0 p1 fu_2 (IntKind.i64.wrap (y5_2 + 1))))
    (some true)
def m_telltaleref07_Same (p0 : GEvent) (p1 : GEvent) : Option Bool :=
  cond (decide (p0.Time ≠ p1.Time))
  (m_telltaleref07_Same_j1 )
  (cond (decide (p0.Source ≠ p1.Source))
  (m_telltaleref07_Same_j1 )
  (cond (decide (p0.Seq ≠ p1.Seq))
  (m_telltaleref07_Same_j1 )
  (cond (decide (p0.Type_ ≠ p1.Type_))
  (m_telltaleref07_Same_j1 )
  (cond (decide (((List.length p0.Vals : Nat) : Int) ≠ ((List.length p1.Vals : Nat) : Int)))
  (some false)
  (m_telltaleref07_Same_l2 p0 p1 1152921504606846976 0)))))

def m_telltalelaw07_EventTakes (p0 : (List GType)) (p1 : (List UInt8)) (p2 : Int) : Option Bool :=
  Option.bind (m_telltalelaw06_Over p0) fun r14_0 =>
  cond (decide ((0 : Int) < r14_0))
  (Option.bind m_telltalelaw07_awake fun r21_1 =>
  some r21_1)
  (cond (decide ((300 : Int) < ((List.length p1 : Nat) : Int)))
  (Option.bind m_telltalelaw07_awake fun r21_2 =>
  some r21_2)
  (Option.bind (m_telltalelaw06_Own p0) fun r24_3 =>
  Option.bind (m_event_Take r24_3 p1 p2) fun r27_3 =>
  Option.bind (m_telltaleref07_Take p0 p1 p2) fun r35_4 =>
  Option.bind (m_telltalelaw07_Back r27_3.1) fun r40_5 =>
  Option.bind (m_telltaleref07_Same r40_5 r35_4.1) fun r42_5 =>
  cond r42_5
  (cond (decide (r27_3.2.1 = r35_4.2.1))
  (cond (decide (r27_3.2.2 = r35_4.2.2))
  (Option.bind m_telltalelaw07_awake fun r54_5 =>
  some r54_5)
  (some false))
  (some false))
  (some false)))

def m_telltalelaw07_OwnAll_l0 (p0 : (List GEvent)) : Nat → (List GEvent) → Int → Option (List GEvent)
  | 0, _, _ => none
  | fu_0 + 1, y3_0, y4_0 =>
    cond (decide (y4_0 < ((List.length p0 : Nat) : Int)))
    (Option.bind (geti p0 y4_0) fun x14_2 =>
    Option.bind (m_telltalelaw07_Own x14_2) fun r16_2 =>
    Option.bind (app y3_0 ([r16_2] : List GEvent)) fun a18_2 =>
    m_telltalelaw07_OwnAll_l0 p0 fu_0 a18_2 (IntKind.i64.wrap (y4_0 + 1)))
    (some y3_0)
def m_telltalelaw07_OwnAll (p0 : (List GEvent)) : Option (List GEvent) :=
  m_telltalelaw07_OwnAll_l0 p0 1152921504606846976 ([] : List GEvent) 0

def m_telltalelaw07_BackAll_l0 (p0 : (List GEvent)) : Nat → (List GEvent) → Int → Option (List GEvent)
  | 0, _, _ => none
  | fu_0 + 1, y3_0, y4_0 =>
    cond (decide (y4_0 < ((List.length p0 : Nat) : Int)))
    (Option.bind (geti p0 y4_0) fun x14_2 =>
    Option.bind (m_telltalelaw07_Back x14_2) fun r16_2 =>
    Option.bind (app y3_0 ([r16_2] : List GEvent)) fun a18_2 =>
    m_telltalelaw07_BackAll_l0 p0 fu_0 a18_2 (IntKind.i64.wrap (y4_0 + 1)))
    (some y3_0)
def m_telltalelaw07_BackAll (p0 : (List GEvent)) : Option (List GEvent) :=
  m_telltalelaw07_BackAll_l0 p0 1152921504606846976 ([] : List GEvent) 0

def m_telltaleref07_Less (p0 : GEvent) (p1 : GEvent) : Option Bool :=
  cond (decide (p0.Time ≠ p1.Time))
  (some (decide (p0.Time < p1.Time)))
  (cond (decide (p0.Source ≠ p1.Source))
  (some (decide (p0.Source < p1.Source)))
  (some (decide (p0.Seq < p1.Seq))))

def m_telltaleref07_Into_j2 (p0 : (List GEvent)) (p1 : GEvent) (y6_2 : Int) : Option (List GEvent) :=
  Option.bind (cut p0 0 y6_2) fun s25_3 =>
  Option.bind (app ([] : List GEvent) s25_3) fun a26_3 =>
  Option.bind (app a26_3 ([p1] : List GEvent)) fun a30_4 =>
  Option.bind (cut p0 y6_2 ((List.length p0 : Nat) : Int)) fun s34_5 =>
  Option.bind (app a30_4 s34_5) fun a35_5 =>
  some a35_5
def m_telltaleref07_Into_l0 (p0 : (List GEvent)) (p1 : GEvent) : Nat → Int → Option (List GEvent)
  | 0, _ => none
  | fu_0 + 1, y6_0 =>
    cond (decide (y6_0 < ((List.length p0 : Nat) : Int)))
    (Option.bind (geti p0 y6_0) fun x15_1 =>
    Option.bind (m_telltaleref07_Less p1 x15_1) fun r17_1 =>
    cond (!r17_1)
    (m_telltaleref07_Into_l0 p0 p1 fu_0 (IntKind.i64.wrap (y6_0 + 1)))
    (m_telltaleref07_Into_j2 p0 p1 y6_0))
    (m_telltaleref07_Into_j2 p0 p1 y6_0)
def m_telltaleref07_Into (p0 : (List GEvent)) (p1 : GEvent) : Option (List GEvent) :=
  m_telltaleref07_Into_l0 p0 p1 1152921504606846976 0

def m_telltaleref07_Sort_l0 (p0 : (List GEvent)) : Nat → (List GEvent) → Int → Option (List GEvent)
  | 0, _, _ => none
  | fu_0 + 1, y3_0, y4_0 =>
    cond (decide (y4_0 < ((List.length p0 : Nat) : Int)))
    (Option.bind (geti p0 y4_0) fun x14_2 =>
    Option.bind (m_telltaleref07_Into y3_0 x14_2) fun r16_2 =>
    m_telltaleref07_Sort_l0 p0 fu_0 r16_2 (IntKind.i64.wrap (y4_0 + 1)))
    (some y3_0)
def m_telltaleref07_Sort (p0 : (List GEvent)) : Option (List GEvent) :=
  m_telltaleref07_Sort_l0 p0 1152921504606846976 ([] : List GEvent) 0

def m_telltaleref07_SameAll_l1 (p0 : (List GEvent)) (p1 : (List GEvent)) : Nat → Int → Option Bool
  | 0, _ => none
  | fu_1 + 1, y5_1 =>
    cond (decide (y5_1 < ((List.length p0 : Nat) : Int)))
    (Option.bind (geti p0 y5_1) fun x19_3 =>
    Option.bind (geti p1 y5_1) fun x23_3 =>
    Option.bind (m_telltaleref07_Same x19_3 x23_3) fun r25_3 =>
    cond (!r25_3)
    (some false)
    (m_telltaleref07_SameAll_l1 p0 p1 fu_1 (IntKind.i64.wrap (y5_1 + 1))))
    (some true)
def m_telltaleref07_SameAll (p0 : (List GEvent)) (p1 : (List GEvent)) : Option Bool :=
  cond (decide (((List.length p0 : Nat) : Int) ≠ ((List.length p1 : Nat) : Int)))
  (some false)
  (m_telltaleref07_SameAll_l1 p0 p1 1152921504606846976 0)

def m_telltaleref07_Sorted_l0 (p0 : (List GEvent)) : Nat → Int → Option Bool
  | 0, _ => none
  | fu_0 + 1, y3_0 =>
    cond (decide (y3_0 < ((List.length p0 : Nat) : Int)))
    (Option.bind (geti p0 (IntKind.i64.wrap (y3_0 - 1))) fun x13_2 =>
    Option.bind (geti p0 y3_0) fun x17_2 =>
    Option.bind (m_telltaleref07_Less x13_2 x17_2) fun r19_2 =>
    cond (!r19_2)
    (some false)
    (m_telltaleref07_Sorted_l0 p0 fu_0 (IntKind.i64.wrap (y3_0 + 1))))
    (some true)
def m_telltaleref07_Sorted (p0 : (List GEvent)) : Option Bool :=
  m_telltaleref07_Sorted_l0 p0 1152921504606846976 1

def m_slices_Equal_Value_l2 (p0 : (List GValue)) (p1 : (List GValue)) : Nat → Int → Option Bool
  | 0, _ => none
  | fu_2 + 1, y13_2 =>
    cond (decide (y13_2 < ((List.length p0 : Nat) : Int)))
    (Option.bind (geti p0 y13_2) fun x18_3 =>
    Option.bind (geti p1 y13_2) fun x22_3 =>
    Option.bind (some ((!(decide (((x18_3.Kind.toNat : Nat) : Int) = ((x22_3.Kind.toNat : Nat) : Int)) && (decide (x18_3.N = x22_3.N) && (decide (x18_3.Bits = x22_3.Bits) && (decide (x18_3.Text = x22_3.Text) && true))))))) fun v24_3 =>
    cond v24_3
    (some false)
    (m_slices_Equal_Value_l2 p0 p1 fu_2 (IntKind.i64.wrap (y13_2 + 1))))
    (some true)
def m_slices_Equal_Value (p0 : (List GValue)) (p1 : (List GValue)) : Option Bool :=
  cond (decide (((List.length p0 : Nat) : Int) ≠ ((List.length p1 : Nat) : Int)))
  (some false)
  (m_slices_Equal_Value_l2 p0 p1 1152921504606846976 0)

def m_event_Same (p0 : GEvent) (p1 : GEvent) : Option Bool :=
  Option.bind (m_event_Event_ID p0) fun r6_0 =>
  Option.bind (m_event_Event_ID p1) fun r8_0 =>
  Option.bind (some ((decide (r6_0.Time = r8_0.Time) && (decide (r6_0.Source = r8_0.Source) && (decide (r6_0.Seq = r8_0.Seq) && true))))) fun v9_0 =>
  cond v9_0
  (cond (decide (p0.Type_ = p1.Type_))
  (Option.bind (m_slices_Equal_Value p0.Vals p1.Vals) fun r22_0 =>
  some r22_0)
  (some false))
  (some false)

def m_telltalelaw07_EventSorts_j5 : Option Bool :=
  some false
def m_telltalelaw07_EventSorts_l6 (p0 : (List GEvent)) (r11_2 : (List GEvent)) : Nat → Int → Option Bool
  | 0, _ => none
  | fu_6 + 1, y5_6 =>
    cond (decide (y5_6 < ((List.length p0 : Nat) : Int)))
    (Option.bind (geti r11_2 (IntKind.i64.wrap (y5_6 - 1))) fun x43_8 =>
    Option.bind (m_event_Event_ID x43_8) fun r45_8 =>
    Option.bind (geti r11_2 y5_6) fun x48_8 =>
    Option.bind (m_event_Event_ID x48_8) fun r50_8 =>
    Option.bind (m_event_ID_Less r45_8 r50_8) fun r51_8 =>
    Option.bind (geti p0 (IntKind.i64.wrap (y5_6 - 1))) fun x55_8 =>
    Option.bind (geti p0 y5_6) fun x59_8 =>
    Option.bind (m_telltaleref07_Less x55_8 x59_8) fun r61_8 =>
    cond (decide (r51_8 ≠ r61_8))
    (some false)
    (Option.bind (geti r11_2 (IntKind.i64.wrap (y5_6 - 1))) fun x67_8 =>
    Option.bind (geti r11_2 y5_6) fun x71_8 =>
    Option.bind (m_event_Same x67_8 x71_8) fun r73_8 =>
    Option.bind (geti p0 (IntKind.i64.wrap (y5_6 - 1))) fun x77_8 =>
    Option.bind (geti p0 y5_6) fun x81_8 =>
    Option.bind (m_telltaleref07_Same x77_8 x81_8) fun r83_8 =>
    cond (decide (r73_8 ≠ r83_8))
    (some false)
    (m_telltalelaw07_EventSorts_l6 p0 r11_2 fu_6 (IntKind.i64.wrap (y5_6 + 1)))))
    (Option.bind m_telltalelaw07_awake fun r86_9 =>
    some r86_9)
def m_telltalelaw07_EventSorts (p0 : (List GEvent)) : Option Bool :=
  Option.bind (m_telltalelaw07_Over p0 20) fun r7_0 =>
  cond (decide ((0 : Int) < r7_0))
  (Option.bind m_telltalelaw07_awake fun r9_1 =>
  some r9_1)
  (Option.bind (m_telltalelaw07_OwnAll p0) fun r11_2 =>
  Option.bind (m_event_Sort r11_2) fun r13_3 =>
  Option.bind (m_telltalelaw07_BackAll r13_3) fun r15_4 =>
  Option.bind (m_telltaleref07_Sort p0) fun r17_4 =>
  Option.bind (m_telltaleref07_SameAll r15_4 r17_4) fun r18_4 =>
  cond (!r18_4)
  (m_telltalelaw07_EventSorts_j5 )
  (Option.bind (m_event_Sorted r11_2) fun r22_4 =>
  Option.bind (m_telltaleref07_Sorted p0) fun r24_4 =>
  cond (decide (r22_4 ≠ r24_4))
  (m_telltalelaw07_EventSorts_j5 )
  (Option.bind (m_telltalelaw07_BackAll r11_2) fun r29_4 =>
  Option.bind (m_telltaleref07_SameAll r29_4 p0) fun r31_4 =>
  cond (!r31_4)
  (some false)
  (m_telltalelaw07_EventSorts_l6 p0 r11_2 1152921504606846976 1))))

def m_telltalelaw07_EventBack_j1 : Option Bool :=
  Option.bind m_telltalelaw07_awake fun r33_2 =>
  some r33_2
def m_telltalelaw07_EventBack_j9 (p1 : GArr2_GEvent) (p2 : (List UInt8)) (r35_4 : (List GType)) : Option Bool :=
  Option.bind (m_telltalelaw07_Own p1.a0) fun r81_10 =>
  Option.bind (m_event_Put ([] : List UInt8) r35_4 r81_10) fun r82_10 =>
  Option.bind (m_telltalelaw07_Own p1.a1) fun r89_11 =>
  Option.bind (m_event_Put ([] : List UInt8) r35_4 r89_11) fun r90_11 =>
  cond (decide (r82_10.2 ≠ 0))
  (Option.bind m_telltalelaw07_awake fun r99_13 =>
  some r99_13)
  (cond (decide (r90_11.2 ≠ 0))
  (Option.bind m_telltalelaw07_awake fun r99_14 =>
  some r99_14)
  (Option.bind (app r82_10.1 p2) fun t105_15 =>
  Option.bind (m_event_Take r35_4 t105_15 0) fun r106_15 =>
  cond (decide (r106_15.2.2 = 0))
  (Option.bind (m_telltalelaw07_Own p1.a0) fun r116_16 =>
  Option.bind (m_event_Same r106_15.1 r116_16) fun r117_16 =>
  cond r117_16
  (cond (decide (r106_15.2.1 = ((List.length r82_10.1 : Nat) : Int)))
  (Option.bind (m_telltalelaw07_Own p1.a0) fun r133_16 =>
  Option.bind (m_telltalelaw07_Own p1.a1) fun r136_16 =>
  Option.bind (m_event_Same r133_16 r136_16) fun r137_16 =>
  cond (decide (decide (r82_10.1 = r90_11.1) = r137_16))
  (Option.bind m_telltalelaw07_awake fun r141_16 =>
  some r141_16)
  (some false))
  (some false))
  (some false))
  (some false)))
def m_telltalelaw07_EventBack_j8 : Option Bool :=
  some false
def m_telltalelaw07_EventBack (p0 : (List GType)) (p1 : GArr2_GEvent) (p2 : (List UInt8)) : Option Bool :=
  Option.bind (m_telltalelaw06_Over p0) fun r21_0 =>
  cond (decide ((0 : Int) < r21_0))
  (m_telltalelaw07_EventBack_j1 )
  (Option.bind (m_telltalelaw07_Over ([p1.a0, p1.a1] : List GEvent) 2) fun r25_0 =>
  cond (decide ((0 : Int) < r25_0))
  (m_telltalelaw07_EventBack_j1 )
  (cond (decide ((100 : Int) < ((List.length p2 : Nat) : Int)))
  (Option.bind m_telltalelaw07_awake fun r33_3 =>
  some r33_3)
  (Option.bind (m_telltalelaw06_Own p0) fun r35_4 =>
  Option.bind (m_event_Take r35_4 p2 0) fun r39_5 =>
  cond (decide (r39_5.2.2 = 0))
  (Option.bind (m_event_Put ([] : List UInt8) r35_4 r39_5.1) fun r48_6 =>
  cond (decide (r48_6.2 ≠ 0))
  (m_telltalelaw07_EventBack_j8 )
  (cond (decide (r39_5.2.1 < 0))
  (m_telltalelaw07_EventBack_j8 )
  (cond (decide (((List.length p2 : Nat) : Int) < r39_5.2.1))
  (m_telltalelaw07_EventBack_j8 )
  (Option.bind (cut p2 0 r39_5.2.1) fun s68_7 =>
  cond (decide (r48_6.1 ≠ s68_7))
  (m_telltalelaw07_EventBack_j8 )
  (Option.bind (m_event_Check r35_4 r39_5.1) fun r74_7 =>
  cond (decide (r74_7 ≠ 0))
  (some false)
  (m_telltalelaw07_EventBack_j9 p1 p2 r35_4))))))
  (m_telltalelaw07_EventBack_j9 p1 p2 r35_4))))
end Go.Proofs.Ytbgioanegbipgaa.K
