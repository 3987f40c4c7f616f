/- models of the program's functions -/
import Derived.Test.YtkajfanpdabjcaaLT
namespace Go.Proofs.Ytkajfanpdabjcaa.K
open Go.RowKit Go.Lib
set_option linter.unusedVariables false
set_option linter.unusedSimpArgs false

def m_telltalelaw04_Small (p0 : GValue) : Option Int :=
  some (max 0 (IntKind.i64.wrap (((List.length p0.Text : Nat) : Int) - 100)))

def m_telltalelaw11_Over_j4 : Option Int :=
  some 1
def m_telltalelaw11_Over_l1 (p0 : (List GNode_)) : Nat → Int → Option Int
  | 0, _ => none
  | fu_1 + 1, y3_1 =>
    cond (decide (y3_1 < ((List.length p0 : Nat) : Int)))
    (Option.bind (geti p0 y3_1) fun x15_3 =>
    cond (decide ((40 : Int) < ((List.length x15_3.Var : Nat) : Int)))
    (m_telltalelaw11_Over_j4 )
    (Option.bind (geti p0 y3_1) fun x23_3 =>
    cond (decide ((40 : Int) < ((List.length x23_3.Name : Nat) : Int)))
    (m_telltalelaw11_Over_j4 )
    (Option.bind (geti p0 y3_1) fun x32_3 =>
    Option.bind (m_telltalelaw04_Small x32_3.Val) fun r35_3 =>
    cond (decide ((0 : Int) < r35_3))
    (some 1)
    (m_telltalelaw11_Over_l1 p0 fu_1 (IntKind.i64.wrap (y3_1 + 1))))))
    (some 0)
def m_telltalelaw11_Over (p0 : (List GNode_)) : Option Int :=
  cond (decide ((40 : Int) < ((List.length p0 : Nat) : Int)))
  (some 1)
  (m_telltalelaw11_Over_l1 p0 1152921504606846976 0)

def m_value_OfInt (p0 : Int) : Option GValue :=
  some (GValue.mk 1 (max (-4611686018427387904) (min p0 4611686018427387904)) 0 ([] : List UInt8))

def m_value_OfText_j2 (y0_2 : List UInt8) : Option GValue :=
  some (GValue.mk 4 0 0 y0_2)
def m_value_OfText (p0 : (List UInt8)) : Option GValue :=
  cond (decide ((24 : Int) < ((List.length p0 : Nat) : Int)))
  (Option.bind (cut p0 0 24) fun s7_1 =>
  m_value_OfText_j2  s7_1)
  (m_value_OfText_j2  p0)

def m_telltalelaw11_example : Option (List GNode_) :=
  Option.bind (m_value_OfInt 10) fun r4_0 =>
  Option.bind (m_value_OfText ([120] : List UInt8)) fun r9_0 =>
  some ([(GNode_.mk 1 0 ([] : List UInt8) ([] : List UInt8) (GValue.mk 0 0 0 ([] : List UInt8))), (GNode_.mk 4 6 ([] : List UInt8) ([] : List UInt8) (GValue.mk 0 0 0 ([] : List UInt8))), (GNode_.mk 7 0 ([] : List UInt8) ([110] : List UInt8) (GValue.mk 0 0 0 ([] : List UInt8))), (GNode_.mk 9 0 ([] : List UInt8) ([] : List UInt8) r4_0), (GNode_.mk 3 0 ([] : List UInt8) ([] : List UInt8) (GValue.mk 0 0 0 ([] : List UInt8))), (GNode_.mk 4 1 ([] : List UInt8) ([] : List UInt8) (GValue.mk 0 0 0 ([] : List UInt8))), (GNode_.mk 8 0 ([98] : List UInt8) ([107] : List UInt8) (GValue.mk 0 0 0 ([] : List UInt8))), (GNode_.mk 9 0 ([] : List UInt8) ([] : List UInt8) r9_0)] : List GNode_)

def m_slices_Sort_string (p0 : (List (List UInt8))) : Option (List (List UInt8)) :=
  chk (List.length p0 ≤ 1000000000) (some (sortS p0))

def m_slices_Compact_string (p0 : (List (List UInt8))) : Option (List (List UInt8)) :=
  chk (List.length p0 ≤ 1000000000) (some (Go.Lib.compact p0))

def m_pred_Vars_l1 (p0 : (List GNode_)) : Nat → (List (List UInt8)) → Int → Option (List (List UInt8))
  | 0, _, _ => none
  | fu_1 + 1, y3_1, y8_1 =>
    cond (decide (y8_1 < ((List.length p0 : Nat) : Int)))
    (Option.bind (geti p0 y8_1) fun x10_2 =>
    cond (decide (((x10_2.Kind.toNat : Nat) : Int) = 8))
    (Option.bind (app y3_1 ([x10_2.Var] : List (List UInt8))) fun a19_3 =>
    m_pred_Vars_l1 p0 fu_1 a19_3 (IntKind.i64.wrap (y8_1 + 1)))
    (m_pred_Vars_l1 p0 fu_1 y3_1 (IntKind.i64.wrap (y8_1 + 1))))
    (Option.bind (m_slices_Sort_string y3_1) fun r22_4 =>
    Option.bind (m_slices_Compact_string r22_4) fun r24_5 =>
    some r24_5)
def m_pred_Vars (p0 : (List GNode_)) : Option (List (List UInt8)) :=
  m_pred_Vars_l1 p0 1152921504606846976 ([] : List (List UInt8)) 0

def m_pred_Node_stands (p0 : GNode_) (p1 : Int) : Option Bool :=
  cond (decide (p1 = 0))
  (cond (decide ((1 : Int) ≤ ((p0.Kind.toNat : Nat) : Int)))
  (some (decide (((p0.Kind.toNat : Nat) : Int) ≤ 4)))
  (some false))
  (cond (decide (p1 = 1))
  (cond (decide ((5 : Int) ≤ ((p0.Kind.toNat : Nat) : Int)))
  (some (decide (((p0.Kind.toNat : Nat) : Int) ≤ 9)))
  (some false))
  (cond (decide ((7 : Int) ≤ ((p0.Kind.toNat : Nat) : Int)))
  (some (decide (((p0.Kind.toNat : Nat) : Int) ≤ 9)))
  (some false)))

def m_compare_Sign (p0 : UInt8) : Option (List UInt8) :=
  cond (decide (((p0.toNat : Nat) : Int) = 1))
  (some ([61] : List UInt8))
  (cond (decide (((p0.toNat : Nat) : Int) = 2))
  (some ([33, 61] : List UInt8))
  (cond (decide (((p0.toNat : Nat) : Int) = 3))
  (some ([60] : List UInt8))
  (cond (decide (((p0.toNat : Nat) : Int) = 4))
  (some ([60, 61] : List UInt8))
  (cond (decide (((p0.toNat : Nat) : Int) = 5))
  (some ([62] : List UInt8))
  (cond (decide (((p0.toNat : Nat) : Int) = 6))
  (some ([62, 61] : List UInt8))
  (some ([] : List UInt8)))))))

def m_schema_letter (p0 : UInt8) : Option Bool :=
  cond (decide ((97 : Int) ≤ ((p0.toNat : Nat) : Int)))
  (some (decide (((p0.toNat : Nat) : Int) ≤ 122)))
  (some false)

def m_schema_Reserved_j0 (y4_0 : Bool) : Option Bool :=
  cond y4_0
  (some true)
  (some false)
def m_schema_Reserved (p0 : (List UInt8)) : Option Bool :=
  cond (decide (p0 = ([119, 105, 116, 104, 105, 110] : List UInt8)))
  (m_schema_Reserved_j0  (decide (p0 = ([119, 105, 116, 104, 105, 110] : List UInt8))))
  (cond (decide (p0 = ([98, 121] : List UInt8)))
  (m_schema_Reserved_j0  (decide (p0 = ([98, 121] : List UInt8))))
  (cond (decide (p0 = ([97, 110, 100] : List UInt8)))
  (m_schema_Reserved_j0  (decide (p0 = ([97, 110, 100] : List UInt8))))
  (cond (decide (p0 = ([111, 114] : List UInt8)))
  (m_schema_Reserved_j0  (decide (p0 = ([111, 114] : List UInt8))))
  (cond (decide (p0 = ([110, 111, 116] : List UInt8)))
  (m_schema_Reserved_j0  (decide (p0 = ([110, 111, 116] : List UInt8))))
  (cond (decide (p0 = ([97, 110, 121] : List UInt8)))
  (m_schema_Reserved_j0  (decide (p0 = ([97, 110, 121] : List UInt8))))
  (cond (decide (p0 = ([110, 101, 120, 116] : List UInt8)))
  (m_schema_Reserved_j0  (decide (p0 = ([110, 101, 120, 116] : List UInt8))))
  (cond (decide (p0 = ([115, 116, 114, 105, 99, 116] : List UInt8)))
  (m_schema_Reserved_j0  (decide (p0 = ([115, 116, 114, 105, 99, 116] : List UInt8))))
  (cond (decide (p0 = ([116, 114, 117, 101] : List UInt8)))
  (m_schema_Reserved_j0  (decide (p0 = ([116, 114, 117, 101] : List UInt8))))
  (m_schema_Reserved_j0  (decide (p0 = ([102, 97, 108, 115, 101] : List UInt8))))))))))))

def m_schema_tail (p0 : UInt8) : Option Bool :=
  Option.bind (m_schema_letter p0) fun r4_0 =>
  cond r4_0
  (some true)
  (cond (decide ((48 : Int) ≤ ((p0.toNat : Nat) : Int)))
  (cond (decide (((p0.toNat : Nat) : Int) ≤ 57))
  (some true)
  (some (decide (((p0.toNat : Nat) : Int) = 95))))
  (some (decide (((p0.toNat : Nat) : Int) = 95))))

def m_schema_Name_j1 : Option Bool :=
  some false
def m_schema_Name_l2 (p0 : (List UInt8)) : Nat → Int → Option Bool
  | 0, _ => none
  | fu_2 + 1, y3_2 =>
    cond (decide (y3_2 < ((List.length p0 : Nat) : Int)))
    (Option.bind (geti p0 y3_2) fun x29_4 =>
    Option.bind (m_schema_tail x29_4) fun r30_4 =>
    cond (!r30_4)
    (some false)
    (m_schema_Name_l2 p0 fu_2 (IntKind.i64.wrap (y3_2 + 1))))
    (some true)
def m_schema_Name (p0 : (List UInt8)) : Option Bool :=
  cond (decide (p0 = ([] : List UInt8)))
  (m_schema_Name_j1 )
  (cond (decide ((12 : Int) < ((List.length p0 : Nat) : Int)))
  (m_schema_Name_j1 )
  (Option.bind (geti p0 0) fun x13_0 =>
  Option.bind (m_schema_letter x13_0) fun r14_0 =>
  cond (!r14_0)
  (m_schema_Name_j1 )
  (Option.bind (m_schema_Reserved p0) fun r19_0 =>
  cond r19_0
  (some false)
  (m_schema_Name_l2 p0 1152921504606846976 1))))

def m_value_core (p0 : GValue) : Option Value :=
  cond (decide (((p0.Kind.toNat : Nat) : Int) = 1))
  (some (Value.iface 105 (.int .i64 p0.N)))
  (cond (decide (((p0.Kind.toNat : Nat) : Int) = 2))
  (some (Value.iface 106 (.int .i64 p0.N)))
  (cond (decide (((p0.Kind.toNat : Nat) : Int) = 3))
  (some (Value.iface 107 (.int .u64 p0.Bits)))
  (cond (decide (((p0.Kind.toNat : Nat) : Int) = 4))
  (some (Value.iface 109 (.string (toS p0.Text))))
  (some Value.nilIface))))

def m_real_of (p0 : Int) : Option Nat :=
  some (Int.toNat p0)

def m_real_Clean (p0 : Int) : Option Int :=
  Option.bind (m_real_of p0) fun r5_0 =>
  cond (fne r5_0 r5_0)
  (some 9221120237041090560)
  (some p0)

def m_value_number_whole (p0 : Int) : Option GValue :=
  some (GValue.mk 1 p0 0 ([] : List UInt8))

def m_value_flag_whole (p0 : Int) : Option GValue :=
  some (GValue.mk 2 p0 0 ([] : List UInt8))

def m_value_double_whole (p0 : Int) : Option GValue :=
  some (GValue.mk 3 0 p0 ([] : List UInt8))

def m_value_words_whole (p0 : (List UInt8)) : Option GValue :=
  some (GValue.mk 4 0 0 p0)

def m_value_Check_j11 (y46_11 : Bool) : Option Int :=
  cond y46_11
  (some 2)
  (some 0)
def m_value_Check_j9 (p0 : GValue) (r10_0 : Value) : Option Int :=
  cond (isT 105 r10_0)
  (Option.bind (inI .i64 r10_0) fun n44_10_105 =>
  Option.bind (m_value_number_whole n44_10_105) fun r44_10_105 =>
  Option.bind (some ((!(decide (((r44_10_105.Kind.toNat : Nat) : Int) = ((p0.Kind.toNat : Nat) : Int)) && (decide (r44_10_105.N = p0.N) && (decide (r44_10_105.Bits = p0.Bits) && (decide (r44_10_105.Text = p0.Text) && true))))))) fun v46_10 =>
  m_value_Check_j11  v46_10)
  (cond (isT 106 r10_0)
  (Option.bind (inI .i64 r10_0) fun n44_10_106 =>
  Option.bind (m_value_flag_whole n44_10_106) fun r44_10_106 =>
  Option.bind (some ((!(decide (((r44_10_106.Kind.toNat : Nat) : Int) = ((p0.Kind.toNat : Nat) : Int)) && (decide (r44_10_106.N = p0.N) && (decide (r44_10_106.Bits = p0.Bits) && (decide (r44_10_106.Text = p0.Text) && true))))))) fun v46_10 =>
  m_value_Check_j11  v46_10)
  (cond (isT 107 r10_0)
  (Option.bind (inI .u64 r10_0) fun n44_10_107 =>
  Option.bind (m_value_double_whole n44_10_107) fun r44_10_107 =>
  Option.bind (some ((!(decide (((r44_10_107.Kind.toNat : Nat) : Int) = ((p0.Kind.toNat : Nat) : Int)) && (decide (r44_10_107.N = p0.N) && (decide (r44_10_107.Bits = p0.Bits) && (decide (r44_10_107.Text = p0.Text) && true))))))) fun v46_10 =>
  m_value_Check_j11  v46_10)
  (cond (isT 109 r10_0)
  (Option.bind (inS r10_0) fun n44_10_109 =>
  Option.bind (m_value_words_whole n44_10_109) fun r44_10_109 =>
  Option.bind (some ((!(decide (((r44_10_109.Kind.toNat : Nat) : Int) = ((p0.Kind.toNat : Nat) : Int)) && (decide (r44_10_109.N = p0.N) && (decide (r44_10_109.Bits = p0.Bits) && (decide (r44_10_109.Text = p0.Text) && true))))))) fun v46_10 =>
  m_value_Check_j11  v46_10)
  (none))))
def m_value_Check (p0 : GValue) : Option Int :=
  Option.bind (m_value_core p0) fun r10_0 =>
  Option.bind (tasI .i64 105 r10_0) fun z12_1 =>
  cond z12_1.2
  (cond (decide (z12_1.1 < (-4611686018427387904)))
  (some 8)
  (cond (decide ((4611686018427387904 : Int) < z12_1.1))
  (some 8)
  (m_value_Check_j9 p0 r10_0)))
  (Option.bind (tasI .i64 106 r10_0) fun z21_3 =>
  cond z21_3.2
  (cond (decide (z21_3.1 ≠ 0))
  (cond (decide (z21_3.1 ≠ 1))
  (some 8)
  (m_value_Check_j9 p0 r10_0))
  (m_value_Check_j9 p0 r10_0))
  (Option.bind (tasI .u64 107 r10_0) fun z30_5 =>
  cond z30_5.2
  (Option.bind (m_real_Clean z30_5.1) fun r34_6 =>
  cond (decide (r34_6 ≠ z30_5.1))
  (some 4)
  (m_value_Check_j9 p0 r10_0))
  (Option.bind (tasS 109 r10_0) fun z37_7 =>
  cond z37_7.2
  (cond (decide ((24 : Int) < ((List.length z37_7.1 : Nat) : Int)))
  (some 5)
  (m_value_Check_j9 p0 r10_0))
  (some 11))))

def m_pred_Node_lacks (p0 : GNode_) : Option Bool :=
  cond (decide (((p0.Kind.toNat : Nat) : Int) = 4))
  (Option.bind (m_compare_Sign p0.Op) fun r9_0 =>
  some (decide (r9_0 = ([] : List UInt8))))
  (cond (decide (((p0.Kind.toNat : Nat) : Int) = 7))
  (Option.bind (m_schema_Name p0.Name) fun r15_1 =>
  some (!r15_1))
  (cond (decide (((p0.Kind.toNat : Nat) : Int) = 8))
  (Option.bind (m_schema_Name p0.Name) fun r21_2 =>
  cond (!r21_2)
  (some true)
  (Option.bind (m_schema_Name p0.Var) fun r26_2 =>
  some (!r26_2)))
  (cond (decide (((p0.Kind.toNat : Nat) : Int) = 9))
  (Option.bind (m_value_Check p0.Val) fun r33_3 =>
  some (decide (r33_3 ≠ 0)))
  (some false))))

def m_pred_is__pred_Node_lacks (p0 : GNode_) (p2 : Int) : Option Int :=
  Option.bind (m_pred_Node_lacks p0) fun r9_0 =>
  cond r9_0
  (some p2)
  (some 0)

def m_pred_Node_more (p0 : GNode_) : Option Bool :=
  cond (decide (((p0.Kind.toNat : Nat) : Int) = 4))
  (Option.bind (some ((!(decide (((p0.Kind.toNat : Nat) : Int) = ((p0.Kind.toNat : Nat) : Int)) && (decide (((p0.Op.toNat : Nat) : Int) = ((p0.Op.toNat : Nat) : Int)) && (decide (([] : List UInt8) = p0.Var) && (decide (([] : List UInt8) = p0.Name) && ((decide (0 = ((p0.Val.Kind.toNat : Nat) : Int)) && (decide (0 = p0.Val.N) && (decide (0 = p0.Val.Bits) && (decide (([] : List UInt8) = p0.Val.Text) && true)))) && true)))))))) fun v34_0 =>
  some v34_0)
  (cond (decide (((p0.Kind.toNat : Nat) : Int) = 7))
  (Option.bind (some ((!(decide (((p0.Kind.toNat : Nat) : Int) = ((p0.Kind.toNat : Nat) : Int)) && (decide (0 = ((p0.Op.toNat : Nat) : Int)) && (decide (([] : List UInt8) = p0.Var) && (decide (p0.Name = p0.Name) && ((decide (0 = ((p0.Val.Kind.toNat : Nat) : Int)) && (decide (0 = p0.Val.N) && (decide (0 = p0.Val.Bits) && (decide (([] : List UInt8) = p0.Val.Text) && true)))) && true)))))))) fun v34_1 =>
  some v34_1)
  (cond (decide (((p0.Kind.toNat : Nat) : Int) = 8))
  (Option.bind (some ((!(decide (((p0.Kind.toNat : Nat) : Int) = ((p0.Kind.toNat : Nat) : Int)) && (decide (0 = ((p0.Op.toNat : Nat) : Int)) && (decide (p0.Var = p0.Var) && (decide (p0.Name = p0.Name) && ((decide (0 = ((p0.Val.Kind.toNat : Nat) : Int)) && (decide (0 = p0.Val.N) && (decide (0 = p0.Val.Bits) && (decide (([] : List UInt8) = p0.Val.Text) && true)))) && true)))))))) fun v34_2 =>
  some v34_2)
  (cond (decide (((p0.Kind.toNat : Nat) : Int) = 9))
  (Option.bind (some ((!(decide (((p0.Kind.toNat : Nat) : Int) = ((p0.Kind.toNat : Nat) : Int)) && (decide (0 = ((p0.Op.toNat : Nat) : Int)) && (decide (([] : List UInt8) = p0.Var) && (decide (([] : List UInt8) = p0.Name) && ((decide (((p0.Val.Kind.toNat : Nat) : Int) = ((p0.Val.Kind.toNat : Nat) : Int)) && (decide (p0.Val.N = p0.Val.N) && (decide (p0.Val.Bits = p0.Val.Bits) && (decide (p0.Val.Text = p0.Val.Text) && true)))) && true)))))))) fun v34_3 =>
  some v34_3)
  (Option.bind (some ((!(decide (((p0.Kind.toNat : Nat) : Int) = ((p0.Kind.toNat : Nat) : Int)) && (decide (0 = ((p0.Op.toNat : Nat) : Int)) && (decide (([] : List UInt8) = p0.Var) && (decide (([] : List UInt8) = p0.Name) && ((decide (0 = ((p0.Val.Kind.toNat : Nat) : Int)) && (decide (0 = p0.Val.N) && (decide (0 = p0.Val.Bits) && (decide (([] : List UInt8) = p0.Val.Text) && true)))) && true)))))))) fun v34_4 =>
  some v34_4))))

def m_pred_is__pred_Node_more (p0 : GNode_) (p2 : Int) : Option Int :=
  Option.bind (m_pred_Node_more p0) fun r9_0 =>
  cond r9_0
  (some p2)
  (some 0)

def m_pred_Kids_j0 (p0 : UInt8) (y4_0 : Bool) : Option Int :=
  cond y4_0
  (some 2)
  (cond (decide (((p0.toNat : Nat) : Int) = 3))
  (some 1)
  (some 0))
def m_pred_Kids (p0 : UInt8) : Option Int :=
  cond (decide (((p0.toNat : Nat) : Int) = 1))
  (m_pred_Kids_j0 p0 (decide (((p0.toNat : Nat) : Int) = 1)))
  (cond (decide (((p0.toNat : Nat) : Int) = 2))
  (m_pred_Kids_j0 p0 (decide (((p0.toNat : Nat) : Int) = 2)))
  (cond (decide (((p0.toNat : Nat) : Int) = 4))
  (m_pred_Kids_j0 p0 (decide (((p0.toNat : Nat) : Int) = 4)))
  (cond (decide (((p0.toNat : Nat) : Int) = 5))
  (m_pred_Kids_j0 p0 (decide (((p0.toNat : Nat) : Int) = 5)))
  (m_pred_Kids_j0 p0 (decide (((p0.toNat : Nat) : Int) = 6))))))

def m_pred_Node_kid_j0 (y9_0 : Bool) : Option Int :=
  cond y9_0
  (some 1)
  (some 2)
def m_pred_Node_kid (p0 : GNode_) (p1 : Int) : Option Int :=
  cond (decide (((p0.Kind.toNat : Nat) : Int) ≤ 3))
  (some 0)
  (cond (decide (((p0.Kind.toNat : Nat) : Int) = 4))
  (m_pred_Node_kid_j0  (decide (((p0.Kind.toNat : Nat) : Int) = 4)))
  (m_pred_Node_kid_j0  (decide (p1 = 0))))

def m_pred_checker_tree_l6 (p2 : Int) (r57_5 : Int) (x30_1 : GNode_) (k_rec : GTchecker → Int → Int → Option (Int × GTchecker)) : Nat → GTchecker → Int → Option (Int × GTchecker)
  | 0, _, _ => none
  | fu_6 + 1, y0_d_6, y58_6 =>
    cond (decide (y58_6 < r57_5))
    (Option.bind (m_pred_Node_kid x30_1 y58_6) fun r64_7 =>
    Option.bind (k_rec y0_d_6 r64_7 (IntKind.i64.wrap (p2 + 1))) fun r67_7 =>
    cond (decide (r67_7.1 ≠ 0))
    (some (r67_7.1, r67_7.2))
    (m_pred_checker_tree_l6 p2 r57_5 x30_1 k_rec fu_6 r67_7.2 (IntKind.i64.wrap (y58_6 + 1))))
    (some (0, y0_d_6))
def m_pred_checker_tree : Nat → GTchecker → Int → Int → Option (Int × GTchecker)
  | 0, _, _, _ => none
  | fuR + 1, p0, p1, p2 =>
    cond (decide (((List.length p0.l : Nat) : Int) ≤ p0.at_))
    (some (3, p0))
    (Option.bind (geti p0.l p0.at_) fun x30_1 =>
    cond (decide ((16 : Int) ≤ p2))
    (some (15, p0))
    (Option.bind (m_pred_Node_stands x30_1 p1) fun r36_2 =>
    cond (!r36_2)
    (some (11, p0))
    (Option.bind (m_pred_is__pred_Node_lacks x30_1 4) fun r39_3 =>
    cond (decide (r39_3 ≠ 0))
    (some (r39_3, p0))
    (Option.bind (m_pred_is__pred_Node_more x30_1 2) fun r44_4 =>
    cond (decide (r44_4 ≠ 0))
    (some (r44_4, p0))
    (Option.bind (m_pred_Kids x30_1.Kind) fun r57_5 =>
    m_pred_checker_tree_l6 p2 r57_5 x30_1 (fun p0 p1 p2 => m_pred_checker_tree fuR p0 p1 p2) 1152921504606846976 (GTchecker.mk p0.l (IntKind.i64.wrap (p0.at_ + 1))) 0)))))

def m_pred_Check (p0 : (List GNode_)) : Option Int :=
  cond (decide ((30 : Int) < ((List.length p0 : Nat) : Int)))
  (some 5)
  (cond (decide (((List.length p0 : Nat) : Int) = 0))
  (some 0)
  (Option.bind (m_pred_checker_tree 1152921504606846976 (GTchecker.mk p0 0) 0 0) fun r15_2 =>
  cond (decide (r15_2.1 ≠ 0))
  (some r15_2.1)
  (cond (decide (r15_2.2.at_ < ((List.length p0 : Nat) : Int)))
  (some 5)
  (some 0))))

def m_pred_bound (p0 : UInt8) : Option Int :=
  cond (decide (((p0.toNat : Nat) : Int) = 2))
  (some 1)
  (cond (decide (((p0.toNat : Nat) : Int) = 1))
  (some 2)
  (some 3))

def m_pred_printer_within (rec_m_pred_printer_tree : GTchecker → Option ((List UInt8) × GTchecker)) (p0 : GTchecker) (p1 : Int) : Option ((List UInt8) × GTchecker) :=
  Option.bind (geti p0.l p0.at_) fun x13_0 =>
  Option.bind (m_pred_bound x13_0.Kind) fun r16_0 =>
  cond (decide (r16_0 < p1))
  (Option.bind (rec_m_pred_printer_tree p0) fun r20_1 =>
  Option.bind (app ([40] : List UInt8) r20_1.1) fun t21_1 =>
  Option.bind (app t21_1 ([41] : List UInt8)) fun t22_1 =>
  some (t22_1, r20_1.2))
  (Option.bind (rec_m_pred_printer_tree p0) fun r24_2 =>
  some (r24_2.1, r24_2.2))

def m_pred_printer_two (rec_m_pred_printer_tree : GTchecker → Option ((List UInt8) × GTchecker)) (p0 : GTchecker) (p1 : (List UInt8)) (p2 : Int) (p3 : Int) : Option ((List UInt8) × GTchecker) :=
  Option.bind (m_pred_printer_within rec_m_pred_printer_tree p0 p2) fun r12_0 =>
  Option.bind (app r12_0.1 ([32] : List UInt8)) fun t14_1 =>
  Option.bind (app t14_1 p1) fun t16_1 =>
  Option.bind (app t16_1 ([32] : List UInt8)) fun t17_1 =>
  Option.bind (m_pred_printer_within rec_m_pred_printer_tree r12_0.2 p3) fun r20_1 =>
  Option.bind (app t17_1 r20_1.1) fun t21_1 =>
  some (t21_1, r20_1.2)

def m_lex_whole_j4 (y3_d_4 : List UInt8) (y4_4 : Int) : Option (List UInt8) :=
  chk (List.length y3_d_4 = 21 ∧ 0 ≤ y4_4 ∧ y4_4 < 21) (
  some (List.drop (Int.toNat y4_4) y3_d_4))
def m_lex_whole_l1 (p0 : Int) : Nat → (List UInt8) → Int → Int → Option (List UInt8)
  | 0, _, _, _ => none
  | fu_1 + 1, y3_d_1, y4_1, y5_1 =>
    chk (List.length y3_d_1 = 21) (
    Option.bind (geti y3_d_1 (IntKind.i64.wrap (y4_1 - 1))) fun x18_2 =>
    cond (decide ((IntKind.u64.wrap (Int.tdiv y5_1 10)) = 0))
    (cond (decide (p0 < 0))
    (chk (List.length (List.set y3_d_1 (Int.toNat (IntKind.i64.wrap (y4_1 - 1))) (toU8 (48 + (((toU8 (Int.tmod y5_1 10)).toNat : Nat) : Int)))) = 21) (
    Option.bind (geti (List.set y3_d_1 (Int.toNat (IntKind.i64.wrap (y4_1 - 1))) (toU8 (48 + (((toU8 (Int.tmod y5_1 10)).toNat : Nat) : Int)))) (IntKind.i64.wrap ((IntKind.i64.wrap (y4_1 - 1)) - 1))) fun x28_3 =>
    m_lex_whole_j4  (List.set (List.set y3_d_1 (Int.toNat (IntKind.i64.wrap (y4_1 - 1))) (toU8 (48 + (((toU8 (Int.tmod y5_1 10)).toNat : Nat) : Int)))) (Int.toNat (IntKind.i64.wrap ((IntKind.i64.wrap (y4_1 - 1)) - 1))) 45) (IntKind.i64.wrap ((IntKind.i64.wrap (y4_1 - 1)) - 1))))
    (m_lex_whole_j4  (List.set y3_d_1 (Int.toNat (IntKind.i64.wrap (y4_1 - 1))) (toU8 (48 + (((toU8 (Int.tmod y5_1 10)).toNat : Nat) : Int)))) (IntKind.i64.wrap (y4_1 - 1))))
    (m_lex_whole_l1 p0 fu_1 (List.set y3_d_1 (Int.toNat (IntKind.i64.wrap (y4_1 - 1))) (toU8 (48 + (((toU8 (Int.tmod y5_1 10)).toNat : Nat) : Int)))) (IntKind.i64.wrap (y4_1 - 1)) (IntKind.u64.wrap (Int.tdiv y5_1 10))))
def m_lex_whole (p0 : Int) : Option (List UInt8) :=
  m_lex_whole_l1 p0 1152921504606846976 (List.replicate 21 0 : List UInt8) 21 (IntKind.u64.wrap (max p0 (IntKind.i64.wrap (0 - p0))))

def m_lex_bits_l1 : Nat → Int → (List UInt8) → Int → Option (List UInt8)
  | 0, _, _, _ => none
  | fu_1 + 1, y0_1, y3_d_1, y4_1 =>
    cond (decide ((0 : Int) < y4_1))
    (Option.bind (geti ([48, 49, 50, 51, 52, 53, 54, 55, 56, 57, 97, 98, 99, 100, 101, 102] : List UInt8) (IntKind.u64.wrap (((BitVec.ofInt 64 y0_1 &&& BitVec.ofInt 64 15).toNat : Int)))) fun x13_2 =>
    chk (List.length y3_d_1 = 17) (
    Option.bind (geti y3_d_1 y4_1) fun x14_2 =>
    m_lex_bits_l1 fu_1 (Int.fdiv y0_1 (2 ^ 4)) (List.set y3_d_1 (Int.toNat y4_1) x13_2) (IntKind.i64.wrap (y4_1 - 1))))
    (chk (List.length y3_d_1 = 17 ∧ 0 ≤ (0 : Int) ∧ (0 : Int) < 17) (
    some (List.drop 0 y3_d_1)))
def m_lex_bits (p0 : Int) : Option (List UInt8) :=
  chk (List.length (List.replicate 17 0 : List UInt8) = 17) (
  Option.bind (geti (List.replicate 17 0 : List UInt8) 0) fun x5_0 =>
  m_lex_bits_l1  1152921504606846976 p0 (List.set (List.replicate 17 0 : List UInt8) (Int.toNat 0) 35) 16)

def m_lex_text (p0 : (List UInt8)) : Option (List UInt8) :=
  chk (List.length p0 ≤ 1000000000) (some (textS p0))

def m_lex_Literal (p0 : GValue) : Option (List UInt8) :=
  Option.bind (m_value_Check p0) fun r4_0 =>
  cond (decide (r4_0 ≠ 0))
  (some ([] : List UInt8))
  (cond (decide (((p0.Kind.toNat : Nat) : Int) = 1))
  (Option.bind (m_lex_whole p0.N) fun r12_1 =>
  some r12_1)
  (cond (decide (((p0.Kind.toNat : Nat) : Int) = 2))
  (cond (decide (p0.N = 0))
  (some ([102, 97, 108, 115, 101] : List UInt8))
  (some ([116, 114, 117, 101] : List UInt8)))
  (cond (decide (((p0.Kind.toNat : Nat) : Int) = 3))
  (Option.bind (m_lex_bits p0.Bits) fun r22_2 =>
  some r22_2)
  (Option.bind (m_lex_text p0.Text) fun r25_3 =>
  some r25_3))))

def m_pred_printer_tree : Nat → GTchecker → Option ((List UInt8) × GTchecker)
  | 0, _ => none
  | fuR + 1, p0 =>
    Option.bind (geti p0.l p0.at_) fun x12_0 =>
    cond (decide (((x12_0.Kind.toNat : Nat) : Int) = 2))
    (Option.bind (m_pred_printer_two (fun p0 => m_pred_printer_tree fuR p0) (GTchecker.mk p0.l (IntKind.i64.wrap (p0.at_ + 1))) ([111, 114] : List UInt8) 1 2) fun r26_1 =>
    some (r26_1.1, r26_1.2))
    (cond (decide (((x12_0.Kind.toNat : Nat) : Int) = 1))
    (Option.bind (m_pred_printer_two (fun p0 => m_pred_printer_tree fuR p0) (GTchecker.mk p0.l (IntKind.i64.wrap (p0.at_ + 1))) ([97, 110, 100] : List UInt8) 2 3) fun r30_2 =>
    some (r30_2.1, r30_2.2))
    (cond (decide (((x12_0.Kind.toNat : Nat) : Int) = 3))
    (Option.bind (m_pred_printer_within (fun p0 => m_pred_printer_tree fuR p0) (GTchecker.mk p0.l (IntKind.i64.wrap (p0.at_ + 1))) 3) fun r34_3 =>
    Option.bind (app ([110, 111, 116, 32] : List UInt8) r34_3.1) fun t35_3 =>
    some (t35_3, r34_3.2))
    (cond (decide (((x12_0.Kind.toNat : Nat) : Int) = 4))
    (Option.bind (m_compare_Sign x12_0.Op) fun r41_4 =>
    Option.bind (m_pred_printer_two (fun p0 => m_pred_printer_tree fuR p0) (GTchecker.mk p0.l (IntKind.i64.wrap (p0.at_ + 1))) r41_4 0 0) fun r42_4 =>
    some (r42_4.1, r42_4.2))
    (cond (decide (((x12_0.Kind.toNat : Nat) : Int) = 5))
    (Option.bind (m_pred_printer_two (fun p0 => m_pred_printer_tree fuR p0) (GTchecker.mk p0.l (IntKind.i64.wrap (p0.at_ + 1))) ([43] : List UInt8) 0 0) fun r46_5 =>
    some (r46_5.1, r46_5.2))
    (cond (decide (((x12_0.Kind.toNat : Nat) : Int) = 6))
    (Option.bind (m_pred_printer_two (fun p0 => m_pred_printer_tree fuR p0) (GTchecker.mk p0.l (IntKind.i64.wrap (p0.at_ + 1))) ([45] : List UInt8) 0 0) fun r50_6 =>
    some (r50_6.1, r50_6.2))
    (cond (decide (((x12_0.Kind.toNat : Nat) : Int) = 7))
    (some (x12_0.Name, (GTchecker.mk p0.l (IntKind.i64.wrap (p0.at_ + 1)))))
    (cond (decide (((x12_0.Kind.toNat : Nat) : Int) = 8))
    (Option.bind (app x12_0.Var ([46] : List UInt8)) fun t59_7 =>
    Option.bind (app t59_7 x12_0.Name) fun t62_7 =>
    some (t62_7, (GTchecker.mk p0.l (IntKind.i64.wrap (p0.at_ + 1)))))
    (Option.bind (m_lex_Literal x12_0.Val) fun r65_8 =>
    some (r65_8, (GTchecker.mk p0.l (IntKind.i64.wrap (p0.at_ + 1))))))))))))

def m_pred_Print (p0 : (List GNode_)) : Option (List UInt8) :=
  cond (decide (((List.length p0 : Nat) : Int) = 0))
  (some ([] : List UInt8))
  (Option.bind (m_pred_Check p0) fun r9_0 =>
  cond (decide (r9_0 ≠ 0))
  (some ([] : List UInt8))
  (Option.bind (m_pred_printer_tree 1152921504606846976 (GTchecker.mk p0 0)) fun r16_1 =>
  some r16_1.1))

def m_pred_Size_l2 (s18_1 : List GNode_) : Nat → Int → Int → Option Int
  | 0, _, _ => none
  | fu_2 + 1, y5_2, y20_2 =>
    cond (decide (y20_2 < ((List.length s18_1 : Nat) : Int)))
    (Option.bind (geti s18_1 y20_2) fun x23_3 =>
    Option.bind (m_pred_Kids x23_3.Kind) fun r28_4 =>
    cond (decide ((IntKind.i64.wrap (y5_2 + (IntKind.i64.wrap (r28_4 - 1)))) = 0))
    (some (IntKind.i64.wrap (y20_2 + 1)))
    (m_pred_Size_l2 s18_1 fu_2 (IntKind.i64.wrap (y5_2 + (IntKind.i64.wrap (r28_4 - 1)))) (IntKind.i64.wrap (y20_2 + 1))))
    (some 0)
def m_pred_Size (p0 : (List GNode_)) (p1 : Int) : Option Int :=
  cond (decide (p1 < 0))
  (some 0)
  (cond (decide (((List.length p0 : Nat) : Int) ≤ p1))
  (some 0)
  (Option.bind (cut p0 p1 ((List.length p0 : Nat) : Int)) fun s18_1 =>
  m_pred_Size_l2 s18_1 1152921504606846976 1 0))

def m_slices_Equal_Node_l2 (p0 : (List GNode_)) (p1 : (List GNode_)) : Nat → Int → Option Bool
  | 0, _ => none
  | fu_2 + 1, y13_2 =>
    cond (decide (y13_2 < ((List.length p0 : Nat) : Int)))
    (Option.bind (geti p0 y13_2) fun x18_3 =>
    Option.bind (geti p1 y13_2) fun x22_3 =>
    Option.bind (some ((!(decide (((x18_3.Kind.toNat : Nat) : Int) = ((x22_3.Kind.toNat : Nat) : Int)) && (decide (((x18_3.Op.toNat : Nat) : Int) = ((x22_3.Op.toNat : Nat) : Int)) && (decide (x18_3.Var = x22_3.Var) && (decide (x18_3.Name = x22_3.Name) && ((decide (((x18_3.Val.Kind.toNat : Nat) : Int) = ((x22_3.Val.Kind.toNat : Nat) : Int)) && (decide (x18_3.Val.N = x22_3.Val.N) && (decide (x18_3.Val.Bits = x22_3.Val.Bits) && (decide (x18_3.Val.Text = x22_3.Val.Text) && true)))) && true)))))))) fun v24_3 =>
    cond v24_3
    (some false)
    (m_slices_Equal_Node_l2 p0 p1 fu_2 (IntKind.i64.wrap (y13_2 + 1))))
    (some true)
def m_slices_Equal_Node (p0 : (List GNode_)) (p1 : (List GNode_)) : Option Bool :=
  cond (decide (((List.length p0 : Nat) : Int) ≠ ((List.length p1 : Nat) : Int)))
  (some false)
  (m_slices_Equal_Node_l2 p0 p1 1152921504606846976 0)

def m_pred_Same (p0 : (List GNode_)) (p1 : (List GNode_)) : Option Bool :=
  Option.bind (m_slices_Equal_Node p0 p1) fun r7_0 =>
  some r7_0

def m_telltalelaw11_awake : Option Bool :=
  Option.bind m_telltalelaw11_example fun r3_0 =>
  Option.bind (m_pred_Vars r3_0) fun r5_1 =>
  Option.bind (m_pred_Check r3_0) fun r7_2 =>
  cond (decide (r7_2 = 0))
  (Option.bind (cut r3_0 0 7) fun s11_2 =>
  Option.bind (m_pred_Check s11_2) fun r12_2 =>
  cond (decide (r12_2 = 3))
  (Option.bind (geti r3_0 3) fun x18_2 =>
  Option.bind (app r3_0 ([x18_2] : List GNode_)) fun a21_2 =>
  Option.bind (m_pred_Check a21_2) fun r22_2 =>
  cond (decide (r22_2 = 5))
  (Option.bind (cut r3_0 2 3) fun s27_2 =>
  Option.bind (m_pred_Check s27_2) fun r28_2 =>
  cond (decide (r28_2 = 11))
  (Option.bind (m_pred_Check ([] : List GNode_)) fun r32_2 =>
  cond (decide (r32_2 = 0))
  (Option.bind (m_pred_Print r3_0) fun r37_2 =>
  Option.bind (some (decide (r37_2 = ([110, 32, 62, 61, 32, 49, 48, 32, 97, 110, 100, 32, 110, 111, 116, 32, 98, 46, 107, 32, 61, 32, 39, 120, 39] : List UInt8)))) fun v38_2 =>
  cond v38_2
  (Option.bind (m_pred_Size r3_0 1) fun r42_2 =>
  cond (decide (r42_2 = 3))
  (Option.bind (m_pred_Size r3_0 4) fun r47_2 =>
  cond (decide (r47_2 = 4))
  (Option.bind (m_pred_Kids 3) fun r51_2 =>
  cond (decide (r51_2 = 1))
  (cond (decide (((List.length r5_1 : Nat) : Int) = 1))
  (Option.bind (geti r5_1 0) fun x61_2 =>
  cond (decide (x61_2 = ([98] : List UInt8)))
  (Option.bind m_telltalelaw11_example fun r67_2 =>
  Option.bind (m_pred_Same r3_0 r67_2) fun r68_2 =>
  cond r68_2
  (Option.bind (cut r3_0 0 1) fun s73_2 =>
  Option.bind (m_pred_Same r3_0 s73_2) fun r74_2 =>
  cond (!r74_2)
  (some true)
  (some false))
  (some false))
  (some false))
  (some false))
  (some false))
  (some false))
  (some false))
  (some false))
  (some false))
  (some false))
  (some false))
  (some false))
  (some false)

def m_telltalelaw11_Own_l0 (p0 : (List GNode_)) : Nat → (List GNode_) → Int → Option (List GNode_)
  | 0, _, _ => none
  | fu_0 + 1, y3_0, y4_0 =>
    cond (decide (y4_0 < ((List.length p0 : Nat) : Int)))
    (Option.bind (geti p0 y4_0) fun x14_2 =>
    Option.bind (app y3_0 ([x14_2] : List GNode_)) fun a29_3 =>
    m_telltalelaw11_Own_l0 p0 fu_0 a29_3 (IntKind.i64.wrap (y4_0 + 1)))
    (some y3_0)
def m_telltalelaw11_Own (p0 : (List GNode_)) : Option (List GNode_) :=
  m_telltalelaw11_Own_l0 p0 1152921504606846976 ([] : List GNode_) 0

def m_telltaleref11_Kids_j1 : Option Int :=
  some 2
def m_telltaleref11_Kids (p0 : UInt8) : Option Int :=
  cond (decide (((p0.toNat : Nat) : Int) = 1))
  (m_telltaleref11_Kids_j1 )
  (cond (decide (((p0.toNat : Nat) : Int) = 2))
  (m_telltaleref11_Kids_j1 )
  (cond (decide (((p0.toNat : Nat) : Int) = 4))
  (m_telltaleref11_Kids_j1 )
  (cond (decide (((p0.toNat : Nat) : Int) = 5))
  (m_telltaleref11_Kids_j1 )
  (cond (decide (((p0.toNat : Nat) : Int) = 6))
  (some 2)
  (cond (decide (((p0.toNat : Nat) : Int) = 3))
  (some 1)
  (some 0))))))

def m_telltaleref11_Size_l1 (p0 : (List GNode_)) (p1 : Int) : Nat → Int → Int → Option Int
  | 0, _, _ => none
  | fu_1 + 1, y5_1, y6_1 =>
    cond (decide ((0 : Int) < y5_1))
    (cond (decide (((List.length p0 : Nat) : Int) ≤ y6_1))
    (some 0)
    (Option.bind (geti p0 y6_1) fun x26_3 =>
    Option.bind (m_telltaleref11_Kids x26_3.Kind) fun r29_3 =>
    m_telltaleref11_Size_l1 p0 p1 fu_1 (IntKind.i64.wrap ((IntKind.i64.wrap (y5_1 - 1)) + r29_3)) (IntKind.i64.wrap (y6_1 + 1))))
    (some (IntKind.i64.wrap (y6_1 - p1)))
def m_telltaleref11_Size (p0 : (List GNode_)) (p1 : Int) : Option Int :=
  cond (decide (p1 < 0))
  (some 0)
  (cond (decide (((List.length p0 : Nat) : Int) ≤ p1))
  (some 0)
  (m_telltaleref11_Size_l1 p0 p1 1152921504606846976 1 p1))

def m_telltaleref11_may (p0 : UInt8) (p1 : Int) : Option Bool :=
  cond (decide (p1 = 1))
  (cond (decide ((1 : Int) ≤ ((p0.toNat : Nat) : Int)))
  (some (decide (((p0.toNat : Nat) : Int) ≤ 4)))
  (some false))
  (cond (decide (p1 = 2))
  (cond (decide ((5 : Int) ≤ ((p0.toNat : Nat) : Int)))
  (some (decide (((p0.toNat : Nat) : Int) ≤ 9)))
  (some false))
  (cond (decide ((7 : Int) ≤ ((p0.toNat : Nat) : Int)))
  (some (decide (((p0.toNat : Nat) : Int) ≤ 9)))
  (some false)))

def m_telltaleref06_Reserved_l0 (p0 : (List UInt8)) : Nat → Int → Option Bool
  | 0, _ => none
  | fu_0 + 1, y4_0 =>
    Option.bind (some (((List.length ([([119, 105, 116, 104, 105, 110] : List UInt8), ([98, 121] : List UInt8), ([97, 110, 100] : List UInt8), ([111, 114] : List UInt8), ([110, 111, 116] : List UInt8), ([97, 110, 121] : List UInt8), ([110, 101, 120, 116] : List UInt8), ([115, 116, 114, 105, 99, 116] : List UInt8), ([116, 114, 117, 101] : List UInt8), ([102, 97, 108, 115, 101] : List UInt8)] : List (List UInt8)) : Nat) : Int))) fun v8_2 =>
    cond (decide (y4_0 < v8_2))
    (Option.bind (geti ([([119, 105, 116, 104, 105, 110] : List UInt8), ([98, 121] : List UInt8), ([97, 110, 100] : List UInt8), ([111, 114] : List UInt8), ([110, 111, 116] : List UInt8), ([97, 110, 121] : List UInt8), ([110, 101, 120, 116] : List UInt8), ([115, 116, 114, 105, 99, 116] : List UInt8), ([116, 114, 117, 101] : List UInt8), ([102, 97, 108, 115, 101] : List UInt8)] : List (List UInt8)) y4_0) fun x14_3 =>
    cond (decide (x14_3 = p0))
    (some true)
    (m_telltaleref06_Reserved_l0 p0 fu_0 (IntKind.i64.wrap (y4_0 + 1))))
    (some false)
def m_telltaleref06_Reserved (p0 : (List UInt8)) : Option Bool :=
  m_telltaleref06_Reserved_l0 p0 1152921504606846976 0

def m_telltaleref06_Name_j1 : Option Bool :=
  some false
def m_telltaleref06_Name_j6 (x31_4 : UInt8) (y3_2 : Int) (k_m_telltaleref06_Name_l2 : Int → Option Bool) (y5_6 : Bool) : Option Bool :=
  cond (!decide (((x31_4.toNat : Nat) : Int) ≤ 122))
  (cond (decide (y3_2 = 0))
  (some false)
  (cond (!y5_6)
  (some false)
  (k_m_telltaleref06_Name_l2 (IntKind.i64.wrap (y3_2 + 1)))))
  (k_m_telltaleref06_Name_l2 (IntKind.i64.wrap (y3_2 + 1)))
def m_telltaleref06_Name_j11 (y3_2 : Int) (k_m_telltaleref06_Name_l2 : Int → Option Bool) : Option Bool :=
  k_m_telltaleref06_Name_l2 (IntKind.i64.wrap (y3_2 + 1))
def m_telltaleref06_Name_j10 (y3_2 : Int) (k_m_telltaleref06_Name_l2 : Int → Option Bool) (y5_10 : Bool) : Option Bool :=
  cond (decide (y3_2 = 0))
  (some false)
  (cond (!y5_10)
  (some false)
  (k_m_telltaleref06_Name_l2 (IntKind.i64.wrap (y3_2 + 1))))
def m_telltaleref06_Name_l2 (p0 : (List UInt8)) : Nat → Int → Option Bool
  | 0, _ => none
  | fu_2 + 1, y3_2 =>
    cond (decide (y3_2 < ((List.length p0 : Nat) : Int)))
    (Option.bind (geti p0 y3_2) fun x26_4 =>
    cond (decide ((97 : Int) ≤ ((x26_4.toNat : Nat) : Int)))
    (Option.bind (geti p0 y3_2) fun x31_4 =>
    Option.bind (geti p0 y3_2) fun x36_5 =>
    cond (decide ((48 : Int) ≤ ((x36_5.toNat : Nat) : Int)))
    (Option.bind (geti p0 y3_2) fun x41_5 =>
    cond (decide (((x41_5.toNat : Nat) : Int) ≤ 57))
    (cond (!decide (((x31_4.toNat : Nat) : Int) ≤ 122))
    (cond (decide (y3_2 = 0))
    (some false)
    (m_telltaleref06_Name_j11 y3_2 (fun y3_2 => m_telltaleref06_Name_l2 p0 fu_2 y3_2)))
    (m_telltaleref06_Name_j11 y3_2 (fun y3_2 => m_telltaleref06_Name_l2 p0 fu_2 y3_2)))
    (Option.bind (geti p0 y3_2) fun x47_5 =>
    m_telltaleref06_Name_j6 x31_4 y3_2 (fun y3_2 => m_telltaleref06_Name_l2 p0 fu_2 y3_2) (decide (((x47_5.toNat : Nat) : Int) = 95))))
    (Option.bind (geti p0 y3_2) fun x47_5 =>
    m_telltaleref06_Name_j6 x31_4 y3_2 (fun y3_2 => m_telltaleref06_Name_l2 p0 fu_2 y3_2) (decide (((x47_5.toNat : Nat) : Int) = 95))))
    (Option.bind (geti p0 y3_2) fun x36_9 =>
    cond (decide ((48 : Int) ≤ ((x36_9.toNat : Nat) : Int)))
    (Option.bind (geti p0 y3_2) fun x41_9 =>
    cond (decide (((x41_9.toNat : Nat) : Int) ≤ 57))
    (cond (decide (y3_2 = 0))
    (some false)
    (m_telltaleref06_Name_l2 p0 fu_2 (IntKind.i64.wrap (y3_2 + 1))))
    (Option.bind (geti p0 y3_2) fun x47_9 =>
    m_telltaleref06_Name_j10 y3_2 (fun y3_2 => m_telltaleref06_Name_l2 p0 fu_2 y3_2) (decide (((x47_9.toNat : Nat) : Int) = 95))))
    (Option.bind (geti p0 y3_2) fun x47_9 =>
    m_telltaleref06_Name_j10 y3_2 (fun y3_2 => m_telltaleref06_Name_l2 p0 fu_2 y3_2) (decide (((x47_9.toNat : Nat) : Int) = 95)))))
    (some true)
def m_telltaleref06_Name (p0 : (List UInt8)) : Option Bool :=
  cond (decide (((List.length p0 : Nat) : Int) < 1))
  (m_telltaleref06_Name_j1 )
  (cond (decide ((12 : Int) < ((List.length p0 : Nat) : Int)))
  (m_telltaleref06_Name_j1 )
  (Option.bind (m_telltaleref06_Reserved p0) fun r16_0 =>
  cond r16_0
  (some false)
  (m_telltaleref06_Name_l2 p0 1152921504606846976 0)))

def m_telltaleref03_Exp (p0 : Int) : Option Int :=
  some (IntKind.i64.wrap (Int.tmod (IntKind.u64.wrap (Int.tdiv p0 4503599627370496)) 2048))

def m_telltaleref03_Frac (p0 : Int) : Option Int :=
  some (Int.tmod p0 4503599627370496)

def m_telltaleref03_Kind_j1 (p0 : Int) : Option UInt8 :=
  Option.bind (m_telltaleref03_Exp p0) fun r12_2 =>
  cond (decide (r12_2 = 2047))
  (some 4)
  (Option.bind (m_telltaleref03_Exp p0) fun r15_3 =>
  cond (decide (r15_3 ≠ 0))
  (some 3)
  (Option.bind (m_telltaleref03_Frac p0) fun r18_4 =>
  cond (decide (r18_4 ≠ 0))
  (some 2)
  (some 1)))
def m_telltaleref03_Kind (p0 : Int) : Option UInt8 :=
  Option.bind (m_telltaleref03_Exp p0) fun r4_0 =>
  cond (decide (r4_0 = 2047))
  (Option.bind (m_telltaleref03_Frac p0) fun r8_0 =>
  cond (decide (r8_0 ≠ 0))
  (some 5)
  (m_telltaleref03_Kind_j1 p0))
  (m_telltaleref03_Kind_j1 p0)

def m_telltaleref03_Clean (p0 : Int) : Option Int :=
  Option.bind (m_telltaleref03_Kind p0) fun r4_0 =>
  cond (decide (((r4_0.toNat : Nat) : Int) = 5))
  (some 9221120237041090560)
  (some p0)

def m_telltaleref04_Check_j11 : Option Int :=
  some 2
def m_telltaleref04_Check_j12 (p0 : GValue) : Option Int :=
  cond (decide (p0.Text ≠ ([] : List UInt8)))
  (some 2)
  (some 0)
def m_telltaleref04_Check_j13 : Option Int :=
  some 0
def m_telltaleref04_Check_j9 (p0 : GValue) : Option Int :=
  cond (decide ((2 : Int) < ((p0.Kind.toNat : Nat) : Int)))
  (cond (decide (p0.N ≠ 0))
  (m_telltaleref04_Check_j11 )
  (cond (decide (((p0.Kind.toNat : Nat) : Int) ≠ 3))
  (cond (decide (p0.Bits ≠ 0))
  (m_telltaleref04_Check_j11 )
  (cond (decide (((p0.Kind.toNat : Nat) : Int) ≠ 4))
  (m_telltaleref04_Check_j12 p0)
  (m_telltaleref04_Check_j13 )))
  (cond (decide (((p0.Kind.toNat : Nat) : Int) ≠ 4))
  (m_telltaleref04_Check_j12 p0)
  (m_telltaleref04_Check_j13 ))))
  (cond (decide (((p0.Kind.toNat : Nat) : Int) ≠ 3))
  (cond (decide (p0.Bits ≠ 0))
  (m_telltaleref04_Check_j11 )
  (cond (decide (((p0.Kind.toNat : Nat) : Int) ≠ 4))
  (m_telltaleref04_Check_j12 p0)
  (m_telltaleref04_Check_j13 )))
  (cond (decide (((p0.Kind.toNat : Nat) : Int) ≠ 4))
  (m_telltaleref04_Check_j12 p0)
  (m_telltaleref04_Check_j13 )))
def m_telltaleref04_Check_j7 (p0 : GValue) : Option Int :=
  cond (decide (((p0.Kind.toNat : Nat) : Int) = 4))
  (cond (decide ((24 : Int) < ((List.length p0.Text : Nat) : Int)))
  (some 5)
  (m_telltaleref04_Check_j9 p0))
  (m_telltaleref04_Check_j9 p0)
def m_telltaleref04_Check_j5 (p0 : GValue) : Option Int :=
  cond (decide (((p0.Kind.toNat : Nat) : Int) = 3))
  (Option.bind (m_telltaleref03_Clean p0.Bits) fun r45_6 =>
  cond (decide (r45_6 ≠ p0.Bits))
  (some 4)
  (m_telltaleref04_Check_j7 p0))
  (m_telltaleref04_Check_j7 p0)
def m_telltaleref04_Check_j2 : Option Int :=
  some 8
def m_telltaleref04_Check_j3 (p0 : GValue) : Option Int :=
  cond (decide ((1 : Int) < p0.N))
  (some 8)
  (m_telltaleref04_Check_j5 p0)
def m_telltaleref04_Check_j4 (p0 : GValue) : Option Int :=
  m_telltaleref04_Check_j5 p0
def m_telltaleref04_Check (p0 : GValue) : Option Int :=
  cond (decide (((p0.Kind.toNat : Nat) : Int) < 1))
  (some 11)
  (cond (decide ((4 : Int) < ((p0.Kind.toNat : Nat) : Int)))
  (some 11)
  (cond (decide (((p0.Kind.toNat : Nat) : Int) = 1))
  (cond (decide (p0.N < (-4611686018427387904)))
  (m_telltaleref04_Check_j2 )
  (cond (decide ((4611686018427387904 : Int) < p0.N))
  (m_telltaleref04_Check_j2 )
  (cond (decide (((p0.Kind.toNat : Nat) : Int) = 2))
  (cond (decide (p0.N < 0))
  (m_telltaleref04_Check_j2 )
  (m_telltaleref04_Check_j3 p0))
  (m_telltaleref04_Check_j4 p0))))
  (cond (decide (((p0.Kind.toNat : Nat) : Int) = 2))
  (cond (decide (p0.N < 0))
  (m_telltaleref04_Check_j2 )
  (m_telltaleref04_Check_j3 p0))
  (m_telltaleref04_Check_j4 p0))))

def m_telltaleref11_needs_j1 : Option Int :=
  some 4
def m_telltaleref11_needs_j5 : Option Int :=
  some 2
def m_telltaleref11_needs_j6 (y101_6 : Bool) : Option Int :=
  cond y101_6
  (some 2)
  (some 0)
def m_telltaleref11_needs_j7 : Option Int :=
  some 0
def m_telltaleref11_needs_j2 (p0 : GNode_) (y4_2 : Bool) : Option Int :=
  cond y4_2
  (some 4)
  (cond (decide (((p0.Kind.toNat : Nat) : Int) ≠ 4))
  (cond (decide (((p0.Op.toNat : Nat) : Int) ≠ 0))
  (m_telltaleref11_needs_j5 )
  (cond (decide (((p0.Kind.toNat : Nat) : Int) ≠ 7))
  (cond (decide (((p0.Kind.toNat : Nat) : Int) ≠ 8))
  (cond (decide (p0.Name ≠ ([] : List UInt8)))
  (m_telltaleref11_needs_j5 )
  (cond (decide (((p0.Kind.toNat : Nat) : Int) ≠ 8))
  (cond (decide (p0.Var ≠ ([] : List UInt8)))
  (m_telltaleref11_needs_j5 )
  (cond (decide (((p0.Kind.toNat : Nat) : Int) ≠ 9))
  (Option.bind (some ((!(decide (((p0.Val.Kind.toNat : Nat) : Int) = 0) && (decide (p0.Val.N = 0) && (decide (p0.Val.Bits = 0) && (decide (p0.Val.Text = ([] : List UInt8)) && true))))))) fun v99_4 =>
  m_telltaleref11_needs_j6  v99_4)
  (m_telltaleref11_needs_j7 )))
  (cond (decide (((p0.Kind.toNat : Nat) : Int) ≠ 9))
  (Option.bind (some ((!(decide (((p0.Val.Kind.toNat : Nat) : Int) = 0) && (decide (p0.Val.N = 0) && (decide (p0.Val.Bits = 0) && (decide (p0.Val.Text = ([] : List UInt8)) && true))))))) fun v99_4 =>
  m_telltaleref11_needs_j6  v99_4)
  (m_telltaleref11_needs_j7 ))))
  (cond (decide (((p0.Kind.toNat : Nat) : Int) ≠ 8))
  (cond (decide (p0.Var ≠ ([] : List UInt8)))
  (m_telltaleref11_needs_j5 )
  (cond (decide (((p0.Kind.toNat : Nat) : Int) ≠ 9))
  (Option.bind (some ((!(decide (((p0.Val.Kind.toNat : Nat) : Int) = 0) && (decide (p0.Val.N = 0) && (decide (p0.Val.Bits = 0) && (decide (p0.Val.Text = ([] : List UInt8)) && true))))))) fun v99_4 =>
  m_telltaleref11_needs_j6  v99_4)
  (m_telltaleref11_needs_j7 )))
  (cond (decide (((p0.Kind.toNat : Nat) : Int) ≠ 9))
  (Option.bind (some ((!(decide (((p0.Val.Kind.toNat : Nat) : Int) = 0) && (decide (p0.Val.N = 0) && (decide (p0.Val.Bits = 0) && (decide (p0.Val.Text = ([] : List UInt8)) && true))))))) fun v99_4 =>
  m_telltaleref11_needs_j6  v99_4)
  (m_telltaleref11_needs_j7 ))))
  (cond (decide (((p0.Kind.toNat : Nat) : Int) ≠ 8))
  (cond (decide (p0.Var ≠ ([] : List UInt8)))
  (m_telltaleref11_needs_j5 )
  (cond (decide (((p0.Kind.toNat : Nat) : Int) ≠ 9))
  (Option.bind (some ((!(decide (((p0.Val.Kind.toNat : Nat) : Int) = 0) && (decide (p0.Val.N = 0) && (decide (p0.Val.Bits = 0) && (decide (p0.Val.Text = ([] : List UInt8)) && true))))))) fun v99_4 =>
  m_telltaleref11_needs_j6  v99_4)
  (m_telltaleref11_needs_j7 )))
  (cond (decide (((p0.Kind.toNat : Nat) : Int) ≠ 9))
  (Option.bind (some ((!(decide (((p0.Val.Kind.toNat : Nat) : Int) = 0) && (decide (p0.Val.N = 0) && (decide (p0.Val.Bits = 0) && (decide (p0.Val.Text = ([] : List UInt8)) && true))))))) fun v99_4 =>
  m_telltaleref11_needs_j6  v99_4)
  (m_telltaleref11_needs_j7 )))))
  (cond (decide (((p0.Kind.toNat : Nat) : Int) ≠ 7))
  (cond (decide (((p0.Kind.toNat : Nat) : Int) ≠ 8))
  (cond (decide (p0.Name ≠ ([] : List UInt8)))
  (m_telltaleref11_needs_j5 )
  (cond (decide (((p0.Kind.toNat : Nat) : Int) ≠ 8))
  (cond (decide (p0.Var ≠ ([] : List UInt8)))
  (m_telltaleref11_needs_j5 )
  (cond (decide (((p0.Kind.toNat : Nat) : Int) ≠ 9))
  (Option.bind (some ((!(decide (((p0.Val.Kind.toNat : Nat) : Int) = 0) && (decide (p0.Val.N = 0) && (decide (p0.Val.Bits = 0) && (decide (p0.Val.Text = ([] : List UInt8)) && true))))))) fun v99_4 =>
  m_telltaleref11_needs_j6  v99_4)
  (m_telltaleref11_needs_j7 )))
  (cond (decide (((p0.Kind.toNat : Nat) : Int) ≠ 9))
  (Option.bind (some ((!(decide (((p0.Val.Kind.toNat : Nat) : Int) = 0) && (decide (p0.Val.N = 0) && (decide (p0.Val.Bits = 0) && (decide (p0.Val.Text = ([] : List UInt8)) && true))))))) fun v99_4 =>
  m_telltaleref11_needs_j6  v99_4)
  (m_telltaleref11_needs_j7 ))))
  (cond (decide (((p0.Kind.toNat : Nat) : Int) ≠ 8))
  (cond (decide (p0.Var ≠ ([] : List UInt8)))
  (m_telltaleref11_needs_j5 )
  (cond (decide (((p0.Kind.toNat : Nat) : Int) ≠ 9))
  (Option.bind (some ((!(decide (((p0.Val.Kind.toNat : Nat) : Int) = 0) && (decide (p0.Val.N = 0) && (decide (p0.Val.Bits = 0) && (decide (p0.Val.Text = ([] : List UInt8)) && true))))))) fun v99_4 =>
  m_telltaleref11_needs_j6  v99_4)
  (m_telltaleref11_needs_j7 )))
  (cond (decide (((p0.Kind.toNat : Nat) : Int) ≠ 9))
  (Option.bind (some ((!(decide (((p0.Val.Kind.toNat : Nat) : Int) = 0) && (decide (p0.Val.N = 0) && (decide (p0.Val.Bits = 0) && (decide (p0.Val.Text = ([] : List UInt8)) && true))))))) fun v99_4 =>
  m_telltaleref11_needs_j6  v99_4)
  (m_telltaleref11_needs_j7 ))))
  (cond (decide (((p0.Kind.toNat : Nat) : Int) ≠ 8))
  (cond (decide (p0.Var ≠ ([] : List UInt8)))
  (m_telltaleref11_needs_j5 )
  (cond (decide (((p0.Kind.toNat : Nat) : Int) ≠ 9))
  (Option.bind (some ((!(decide (((p0.Val.Kind.toNat : Nat) : Int) = 0) && (decide (p0.Val.N = 0) && (decide (p0.Val.Bits = 0) && (decide (p0.Val.Text = ([] : List UInt8)) && true))))))) fun v99_4 =>
  m_telltaleref11_needs_j6  v99_4)
  (m_telltaleref11_needs_j7 )))
  (cond (decide (((p0.Kind.toNat : Nat) : Int) ≠ 9))
  (Option.bind (some ((!(decide (((p0.Val.Kind.toNat : Nat) : Int) = 0) && (decide (p0.Val.N = 0) && (decide (p0.Val.Bits = 0) && (decide (p0.Val.Text = ([] : List UInt8)) && true))))))) fun v99_4 =>
  m_telltaleref11_needs_j6  v99_4)
  (m_telltaleref11_needs_j7 )))))
def m_telltaleref11_needs_j9 : Option Int :=
  some 2
def m_telltaleref11_needs_j10 (y101_10 : Bool) : Option Int :=
  cond y101_10
  (some 2)
  (some 0)
def m_telltaleref11_needs_j11 : Option Int :=
  some 0
def m_telltaleref11_needs_j3 (p0 : GNode_) : Option Int :=
  cond (decide (((p0.Kind.toNat : Nat) : Int) ≠ 4))
  (cond (decide (((p0.Op.toNat : Nat) : Int) ≠ 0))
  (m_telltaleref11_needs_j9 )
  (cond (decide (((p0.Kind.toNat : Nat) : Int) ≠ 7))
  (cond (decide (((p0.Kind.toNat : Nat) : Int) ≠ 8))
  (cond (decide (p0.Name ≠ ([] : List UInt8)))
  (m_telltaleref11_needs_j9 )
  (cond (decide (((p0.Kind.toNat : Nat) : Int) ≠ 8))
  (cond (decide (p0.Var ≠ ([] : List UInt8)))
  (m_telltaleref11_needs_j9 )
  (cond (decide (((p0.Kind.toNat : Nat) : Int) ≠ 9))
  (Option.bind (some ((!(decide (((p0.Val.Kind.toNat : Nat) : Int) = 0) && (decide (p0.Val.N = 0) && (decide (p0.Val.Bits = 0) && (decide (p0.Val.Text = ([] : List UInt8)) && true))))))) fun v99_8 =>
  m_telltaleref11_needs_j10  v99_8)
  (m_telltaleref11_needs_j11 )))
  (cond (decide (((p0.Kind.toNat : Nat) : Int) ≠ 9))
  (Option.bind (some ((!(decide (((p0.Val.Kind.toNat : Nat) : Int) = 0) && (decide (p0.Val.N = 0) && (decide (p0.Val.Bits = 0) && (decide (p0.Val.Text = ([] : List UInt8)) && true))))))) fun v99_8 =>
  m_telltaleref11_needs_j10  v99_8)
  (m_telltaleref11_needs_j11 ))))
  (cond (decide (((p0.Kind.toNat : Nat) : Int) ≠ 8))
  (cond (decide (p0.Var ≠ ([] : List UInt8)))
  (m_telltaleref11_needs_j9 )
  (cond (decide (((p0.Kind.toNat : Nat) : Int) ≠ 9))
  (Option.bind (some ((!(decide (((p0.Val.Kind.toNat : Nat) : Int) = 0) && (decide (p0.Val.N = 0) && (decide (p0.Val.Bits = 0) && (decide (p0.Val.Text = ([] : List UInt8)) && true))))))) fun v99_8 =>
  m_telltaleref11_needs_j10  v99_8)
  (m_telltaleref11_needs_j11 )))
  (cond (decide (((p0.Kind.toNat : Nat) : Int) ≠ 9))
  (Option.bind (some ((!(decide (((p0.Val.Kind.toNat : Nat) : Int) = 0) && (decide (p0.Val.N = 0) && (decide (p0.Val.Bits = 0) && (decide (p0.Val.Text = ([] : List UInt8)) && true))))))) fun v99_8 =>
  m_telltaleref11_needs_j10  v99_8)
  (m_telltaleref11_needs_j11 ))))
  (cond (decide (((p0.Kind.toNat : Nat) : Int) ≠ 8))
  (cond (decide (p0.Var ≠ ([] : List UInt8)))
  (m_telltaleref11_needs_j9 )
  (cond (decide (((p0.Kind.toNat : Nat) : Int) ≠ 9))
  (Option.bind (some ((!(decide (((p0.Val.Kind.toNat : Nat) : Int) = 0) && (decide (p0.Val.N = 0) && (decide (p0.Val.Bits = 0) && (decide (p0.Val.Text = ([] : List UInt8)) && true))))))) fun v99_8 =>
  m_telltaleref11_needs_j10  v99_8)
  (m_telltaleref11_needs_j11 )))
  (cond (decide (((p0.Kind.toNat : Nat) : Int) ≠ 9))
  (Option.bind (some ((!(decide (((p0.Val.Kind.toNat : Nat) : Int) = 0) && (decide (p0.Val.N = 0) && (decide (p0.Val.Bits = 0) && (decide (p0.Val.Text = ([] : List UInt8)) && true))))))) fun v99_8 =>
  m_telltaleref11_needs_j10  v99_8)
  (m_telltaleref11_needs_j11 )))))
  (cond (decide (((p0.Kind.toNat : Nat) : Int) ≠ 7))
  (cond (decide (((p0.Kind.toNat : Nat) : Int) ≠ 8))
  (cond (decide (p0.Name ≠ ([] : List UInt8)))
  (m_telltaleref11_needs_j9 )
  (cond (decide (((p0.Kind.toNat : Nat) : Int) ≠ 8))
  (cond (decide (p0.Var ≠ ([] : List UInt8)))
  (m_telltaleref11_needs_j9 )
  (cond (decide (((p0.Kind.toNat : Nat) : Int) ≠ 9))
  (Option.bind (some ((!(decide (((p0.Val.Kind.toNat : Nat) : Int) = 0) && (decide (p0.Val.N = 0) && (decide (p0.Val.Bits = 0) && (decide (p0.Val.Text = ([] : List UInt8)) && true))))))) fun v99_8 =>
  m_telltaleref11_needs_j10  v99_8)
  (m_telltaleref11_needs_j11 )))
  (cond (decide (((p0.Kind.toNat : Nat) : Int) ≠ 9))
  (Option.bind (some ((!(decide (((p0.Val.Kind.toNat : Nat) : Int) = 0) && (decide (p0.Val.N = 0) && (decide (p0.Val.Bits = 0) && (decide (p0.Val.Text = ([] : List UInt8)) && true))))))) fun v99_8 =>
  m_telltaleref11_needs_j10  v99_8)
  (m_telltaleref11_needs_j11 ))))
  (cond (decide (((p0.Kind.toNat : Nat) : Int) ≠ 8))
  (cond (decide (p0.Var ≠ ([] : List UInt8)))
  (m_telltaleref11_needs_j9 )
  (cond (decide (((p0.Kind.toNat : Nat) : Int) ≠ 9))
  (Option.bind (some ((!(decide (((p0.Val.Kind.toNat : Nat) : Int) = 0) && (decide (p0.Val.N = 0) && (decide (p0.Val.Bits = 0) && (decide (p0.Val.Text = ([] : List UInt8)) && true))))))) fun v99_8 =>
  m_telltaleref11_needs_j10  v99_8)
  (m_telltaleref11_needs_j11 )))
  (cond (decide (((p0.Kind.toNat : Nat) : Int) ≠ 9))
  (Option.bind (some ((!(decide (((p0.Val.Kind.toNat : Nat) : Int) = 0) && (decide (p0.Val.N = 0) && (decide (p0.Val.Bits = 0) && (decide (p0.Val.Text = ([] : List UInt8)) && true))))))) fun v99_8 =>
  m_telltaleref11_needs_j10  v99_8)
  (m_telltaleref11_needs_j11 ))))
  (cond (decide (((p0.Kind.toNat : Nat) : Int) ≠ 8))
  (cond (decide (p0.Var ≠ ([] : List UInt8)))
  (m_telltaleref11_needs_j9 )
  (cond (decide (((p0.Kind.toNat : Nat) : Int) ≠ 9))
  (Option.bind (some ((!(decide (((p0.Val.Kind.toNat : Nat) : Int) = 0) && (decide (p0.Val.N = 0) && (decide (p0.Val.Bits = 0) && (decide (p0.Val.Text = ([] : List UInt8)) && true))))))) fun v99_8 =>
  m_telltaleref11_needs_j10  v99_8)
  (m_telltaleref11_needs_j11 )))
  (cond (decide (((p0.Kind.toNat : Nat) : Int) ≠ 9))
  (Option.bind (some ((!(decide (((p0.Val.Kind.toNat : Nat) : Int) = 0) && (decide (p0.Val.N = 0) && (decide (p0.Val.Bits = 0) && (decide (p0.Val.Text = ([] : List UInt8)) && true))))))) fun v99_8 =>
  m_telltaleref11_needs_j10  v99_8)
  (m_telltaleref11_needs_j11 ))))
def m_telltaleref11_needs (p0 : GNode_) : Option Int :=
  cond (decide (((p0.Kind.toNat : Nat) : Int) = 4))
  (cond (decide (((p0.Op.toNat : Nat) : Int) < 1))
  (m_telltaleref11_needs_j1 )
  (cond (decide ((6 : Int) < ((p0.Op.toNat : Nat) : Int)))
  (m_telltaleref11_needs_j1 )
  (cond (decide (((p0.Kind.toNat : Nat) : Int) = 7))
  (Option.bind (m_telltaleref06_Name p0.Name) fun r31_0 =>
  cond (!r31_0)
  (m_telltaleref11_needs_j1 )
  (cond (decide (((p0.Kind.toNat : Nat) : Int) = 8))
  (Option.bind (m_telltaleref06_Name p0.Var) fun r42_0 =>
  cond (!r42_0)
  (m_telltaleref11_needs_j1 )
  (cond (decide (((p0.Kind.toNat : Nat) : Int) = 9))
  (Option.bind (m_telltaleref04_Check p0.Val) fun r53_0 =>
  m_telltaleref11_needs_j2 p0 (decide (r53_0 ≠ 0)))
  (m_telltaleref11_needs_j3 p0)))
  (cond (decide (((p0.Kind.toNat : Nat) : Int) = 9))
  (Option.bind (m_telltaleref04_Check p0.Val) fun r53_0 =>
  m_telltaleref11_needs_j2 p0 (decide (r53_0 ≠ 0)))
  (m_telltaleref11_needs_j3 p0))))
  (cond (decide (((p0.Kind.toNat : Nat) : Int) = 8))
  (Option.bind (m_telltaleref06_Name p0.Name) fun r31_0 =>
  cond (!r31_0)
  (m_telltaleref11_needs_j1 )
  (cond (decide (((p0.Kind.toNat : Nat) : Int) = 8))
  (Option.bind (m_telltaleref06_Name p0.Var) fun r42_0 =>
  cond (!r42_0)
  (m_telltaleref11_needs_j1 )
  (cond (decide (((p0.Kind.toNat : Nat) : Int) = 9))
  (Option.bind (m_telltaleref04_Check p0.Val) fun r53_0 =>
  m_telltaleref11_needs_j2 p0 (decide (r53_0 ≠ 0)))
  (m_telltaleref11_needs_j3 p0)))
  (cond (decide (((p0.Kind.toNat : Nat) : Int) = 9))
  (Option.bind (m_telltaleref04_Check p0.Val) fun r53_0 =>
  m_telltaleref11_needs_j2 p0 (decide (r53_0 ≠ 0)))
  (m_telltaleref11_needs_j3 p0))))
  (cond (decide (((p0.Kind.toNat : Nat) : Int) = 8))
  (Option.bind (m_telltaleref06_Name p0.Var) fun r42_0 =>
  cond (!r42_0)
  (m_telltaleref11_needs_j1 )
  (cond (decide (((p0.Kind.toNat : Nat) : Int) = 9))
  (Option.bind (m_telltaleref04_Check p0.Val) fun r53_0 =>
  m_telltaleref11_needs_j2 p0 (decide (r53_0 ≠ 0)))
  (m_telltaleref11_needs_j3 p0)))
  (cond (decide (((p0.Kind.toNat : Nat) : Int) = 9))
  (Option.bind (m_telltaleref04_Check p0.Val) fun r53_0 =>
  m_telltaleref11_needs_j2 p0 (decide (r53_0 ≠ 0)))
  (m_telltaleref11_needs_j3 p0)))))))
  (cond (decide (((p0.Kind.toNat : Nat) : Int) = 7))
  (Option.bind (m_telltaleref06_Name p0.Name) fun r31_0 =>
  cond (!r31_0)
  (m_telltaleref11_needs_j1 )
  (cond (decide (((p0.Kind.toNat : Nat) : Int) = 8))
  (Option.bind (m_telltaleref06_Name p0.Var) fun r42_0 =>
  cond (!r42_0)
  (m_telltaleref11_needs_j1 )
  (cond (decide (((p0.Kind.toNat : Nat) : Int) = 9))
  (Option.bind (m_telltaleref04_Check p0.Val) fun r53_0 =>
  m_telltaleref11_needs_j2 p0 (decide (r53_0 ≠ 0)))
  (m_telltaleref11_needs_j3 p0)))
  (cond (decide (((p0.Kind.toNat : Nat) : Int) = 9))
  (Option.bind (m_telltaleref04_Check p0.Val) fun r53_0 =>
  m_telltaleref11_needs_j2 p0 (decide (r53_0 ≠ 0)))
  (m_telltaleref11_needs_j3 p0))))
  (cond (decide (((p0.Kind.toNat : Nat) : Int) = 8))
  (Option.bind (m_telltaleref06_Name p0.Name) fun r31_0 =>
  cond (!r31_0)
  (m_telltaleref11_needs_j1 )
  (cond (decide (((p0.Kind.toNat : Nat) : Int) = 8))
  (Option.bind (m_telltaleref06_Name p0.Var) fun r42_0 =>
  cond (!r42_0)
  (m_telltaleref11_needs_j1 )
  (cond (decide (((p0.Kind.toNat : Nat) : Int) = 9))
  (Option.bind (m_telltaleref04_Check p0.Val) fun r53_0 =>
  m_telltaleref11_needs_j2 p0 (decide (r53_0 ≠ 0)))
  (m_telltaleref11_needs_j3 p0)))
  (cond (decide (((p0.Kind.toNat : Nat) : Int) = 9))
  (Option.bind (m_telltaleref04_Check p0.Val) fun r53_0 =>
  m_telltaleref11_needs_j2 p0 (decide (r53_0 ≠ 0)))
  (m_telltaleref11_needs_j3 p0))))
  (cond (decide (((p0.Kind.toNat : Nat) : Int) = 8))
  (Option.bind (m_telltaleref06_Name p0.Var) fun r42_0 =>
  cond (!r42_0)
  (m_telltaleref11_needs_j1 )
  (cond (decide (((p0.Kind.toNat : Nat) : Int) = 9))
  (Option.bind (m_telltaleref04_Check p0.Val) fun r53_0 =>
  m_telltaleref11_needs_j2 p0 (decide (r53_0 ≠ 0)))
  (m_telltaleref11_needs_j3 p0)))
  (cond (decide (((p0.Kind.toNat : Nat) : Int) = 9))
  (Option.bind (m_telltaleref04_Check p0.Val) fun r53_0 =>
  m_telltaleref11_needs_j2 p0 (decide (r53_0 ≠ 0)))
  (m_telltaleref11_needs_j3 p0)))))

def m_telltaleref11_kid (p0 : UInt8) (p1 : Int) : Option Int :=
  cond (decide (((p0.toNat : Nat) : Int) ≤ 3))
  (some 1)
  (cond (decide (((p0.toNat : Nat) : Int) = 4))
  (some 2)
  (cond (decide (p1 = 0))
  (some 2)
  (some 3)))

def m_telltaleref11_tree_l4 (p0 : (List GNode_)) (p3 : Int) (x25_1 : GNode_) (k_rec : (List GNode_) → Int → Int → Int → Option (Int × Int)) : Nat → Int → Int → Option (Int × Int)
  | 0, _, _ => none
  | fu_4 + 1, y1_4, y12_4 =>
    Option.bind (m_telltaleref11_Kids x25_1.Kind) fun r44_5 =>
    cond (decide (y12_4 < r44_5))
    (Option.bind (m_telltaleref11_kid x25_1.Kind y12_4) fun r54_6 =>
    Option.bind (k_rec p0 y1_4 r54_6 (IntKind.i64.wrap (p3 + 1))) fun r57_6 =>
    cond (decide (r57_6.2 ≠ 0))
    (some (r57_6.1, r57_6.2))
    (m_telltaleref11_tree_l4 p0 p3 x25_1 k_rec fu_4 r57_6.1 (IntKind.i64.wrap (y12_4 + 1))))
    (some (y1_4, 0))
def m_telltaleref11_tree : Nat → (List GNode_) → Int → Int → Int → Option (Int × Int)
  | 0, _, _, _, _ => none
  | fuR + 1, p0, p1, p2, p3 =>
    cond (decide (((List.length p0 : Nat) : Int) ≤ p1))
    (some (p1, 3))
    (cond (decide ((16 : Int) ≤ p3))
    (some (p1, 15))
    (Option.bind (geti p0 p1) fun x25_1 =>
    Option.bind (m_telltaleref11_may x25_1.Kind p2) fun r30_2 =>
    cond (!r30_2)
    (some (p1, 11))
    (Option.bind (m_telltaleref11_needs x25_1) fun r34_3 =>
    cond (decide (r34_3 ≠ 0))
    (some (p1, r34_3))
    (m_telltaleref11_tree_l4 p0 p3 x25_1 (fun p0 p1 p2 p3 => m_telltaleref11_tree fuR p0 p1 p2 p3) 1152921504606846976 (IntKind.i64.wrap (p1 + 1)) 0))))

def m_telltaleref11_Check (p0 : (List GNode_)) : Option Int :=
  cond (decide ((30 : Int) < ((List.length p0 : Nat) : Int)))
  (some 5)
  (cond (decide (((List.length p0 : Nat) : Int) = 0))
  (some 0)
  (Option.bind (m_telltaleref11_tree 1152921504606846976 p0 0 1 0) fun r13_2 =>
  cond (decide (r13_2.2 ≠ 0))
  (some r13_2.2)
  (cond (decide (r13_2.1 < ((List.length p0 : Nat) : Int)))
  (some 5)
  (some 0))))

def m_telltaleref10_decimal_l1 : Nat → Int → (List UInt8) → Option (List UInt8)
  | 0, _, _ => none
  | fu_1 + 1, y0_1, y3_1 =>
    cond (decide ((0 : Int) < y0_1))
    (Option.bind (cut ([48, 49, 50, 51, 52, 53, 54, 55, 56, 57] : List UInt8) (Int.tmod y0_1 10) (IntKind.i64.wrap ((Int.tmod y0_1 10) + 1))) fun s21_2 =>
    Option.bind (app s21_2 y3_1) fun t23_2 =>
    m_telltaleref10_decimal_l1 fu_1 (IntKind.i64.wrap (Int.tdiv y0_1 10)) t23_2)
    (some y3_1)
def m_telltaleref10_decimal (p0 : Int) : Option (List UInt8) :=
  Option.bind (cut ([48, 49, 50, 51, 52, 53, 54, 55, 56, 57] : List UInt8) (Int.tmod p0 10) (IntKind.i64.wrap ((Int.tmod p0 10) + 1))) fun s9_0 =>
  m_telltaleref10_decimal_l1  1152921504606846976 (IntKind.i64.wrap (Int.tdiv p0 10)) s9_0

def m_telltaleref10_Literal_l3 : Nat → (List UInt8) → Int → Int → Option (List UInt8)
  | 0, _, _, _ => none
  | fu_3 + 1, y3_3, y4_3, y5_3 =>
    cond (decide (y5_3 < 16))
    (Option.bind (cut ([48, 49, 50, 51, 52, 53, 54, 55, 56, 57, 97, 98, 99, 100, 101, 102] : List UInt8) (Int.tmod y4_3 16) (IntKind.u64.wrap ((Int.tmod y4_3 16) + 1))) fun s46_4 =>
    Option.bind (app s46_4 y3_3) fun t48_4 =>
    m_telltaleref10_Literal_l3 fu_3 t48_4 (IntKind.u64.wrap (Int.tdiv y4_3 16)) (IntKind.i64.wrap (y5_3 + 1)))
    (Option.bind (app ([35] : List UInt8) y3_3) fun t52_5 =>
    some t52_5)
def m_telltaleref10_Literal_j11 (x63_8 : UInt8) (y6_6 : List UInt8) (y7_6 : Int) (k_m_telltaleref10_Literal_l6 : (List UInt8) → Int → Option (List UInt8)) : Option (List UInt8) :=
  Option.bind (app y6_6 ([92] : List UInt8)) fun t87_14 =>
  Option.bind (cut ([48, 49, 50, 51, 52, 53, 54, 55, 56, 57, 97, 98, 99, 100, 101, 102] : List UInt8) (((toU8 (Int.tdiv ((x63_8.toNat : Nat) : Int) 16)).toNat : Nat) : Int) (((toU8 ((((toU8 (Int.tdiv ((x63_8.toNat : Nat) : Int) 16)).toNat : Nat) : Int) + 1)).toNat : Nat) : Int)) fun s93_14 =>
  Option.bind (app t87_14 s93_14) fun t94_14 =>
  Option.bind (cut ([48, 49, 50, 51, 52, 53, 54, 55, 56, 57, 97, 98, 99, 100, 101, 102] : List UInt8) (((toU8 (Int.tmod ((x63_8.toNat : Nat) : Int) 16)).toNat : Nat) : Int) (((toU8 ((((toU8 (Int.tmod ((x63_8.toNat : Nat) : Int) 16)).toNat : Nat) : Int) + 1)).toNat : Nat) : Int)) fun s100_14 =>
  Option.bind (app t94_14 s100_14) fun t101_14 =>
  k_m_telltaleref10_Literal_l6 t101_14 (IntKind.i64.wrap (y7_6 + 1))
def m_telltaleref10_Literal_l6 (p0 : GValue) : Nat → (List UInt8) → Int → Option (List UInt8)
  | 0, _, _ => none
  | fu_6 + 1, y6_6, y7_6 =>
    cond (decide (y7_6 < ((List.length p0.Text : Nat) : Int)))
    (Option.bind (geti p0.Text y7_6) fun x63_8 =>
    cond (decide (((x63_8.toNat : Nat) : Int) = 39))
    (Option.bind (app y6_6 ([39, 39] : List UInt8)) fun t67_9 =>
    m_telltaleref10_Literal_l6 p0 fu_6 t67_9 (IntKind.i64.wrap (y7_6 + 1)))
    (cond (decide ((32 : Int) ≤ ((x63_8.toNat : Nat) : Int)))
    (cond (decide (((x63_8.toNat : Nat) : Int) ≤ 126))
    (cond (decide (((x63_8.toNat : Nat) : Int) ≠ 92))
    (Option.bind (cut p0.Text y7_6 (IntKind.i64.wrap (y7_6 + 1))) fun s84_12 =>
    Option.bind (app y6_6 s84_12) fun t85_12 =>
    m_telltaleref10_Literal_l6 p0 fu_6 t85_12 (IntKind.i64.wrap (y7_6 + 1)))
    (Option.bind (app y6_6 ([92] : List UInt8)) fun t87_13 =>
    Option.bind (cut ([48, 49, 50, 51, 52, 53, 54, 55, 56, 57, 97, 98, 99, 100, 101, 102] : List UInt8) (((toU8 (Int.tdiv ((x63_8.toNat : Nat) : Int) 16)).toNat : Nat) : Int) (((toU8 ((((toU8 (Int.tdiv ((x63_8.toNat : Nat) : Int) 16)).toNat : Nat) : Int) + 1)).toNat : Nat) : Int)) fun s93_13 =>
    Option.bind (app t87_13 s93_13) fun t94_13 =>
    Option.bind (cut ([48, 49, 50, 51, 52, 53, 54, 55, 56, 57, 97, 98, 99, 100, 101, 102] : List UInt8) (((toU8 (Int.tmod ((x63_8.toNat : Nat) : Int) 16)).toNat : Nat) : Int) (((toU8 ((((toU8 (Int.tmod ((x63_8.toNat : Nat) : Int) 16)).toNat : Nat) : Int) + 1)).toNat : Nat) : Int)) fun s100_13 =>
    Option.bind (app t94_13 s100_13) fun t101_13 =>
    m_telltaleref10_Literal_l6 p0 fu_6 t101_13 (IntKind.i64.wrap (y7_6 + 1))))
    (m_telltaleref10_Literal_j11 x63_8 y6_6 y7_6 (fun y6_6 y7_6 => m_telltaleref10_Literal_l6 p0 fu_6 y6_6 y7_6)))
    (m_telltaleref10_Literal_j11 x63_8 y6_6 y7_6 (fun y6_6 y7_6 => m_telltaleref10_Literal_l6 p0 fu_6 y6_6 y7_6))))
    (Option.bind (app y6_6 ([39] : List UInt8)) fun t103_15 =>
    some t103_15)
def m_telltaleref10_Literal (p0 : GValue) : Option (List UInt8) :=
  Option.bind (m_telltaleref04_Check p0) fun r10_0 =>
  cond (decide (r10_0 ≠ 0))
  (some ([] : List UInt8))
  (cond (decide (((p0.Kind.toNat : Nat) : Int) = 1))
  (cond (decide (p0.N < 0))
  (Option.bind (m_telltaleref10_decimal (IntKind.i64.wrap (0 - p0.N))) fun r21_1 =>
  Option.bind (app ([45] : List UInt8) r21_1) fun t22_1 =>
  some t22_1)
  (Option.bind (m_telltaleref10_decimal p0.N) fun r25_2 =>
  some r25_2))
  (cond (decide (((p0.Kind.toNat : Nat) : Int) = 2))
  (cond (decide (p0.N = 1))
  (some ([116, 114, 117, 101] : List UInt8))
  (some ([102, 97, 108, 115, 101] : List UInt8)))
  (cond (decide (((p0.Kind.toNat : Nat) : Int) = 3))
  (m_telltaleref10_Literal_l3  1152921504606846976 ([] : List UInt8) p0.Bits 0)
  (m_telltaleref10_Literal_l6 p0 1152921504606846976 ([39] : List UInt8) 0))))

def m_telltaleref11_about (p0 : (List UInt8)) (p1 : Bool) : Option (List UInt8) :=
  cond p1
  (Option.bind (app ([40] : List UInt8) p0) fun t7_0 =>
  Option.bind (app t7_0 ([41] : List UInt8)) fun t8_0 =>
  some t8_0)
  (some p0)

def m_telltaleref05_Sign (p0 : UInt8) : Option (List UInt8) :=
  cond (decide ((6 : Int) < ((p0.toNat : Nat) : Int)))
  (some ([] : List UInt8))
  (Option.bind (geti ([([] : List UInt8), ([61] : List UInt8), ([33, 61] : List UInt8), ([60] : List UInt8), ([60, 61] : List UInt8), ([62] : List UInt8), ([62, 61] : List UInt8)] : List (List UInt8)) ((p0.toNat : Nat) : Int)) fun x9_0 =>
  some x9_0)

def m_telltaleref11_text : Nat → (List GNode_) → Int → Option ((List UInt8) × Int)
  | 0, _, _ => none
  | fuR + 1, p0, p1 =>
    Option.bind (geti p0 p1) fun x15_0 =>
    cond (decide (((x15_0.Kind.toNat : Nat) : Int) = 7))
    (some (x15_0.Name, (IntKind.i64.wrap (p1 + 1))))
    (cond (decide (((x15_0.Kind.toNat : Nat) : Int) = 8))
    (Option.bind (app x15_0.Var ([46] : List UInt8)) fun t29_1 =>
    Option.bind (app t29_1 x15_0.Name) fun t32_1 =>
    some (t32_1, (IntKind.i64.wrap (p1 + 1))))
    (cond (decide (((x15_0.Kind.toNat : Nat) : Int) = 9))
    (Option.bind (m_telltaleref10_Literal x15_0.Val) fun r40_2 =>
    some (r40_2, (IntKind.i64.wrap (p1 + 1))))
    (Option.bind (geti p0 (IntKind.i64.wrap (p1 + 1))) fun x46_3 =>
    Option.bind (m_telltaleref11_text fuR p0 (IntKind.i64.wrap (p1 + 1))) fun r53_4 =>
    cond (decide (((x15_0.Kind.toNat : Nat) : Int) = 3))
    (cond (decide (((x46_3.Kind.toNat : Nat) : Int) = 1))
    (Option.bind (m_telltaleref11_about r53_4.1 true) fun r66_5 =>
    Option.bind (app ([110, 111, 116, 32] : List UInt8) r66_5) fun t67_5 =>
    some (t67_5, r53_4.2))
    (Option.bind (m_telltaleref11_about r53_4.1 (decide (((x46_3.Kind.toNat : Nat) : Int) = 2))) fun r66_5 =>
    Option.bind (app ([110, 111, 116, 32] : List UInt8) r66_5) fun t67_5 =>
    some (t67_5, r53_4.2)))
    (Option.bind (geti p0 r53_4.2) fun x71_6 =>
    Option.bind (m_telltaleref11_text fuR p0 r53_4.2) fun r77_7 =>
    cond (decide (((x15_0.Kind.toNat : Nat) : Int) = 1))
    (Option.bind (m_telltaleref11_about r53_4.1 (decide (((x46_3.Kind.toNat : Nat) : Int) = 2))) fun r86_8 =>
    Option.bind (app r86_8 ([32, 97, 110, 100, 32] : List UInt8)) fun t87_8 =>
    cond (decide (((x71_6.Kind.toNat : Nat) : Int) = 1))
    (Option.bind (m_telltaleref11_about r77_7.1 true) fun r95_8 =>
    Option.bind (app t87_8 r95_8) fun t96_8 =>
    some (t96_8, r77_7.2))
    (Option.bind (m_telltaleref11_about r77_7.1 (decide (((x71_6.Kind.toNat : Nat) : Int) = 2))) fun r95_8 =>
    Option.bind (app t87_8 r95_8) fun t96_8 =>
    some (t96_8, r77_7.2)))
    (cond (decide (((x15_0.Kind.toNat : Nat) : Int) = 2))
    (Option.bind (app r53_4.1 ([32, 111, 114, 32] : List UInt8)) fun t102_9 =>
    Option.bind (m_telltaleref11_about r77_7.1 (decide (((x71_6.Kind.toNat : Nat) : Int) = 2))) fun r106_9 =>
    Option.bind (app t102_9 r106_9) fun t107_9 =>
    some (t107_9, r77_7.2))
    (cond (decide (((x15_0.Kind.toNat : Nat) : Int) = 4))
    (Option.bind (app r53_4.1 ([32] : List UInt8)) fun t113_10 =>
    Option.bind (m_telltaleref05_Sign x15_0.Op) fun r116_10 =>
    Option.bind (app t113_10 r116_10) fun t117_10 =>
    Option.bind (app t117_10 ([32] : List UInt8)) fun t118_10 =>
    Option.bind (app t118_10 r77_7.1) fun t120_10 =>
    some (t120_10, r77_7.2))
    (cond (decide (((x15_0.Kind.toNat : Nat) : Int) = 5))
    (Option.bind (app r53_4.1 ([32, 43, 32] : List UInt8)) fun t126_11 =>
    Option.bind (app t126_11 r77_7.1) fun t128_11 =>
    some (t128_11, r77_7.2))
    (Option.bind (app r53_4.1 ([32, 45, 32] : List UInt8)) fun t131_12 =>
    Option.bind (app t131_12 r77_7.1) fun t133_12 =>
    some (t133_12, r77_7.2)))))))))

def m_telltaleref11_Print (p0 : (List GNode_)) : Option (List UInt8) :=
  cond (decide (((List.length p0 : Nat) : Int) = 0))
  (some ([] : List UInt8))
  (Option.bind (m_telltaleref11_Check p0) fun r10_0 =>
  cond (decide (r10_0 ≠ 0))
  (some ([] : List UInt8))
  (Option.bind (m_telltaleref11_text 1152921504606846976 p0 0) fun r15_1 =>
  some r15_1.1))

def m_telltaleref11_Into_j7 (p0 : (List (List UInt8))) (y6_2 : Int) (y5_7 : List (List UInt8)) : Option (List (List UInt8)) :=
  Option.bind (cut p0 y6_2 ((List.length p0 : Nat) : Int)) fun s45_8 =>
  Option.bind (app y5_7 s45_8) fun a46_8 =>
  some a46_8
def m_telltaleref11_Into_j2 (p0 : (List (List UInt8))) (p1 : (List UInt8)) (y6_2 : Int) : Option (List (List UInt8)) :=
  Option.bind (cut p0 0 y6_2) fun s24_3 =>
  Option.bind (app ([] : List (List UInt8)) s24_3) fun a25_3 =>
  cond (decide (y6_2 = ((List.length p0 : Nat) : Int)))
  (Option.bind (app a25_3 ([p1] : List (List UInt8))) fun a41_5 =>
  m_telltaleref11_Into_j7 p0 y6_2 a41_5)
  (Option.bind (geti p0 y6_2) fun x33_4 =>
  cond (decide (x33_4 ≠ p1))
  (Option.bind (app a25_3 ([p1] : List (List UInt8))) fun a41_6 =>
  m_telltaleref11_Into_j7 p0 y6_2 a41_6)
  (m_telltaleref11_Into_j7 p0 y6_2 a25_3))
def m_telltaleref11_Into_l0 (p0 : (List (List UInt8))) (p1 : (List UInt8)) : Nat → Int → Option (List (List UInt8))
  | 0, _ => none
  | fu_0 + 1, y6_0 =>
    cond (decide (y6_0 < ((List.length p0 : Nat) : Int)))
    (Option.bind (geti p0 y6_0) fun x14_1 =>
    cond (ltS x14_1 p1)
    (m_telltaleref11_Into_l0 p0 p1 fu_0 (IntKind.i64.wrap (y6_0 + 1)))
    (m_telltaleref11_Into_j2 p0 p1 y6_0))
    (m_telltaleref11_Into_j2 p0 p1 y6_0)
def m_telltaleref11_Into (p0 : (List (List UInt8))) (p1 : (List UInt8)) : Option (List (List UInt8)) :=
  m_telltaleref11_Into_l0 p0 p1 1152921504606846976 0

def m_telltaleref11_Vars_l0 (p0 : (List GNode_)) : Nat → (List (List UInt8)) → Int → Option (List (List UInt8))
  | 0, _, _ => none
  | fu_0 + 1, y3_0, y4_0 =>
    cond (decide (y4_0 < ((List.length p0 : Nat) : Int)))
    (Option.bind (geti p0 y4_0) fun x13_2 =>
    cond (decide (((x13_2.Kind.toNat : Nat) : Int) = 8))
    (Option.bind (geti p0 y4_0) fun x20_3 =>
    Option.bind (m_telltaleref11_Into y3_0 x20_3.Var) fun r23_3 =>
    m_telltaleref11_Vars_l0 p0 fu_0 r23_3 (IntKind.i64.wrap (y4_0 + 1)))
    (m_telltaleref11_Vars_l0 p0 fu_0 y3_0 (IntKind.i64.wrap (y4_0 + 1))))
    (some y3_0)
def m_telltaleref11_Vars (p0 : (List GNode_)) : Option (List (List UInt8)) :=
  m_telltaleref11_Vars_l0 p0 1152921504606846976 ([] : List (List UInt8)) 0

def m_telltaleref11_SameTexts_l1 (p0 : (List (List UInt8))) (p1 : (List (List UInt8))) : Nat → Int → Option Bool
  | 0, _ => none
  | fu_1 + 1, y5_1 =>
    cond (decide (y5_1 < ((List.length p0 : Nat) : Int)))
    (Option.bind (geti p0 y5_1) fun x19_3 =>
    Option.bind (geti p1 y5_1) fun x23_3 =>
    cond (decide (x19_3 ≠ x23_3))
    (some false)
    (m_telltaleref11_SameTexts_l1 p0 p1 fu_1 (IntKind.i64.wrap (y5_1 + 1))))
    (some true)
def m_telltaleref11_SameTexts (p0 : (List (List UInt8))) (p1 : (List (List UInt8))) : Option Bool :=
  cond (decide (((List.length p0 : Nat) : Int) ≠ ((List.length p1 : Nat) : Int)))
  (some false)
  (m_telltaleref11_SameTexts_l1 p0 p1 1152921504606846976 0)

def m_telltaleref11_Same_l1 (p0 : (List GNode_)) (p1 : (List GNode_)) : Nat → Int → Option Bool
  | 0, _ => none
  | fu_1 + 1, y5_1 =>
    cond (decide (y5_1 < ((List.length p0 : Nat) : Int)))
    (Option.bind (geti p0 y5_1) fun x19_3 =>
    Option.bind (geti p1 y5_1) fun x23_3 =>
    Option.bind (some ((!(decide (((x19_3.Kind.toNat : Nat) : Int) = ((x23_3.Kind.toNat : Nat) : Int)) && (decide (((x19_3.Op.toNat : Nat) : Int) = ((x23_3.Op.toNat : Nat) : Int)) && (decide (x19_3.Var = x23_3.Var) && (decide (x19_3.Name = x23_3.Name) && ((decide (((x19_3.Val.Kind.toNat : Nat) : Int) = ((x23_3.Val.Kind.toNat : Nat) : Int)) && (decide (x19_3.Val.N = x23_3.Val.N) && (decide (x19_3.Val.Bits = x23_3.Val.Bits) && (decide (x19_3.Val.Text = x23_3.Val.Text) && true)))) && true)))))))) fun v25_3 =>
    cond v25_3
    (some false)
    (m_telltaleref11_Same_l1 p0 p1 fu_1 (IntKind.i64.wrap (y5_1 + 1))))
    (some true)
def m_telltaleref11_Same (p0 : (List GNode_)) (p1 : (List GNode_)) : Option Bool :=
  cond (decide (((List.length p0 : Nat) : Int) ≠ ((List.length p1 : Nat) : Int)))
  (some false)
  (m_telltaleref11_Same_l1 p0 p1 1152921504606846976 0)

def m_telltalelaw11_PredTells_l4 (p0 : GArr2_List_GNode) (p1 : Int) (r21_3 : (List GNode_)) (r24_3 : (List GNode_)) : Nat → Int → Option Bool
  | 0, _ => none
  | fu_4 + 1, y7_4 =>
    cond (decide (y7_4 < ((List.length r21_3 : Nat) : Int)))
    (Option.bind (geti r21_3 y7_4) fun x33_6 =>
    Option.bind (m_pred_Kids x33_6.Kind) fun r36_6 =>
    Option.bind (geti r21_3 y7_4) fun x39_6 =>
    Option.bind (m_telltaleref11_Kids x39_6.Kind) fun r42_6 =>
    cond (decide (r36_6 ≠ r42_6))
    (some false)
    (Option.bind (m_pred_Size r21_3 y7_4) fun r47_6 =>
    Option.bind (m_telltaleref11_Size p0.a0 y7_4) fun r51_6 =>
    cond (decide (r47_6 ≠ r51_6))
    (some false)
    (m_telltalelaw11_PredTells_l4 p0 p1 r21_3 r24_3 fu_4 (IntKind.i64.wrap (y7_4 + 1)))))
    (Option.bind (m_pred_Check r21_3) fun r55_7 =>
    Option.bind (m_telltaleref11_Check p0.a0) fun r58_7 =>
    cond (decide (r55_7 = r58_7))
    (Option.bind (m_pred_Print r21_3) fun r62_7 =>
    Option.bind (m_telltaleref11_Print p0.a0) fun r65_7 =>
    cond (decide (r62_7 = r65_7))
    (Option.bind (m_pred_Vars r21_3) fun r70_7 =>
    Option.bind (m_telltaleref11_Vars p0.a0) fun r73_7 =>
    Option.bind (m_telltaleref11_SameTexts r70_7 r73_7) fun r74_7 =>
    cond r74_7
    (Option.bind (m_pred_Size r21_3 p1) fun r79_7 =>
    Option.bind (m_telltaleref11_Size p0.a0 p1) fun r83_7 =>
    cond (decide (r79_7 = r83_7))
    (Option.bind (m_pred_Same r21_3 r24_3) fun r89_7 =>
    Option.bind (m_telltaleref11_Same p0.a0 p0.a1) fun r94_7 =>
    cond (decide (r89_7 = r94_7))
    (Option.bind m_telltalelaw11_awake fun r98_7 =>
    some r98_7)
    (some false))
    (some false))
    (some false))
    (some false))
    (some false))
def m_telltalelaw11_PredTells (p0 : GArr2_List_GNode) (p1 : Int) : Option Bool :=
  Option.bind (m_telltalelaw11_Over p0.a0) fun r10_0 =>
  cond (decide ((0 : Int) < r10_0))
  (Option.bind m_telltalelaw11_awake fun r18_1 =>
  some r18_1)
  (Option.bind (m_telltalelaw11_Over p0.a1) fun r15_0 =>
  cond (decide ((0 : Int) < r15_0))
  (Option.bind m_telltalelaw11_awake fun r18_2 =>
  some r18_2)
  (Option.bind (m_telltalelaw11_Own p0.a0) fun r21_3 =>
  Option.bind (m_telltalelaw11_Own p0.a1) fun r24_3 =>
  m_telltalelaw11_PredTells_l4 p0 p1 r21_3 r24_3 1152921504606846976 0))

def m_telltalelaw11_PredTrees_j14 : Option Bool :=
  some false
def m_telltalelaw11_PredTrees_l10 (r14_2 : (List GNode_)) (r52_9 : Int) (y4_7 : Int) (k_m_telltalelaw11_PredTrees_l7 : Int → Option Bool) : Nat → Int → Int → Option Bool
  | 0, _, _ => none
  | fu_10 + 1, y6_10, y7_10 =>
    Option.bind (geti r14_2 y4_7) fun x58_11 =>
    Option.bind (m_pred_Kids x58_11.Kind) fun r61_11 =>
    cond (decide (y7_10 < r61_11))
    (Option.bind (m_pred_Size r14_2 y6_10) fun r67_12 =>
    cond (decide (r67_12 < 1))
    (some false)
    (m_telltalelaw11_PredTrees_l10 r14_2 r52_9 y4_7 k_m_telltalelaw11_PredTrees_l7 fu_10 (IntKind.i64.wrap (y6_10 + r67_12)) (IntKind.i64.wrap (y7_10 + 1))))
    (cond (decide ((IntKind.i64.wrap (y6_10 - y4_7)) ≠ r52_9))
    (m_telltalelaw11_PredTrees_j14 )
    (cond (decide (((List.length r14_2 : Nat) : Int) < y6_10))
    (m_telltalelaw11_PredTrees_j14 )
    (Option.bind (geti r14_2 y4_7) fun x87_13 =>
    cond (decide (((x87_13.Kind.toNat : Nat) : Int) ≤ 4))
    (Option.bind (cut r14_2 y4_7 y6_10) fun s95_13 =>
    Option.bind (m_pred_Check s95_13) fun r96_13 =>
    cond (decide (r96_13 ≠ 0))
    (some false)
    (k_m_telltalelaw11_PredTrees_l7 (IntKind.i64.wrap (y4_7 + 1))))
    (k_m_telltalelaw11_PredTrees_l7 (IntKind.i64.wrap (y4_7 + 1))))))
def m_telltalelaw11_PredTrees_l7 (r14_2 : (List GNode_)) : Nat → Int → Option Bool
  | 0, _ => none
  | fu_7 + 1, y4_7 =>
    cond (decide (y4_7 < ((List.length r14_2 : Nat) : Int)))
    (Option.bind (m_pred_Size r14_2 y4_7) fun r52_9 =>
    m_telltalelaw11_PredTrees_l10 r14_2 r52_9 y4_7 (fun y4_7 => m_telltalelaw11_PredTrees_l7 r14_2 fu_7 y4_7) 1152921504606846976 (IntKind.i64.wrap (y4_7 + 1)) 0)
    (Option.bind m_telltalelaw11_awake fun r100_15 =>
    some r100_15)
def m_telltalelaw11_PredTrees (p0 : (List GNode_)) : Option Bool :=
  Option.bind (m_telltalelaw11_Over p0) fun r10_0 =>
  cond (decide ((0 : Int) < r10_0))
  (Option.bind m_telltalelaw11_awake fun r12_1 =>
  some r12_1)
  (Option.bind (m_telltalelaw11_Own p0) fun r14_2 =>
  Option.bind (m_pred_Check r14_2) fun r16_3 =>
  cond (decide (r16_3 ≠ 0))
  (cond (decide (((List.length r14_2 : Nat) : Int) = 0))
  (Option.bind m_telltalelaw11_awake fun r32_4 =>
  some r32_4)
  (Option.bind (m_pred_Print r14_2) fun r28_4 =>
  cond (decide (r28_4 = ([] : List UInt8)))
  (Option.bind m_telltalelaw11_awake fun r32_4 =>
  some r32_4)
  (some false)))
  (cond (decide (((List.length r14_2 : Nat) : Int) = 0))
  (cond (decide (((List.length r14_2 : Nat) : Int) = 0))
  (Option.bind m_telltalelaw11_awake fun r32_5 =>
  some r32_5)
  (Option.bind (m_pred_Print r14_2) fun r28_5 =>
  cond (decide (r28_5 = ([] : List UInt8)))
  (Option.bind m_telltalelaw11_awake fun r32_5 =>
  some r32_5)
  (some false)))
  (Option.bind (m_pred_Size r14_2 0) fun r35_6 =>
  cond (decide (r35_6 ≠ ((List.length r14_2 : Nat) : Int)))
  (some false)
  (Option.bind (m_pred_Print r14_2) fun r41_6 =>
  cond (decide (r41_6 = ([] : List UInt8)))
  (some false)
  (m_telltalelaw11_PredTrees_l7 r14_2 1152921504606846976 0)))))

def m_telltalelaw11_PredJoins_j1 : Option Bool :=
  Option.bind m_telltalelaw11_awake fun r30_2 =>
  some r30_2
def m_telltalelaw11_PredJoins_j6 : Option Bool :=
  Option.bind m_telltalelaw11_awake fun r53_7 =>
  some r53_7
def m_telltalelaw11_PredJoins_j22 (a59_9 : List GNode_) (a63_10 : List GNode_) (y10_18 : List UInt8) (y9_14 : List UInt8) (y11_22 : List UInt8) : Option Bool :=
  Option.bind (m_pred_Check a59_9) fun r108_23 =>
  cond (decide (r108_23 = 0))
  (Option.bind (m_pred_Print a59_9) fun r112_23 =>
  Option.bind (app y9_14 ([32, 97, 110, 100, 32] : List UInt8)) fun t114_23 =>
  Option.bind (app t114_23 y10_18) fun t116_23 =>
  cond (decide (r112_23 = t116_23))
  (Option.bind (m_pred_Check a63_10) fun r121_23 =>
  cond (decide (r121_23 = 0))
  (Option.bind (m_pred_Print a63_10) fun r126_23 =>
  Option.bind (app ([110, 111, 116, 32] : List UInt8) y11_22) fun t128_23 =>
  cond (decide (r126_23 = t128_23))
  (Option.bind m_telltalelaw11_awake fun r132_23 =>
  some r132_23)
  (some false))
  (some false))
  (some false))
  (some false)
def m_telltalelaw11_PredJoins_j18 (a59_9 : List GNode_) (a63_10 : List GNode_) (r32_4 : (List GNode_)) (r65_11 : (List UInt8)) (y9_14 : List UInt8) (y10_18 : List UInt8) : Option Bool :=
  Option.bind (geti r32_4 0) fun x93_19 =>
  cond (decide (((x93_19.Kind.toNat : Nat) : Int) = 2))
  (Option.bind (app ([40] : List UInt8) r65_11) fun t105_20 =>
  Option.bind (app t105_20 ([41] : List UInt8)) fun t106_20 =>
  m_telltalelaw11_PredJoins_j22 a59_9 a63_10 y10_18 y9_14 t106_20)
  (Option.bind (geti r32_4 0) fun x99_19 =>
  cond (decide (((x99_19.Kind.toNat : Nat) : Int) = 1))
  (Option.bind (app ([40] : List UInt8) r65_11) fun t105_21 =>
  Option.bind (app t105_21 ([41] : List UInt8)) fun t106_21 =>
  m_telltalelaw11_PredJoins_j22 a59_9 a63_10 y10_18 y9_14 t106_21)
  (m_telltalelaw11_PredJoins_j22 a59_9 a63_10 y10_18 y9_14 r65_11))
def m_telltalelaw11_PredJoins_j14 (a59_9 : List GNode_) (a63_10 : List GNode_) (r32_4 : (List GNode_)) (r34_4 : (List GNode_)) (r65_11 : (List UInt8)) (r67_11 : (List UInt8)) (y9_14 : List UInt8) : Option Bool :=
  Option.bind (geti r34_4 0) fun x78_15 =>
  cond (decide (((x78_15.Kind.toNat : Nat) : Int) = 2))
  (Option.bind (app ([40] : List UInt8) r67_11) fun t90_16 =>
  Option.bind (app t90_16 ([41] : List UInt8)) fun t91_16 =>
  m_telltalelaw11_PredJoins_j18 a59_9 a63_10 r32_4 r65_11 y9_14 t91_16)
  (Option.bind (geti r34_4 0) fun x84_15 =>
  cond (decide (((x84_15.Kind.toNat : Nat) : Int) = 1))
  (Option.bind (app ([40] : List UInt8) r67_11) fun t90_17 =>
  Option.bind (app t90_17 ([41] : List UInt8)) fun t91_17 =>
  m_telltalelaw11_PredJoins_j18 a59_9 a63_10 r32_4 r65_11 y9_14 t91_17)
  (m_telltalelaw11_PredJoins_j18 a59_9 a63_10 r32_4 r65_11 y9_14 r67_11))
def m_telltalelaw11_PredJoins (p0 : (List GNode_)) (p1 : (List GNode_)) : Option Bool :=
  Option.bind (m_telltalelaw11_Over p0) fun r13_0 =>
  cond (decide ((0 : Int) < r13_0))
  (m_telltalelaw11_PredJoins_j1 )
  (Option.bind (m_telltalelaw11_Over p1) fun r17_0 =>
  cond (decide ((0 : Int) < r17_0))
  (m_telltalelaw11_PredJoins_j1 )
  (cond (decide ((14 : Int) < ((List.length p0 : Nat) : Int)))
  (m_telltalelaw11_PredJoins_j1 )
  (cond (decide ((14 : Int) < ((List.length p1 : Nat) : Int)))
  (Option.bind m_telltalelaw11_awake fun r30_3 =>
  some r30_3)
  (Option.bind (m_telltalelaw11_Own p0) fun r32_4 =>
  Option.bind (m_telltalelaw11_Own p1) fun r34_4 =>
  cond (decide (((List.length r32_4 : Nat) : Int) = 0))
  (m_telltalelaw11_PredJoins_j6 )
  (cond (decide (((List.length r34_4 : Nat) : Int) = 0))
  (m_telltalelaw11_PredJoins_j6 )
  (Option.bind (m_pred_Check r32_4) fun r45_5 =>
  cond (decide (r45_5 ≠ 0))
  (m_telltalelaw11_PredJoins_j6 )
  (Option.bind (m_pred_Check r34_4) fun r50_5 =>
  cond (decide (r50_5 ≠ 0))
  (Option.bind m_telltalelaw11_awake fun r53_8 =>
  some r53_8)
  (Option.bind (app ([(GNode_.mk 1 0 ([] : List UInt8) ([] : List UInt8) (GValue.mk 0 0 0 ([] : List UInt8)))] : List GNode_) r32_4) fun a57_9 =>
  Option.bind (app a57_9 r34_4) fun a59_9 =>
  Option.bind (app ([(GNode_.mk 3 0 ([] : List UInt8) ([] : List UInt8) (GValue.mk 0 0 0 ([] : List UInt8)))] : List GNode_) r32_4) fun a63_10 =>
  Option.bind (m_pred_Print r32_4) fun r65_11 =>
  Option.bind (m_pred_Print r34_4) fun r67_11 =>
  Option.bind (geti r32_4 0) fun x70_12 =>
  cond (decide (((x70_12.Kind.toNat : Nat) : Int) = 2))
  (Option.bind (app ([40] : List UInt8) r65_11) fun t75_13 =>
  Option.bind (app t75_13 ([41] : List UInt8)) fun t76_13 =>
  m_telltalelaw11_PredJoins_j14 a59_9 a63_10 r32_4 r34_4 r65_11 r67_11 t76_13)
  (m_telltalelaw11_PredJoins_j14 a59_9 a63_10 r32_4 r34_4 r65_11 r67_11 r65_11)))))))))

def m_telltalelaw11_PredVars_j1 : Option Bool :=
  Option.bind m_telltalelaw11_awake fun r32_2 =>
  some r32_2
def m_telltalelaw11_PredVars_l12 (r40_5 : (List (List UInt8))) (r47_6 : (List (List UInt8))) : Nat → (List (List UInt8)) → Int → Option Bool
  | 0, _, _ => none
  | fu_12 + 1, y11_12, y13_12 =>
    cond (decide (y13_12 < ((List.length r40_5 : Nat) : Int)))
    (Option.bind (geti r40_5 y13_12) fun x84_14 =>
    Option.bind (m_telltaleref11_Into y11_12 x84_14) fun r86_14 =>
    m_telltalelaw11_PredVars_l12 r40_5 r47_6 fu_12 r86_14 (IntKind.i64.wrap (y13_12 + 1)))
    (Option.bind (m_telltaleref11_SameTexts r47_6 y11_12) fun r89_15 =>
    cond r89_15
    (Option.bind m_telltalelaw11_awake fun r91_15 =>
    some r91_15)
    (some false))
def m_telltalelaw11_PredVars_l8 (r38_5 : (List (List UInt8))) (r40_5 : (List (List UInt8))) (r47_6 : (List (List UInt8))) (r52_7 : (List (List UInt8))) : Nat → (List (List UInt8)) → Int → Option Bool
  | 0, _, _ => none
  | fu_8 + 1, y11_8, y12_8 =>
    cond (decide (y12_8 < ((List.length r38_5 : Nat) : Int)))
    (Option.bind (geti r38_5 y12_8) fun x62_10 =>
    Option.bind (m_telltaleref11_Into y11_8 x62_10) fun r64_10 =>
    m_telltalelaw11_PredVars_l8 r38_5 r40_5 r47_6 r52_7 fu_8 r64_10 (IntKind.i64.wrap (y12_8 + 1)))
    (Option.bind (m_telltaleref11_SameTexts y11_8 r38_5) fun r67_11 =>
    cond (!r67_11)
    (some false)
    (Option.bind (m_telltaleref11_SameTexts r52_7 r38_5) fun r72_11 =>
    cond (!r72_11)
    (some false)
    (m_telltalelaw11_PredVars_l12 r40_5 r47_6 1152921504606846976 y11_8 0)))
def m_telltalelaw11_PredVars (p0 : (List GNode_)) (p1 : (List GNode_)) : Option Bool :=
  Option.bind (m_telltalelaw11_Over p0) fun r15_0 =>
  cond (decide ((0 : Int) < r15_0))
  (m_telltalelaw11_PredVars_j1 )
  (Option.bind (m_telltalelaw11_Over p1) fun r19_0 =>
  cond (decide ((0 : Int) < r19_0))
  (m_telltalelaw11_PredVars_j1 )
  (cond (decide ((14 : Int) < ((List.length p0 : Nat) : Int)))
  (m_telltalelaw11_PredVars_j1 )
  (cond (decide ((14 : Int) < ((List.length p1 : Nat) : Int)))
  (Option.bind m_telltalelaw11_awake fun r32_3 =>
  some r32_3)
  (Option.bind (m_telltalelaw11_Own p0) fun r34_4 =>
  Option.bind (m_telltalelaw11_Own p1) fun r36_4 =>
  Option.bind (m_pred_Vars r34_4) fun r38_5 =>
  Option.bind (m_pred_Vars r36_4) fun r40_5 =>
  Option.bind (app ([(GNode_.mk 2 0 ([] : List UInt8) ([] : List UInt8) (GValue.mk 0 0 0 ([] : List UInt8)))] : List GNode_) r34_4) fun a44_6 =>
  Option.bind (app a44_6 r36_4) fun a46_6 =>
  Option.bind (m_pred_Vars a46_6) fun r47_6 =>
  Option.bind (app ([(GNode_.mk 3 0 ([] : List UInt8) ([] : List UInt8) (GValue.mk 0 0 0 ([] : List UInt8)))] : List GNode_) r34_4) fun a51_7 =>
  Option.bind (m_pred_Vars a51_7) fun r52_7 =>
  m_telltalelaw11_PredVars_l8 r38_5 r40_5 r47_6 r52_7 1152921504606846976 ([] : List (List UInt8)) 0))))
end Go.Proofs.Ytkajfanpdabjcaa.K
