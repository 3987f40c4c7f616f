/- models of the program's functions -/
import Derived.Test.YtkpfagmlohcdjaaLT
namespace Go.Proofs.Ytkpfagmlohcdjaa.K
open Go.RowKit Go.Lib
set_option linter.unusedVariables false
set_option linter.unusedSimpArgs false

def m_telltalelaw26_Over_l1 (p0 : (List GChange)) : Nat → Int → Option Int
  | 0, _ => none
  | fu_1 + 1, y3_1 =>
    cond (decide (y3_1 < ((List.length p0 : Nat) : Int)))
    (Option.bind (geti p0 y3_1) fun x15_3 =>
    cond (decide (x15_3.N < (-1099511627776)))
    (some 1)
    (Option.bind (geti p0 y3_1) fun x22_3 =>
    cond (decide ((1099511627776 : Int) < x22_3.N))
    (some 1)
    (m_telltalelaw26_Over_l1 p0 fu_1 (IntKind.i64.wrap (y3_1 + 1)))))
    (some 0)
def m_telltalelaw26_Over (p0 : (List GChange)) : Option Int :=
  cond (decide ((40 : Int) < ((List.length p0 : Nat) : Int)))
  (some 1)
  (m_telltalelaw26_Over_l1 p0 1152921504606846976 0)

def m_cmp_isNaN_int (p0 : Int) : Option Bool :=
  some (decide (p0 ≠ p0))

def m_cmp_Compare_int (p0 : Int) (p1 : Int) : Option Int :=
  Option.bind (m_cmp_isNaN_int p0) fun r8_0 =>
  Option.bind (m_cmp_isNaN_int p1) fun r10_1 =>
  cond r8_0
  (cond r10_1
  (some 0)
  (some (-1)))
  (cond r10_1
  (some 1)
  (cond (decide (p0 < p1))
  (some (-1))
  (cond (decide (p1 < p0))
  (some 1)
  (some 0))))

def m_cmp_Or_int_l1 (p0 : (List Int)) : Nat → Int → Option Int
  | 0, _ => none
  | fu_1 + 1, y8_1 =>
    cond (decide (y8_1 < ((List.length p0 : Nat) : Int)))
    (Option.bind (geti p0 y8_1) fun x10_2 =>
    cond (decide (x10_2 ≠ 0))
    (some x10_2)
    (m_cmp_Or_int_l1 p0 fu_1 (IntKind.i64.wrap (y8_1 + 1))))
    (some 0)
def m_cmp_Or_int (p0 : (List Int)) : Option Int :=
  m_cmp_Or_int_l1 p0 1152921504606846976 0

def m_tally_order (p0 : GChange) (p1 : GChange) : Option Int :=
  Option.bind (m_cmp_Compare_int p0.Loc p1.Loc) fun r9_0 =>
  Option.bind (m_cmp_Compare_int p0.Time p1.Time) fun r14_0 =>
  Option.bind (m_cmp_Or_int ([r9_0, r14_0] : List Int)) fun r16_0 =>
  some r16_0

def m_slices_insertionSortCmpFunc_tally_Change__tally_order_l1 (p1 : Int) (y8_0 : Int) (k_m_slices_insertionSortCmpFunc_tally_Change__tally_order_l0 : (List GChange) → Int → Option (List GChange)) : Nat → (List GChange) → Int → Option (List GChange)
  | 0, _, _ => none
  | fu_1 + 1, y0_1, y9_1 =>
    cond (decide (p1 < y9_1))
    (Option.bind (geti y0_1 y9_1) fun x25_2 =>
    Option.bind (geti y0_1 (IntKind.i64.wrap (y9_1 - 1))) fun x30_2 =>
    Option.bind (m_tally_order x25_2 x30_2) fun r32_2 =>
    cond (decide (r32_2 < 0))
    (Option.bind (geti y0_1 (IntKind.i64.wrap (y9_1 - 1))) fun x45_3 =>
    Option.bind (geti y0_1 y9_1) fun x49_3 =>
    Option.bind (geti y0_1 y9_1) fun x51_3 =>
    Option.bind (geti (List.set y0_1 (Int.toNat y9_1) x45_3) (IntKind.i64.wrap (y9_1 - 1))) fun x52_3 =>
    m_slices_insertionSortCmpFunc_tally_Change__tally_order_l1 p1 y8_0 k_m_slices_insertionSortCmpFunc_tally_Change__tally_order_l0 fu_1 (List.set (List.set y0_1 (Int.toNat y9_1) x45_3) (Int.toNat (IntKind.i64.wrap (y9_1 - 1))) x49_3) (IntKind.i64.wrap (y9_1 - 1)))
    (k_m_slices_insertionSortCmpFunc_tally_Change__tally_order_l0 y0_1 (IntKind.i64.wrap (y8_0 + 1))))
    (k_m_slices_insertionSortCmpFunc_tally_Change__tally_order_l0 y0_1 (IntKind.i64.wrap (y8_0 + 1)))
def m_slices_insertionSortCmpFunc_tally_Change__tally_order_l0 (p1 : Int) (p2 : Int) : Nat → (List GChange) → Int → Option (List GChange)
  | 0, _, _ => none
  | fu_0 + 1, y0_0, y8_0 =>
    cond (decide (y8_0 < p2))
    (m_slices_insertionSortCmpFunc_tally_Change__tally_order_l1 p1 y8_0 (fun y0_0 y8_0 => m_slices_insertionSortCmpFunc_tally_Change__tally_order_l0 p1 p2 fu_0 y0_0 y8_0) 1152921504606846976 y0_0 y8_0)
    (some y0_0)
def m_slices_insertionSortCmpFunc_tally_Change__tally_order (p0 : (List GChange)) (p1 : Int) (p2 : Int) : Option (List GChange) :=
  m_slices_insertionSortCmpFunc_tally_Change__tally_order_l0 p1 p2 1152921504606846976 p0 (IntKind.i64.wrap (p1 + 1))

def m_slices_swapRangeCmpFunc_tally_Change__tally_order_l0 (p1 : Int) (p2 : Int) (p3 : Int) : Nat → (List GChange) → Int → Option (List GChange)
  | 0, _, _ => none
  | fu_0 + 1, y0_0, y10_0 =>
    cond (decide (y10_0 < p3))
    (Option.bind (geti y0_0 (IntKind.i64.wrap (p2 + y10_0))) fun x28_1 =>
    Option.bind (geti y0_0 (IntKind.i64.wrap (p1 + y10_0))) fun x34_1 =>
    Option.bind (geti y0_0 (IntKind.i64.wrap (p1 + y10_0))) fun x36_1 =>
    Option.bind (geti (List.set y0_0 (Int.toNat (IntKind.i64.wrap (p1 + y10_0))) x28_1) (IntKind.i64.wrap (p2 + y10_0))) fun x37_1 =>
    m_slices_swapRangeCmpFunc_tally_Change__tally_order_l0 p1 p2 p3 fu_0 (List.set (List.set y0_0 (Int.toNat (IntKind.i64.wrap (p1 + y10_0))) x28_1) (Int.toNat (IntKind.i64.wrap (p2 + y10_0))) x34_1) (IntKind.i64.wrap (y10_0 + 1)))
    (some y0_0)
def m_slices_swapRangeCmpFunc_tally_Change__tally_order (p0 : (List GChange)) (p1 : Int) (p2 : Int) (p3 : Int) : Option (List GChange) :=
  m_slices_swapRangeCmpFunc_tally_Change__tally_order_l0 p1 p2 p3 1152921504606846976 p0 0

def m_slices_rotateCmpFunc_tally_Change__tally_order_l0 (p2 : Int) : Nat → (List GChange) → Int → Int → Option (List GChange)
  | 0, _, _, _ => none
  | fu_0 + 1, y0_0, y10_0, y11_0 =>
    cond (decide (y10_0 ≠ y11_0))
    (cond (decide (y11_0 < y10_0))
    (Option.bind (m_slices_swapRangeCmpFunc_tally_Change__tally_order y0_0 (IntKind.i64.wrap (p2 - y10_0)) p2 y11_0) fun r31_1 =>
    m_slices_rotateCmpFunc_tally_Change__tally_order_l0 p2 fu_0 r31_1 (IntKind.i64.wrap (y10_0 - y11_0)) y11_0)
    (Option.bind (m_slices_swapRangeCmpFunc_tally_Change__tally_order y0_0 (IntKind.i64.wrap (p2 - y10_0)) (IntKind.i64.wrap ((IntKind.i64.wrap (p2 + y11_0)) - y10_0)) y10_0) fun r46_2 =>
    m_slices_rotateCmpFunc_tally_Change__tally_order_l0 p2 fu_0 r46_2 y10_0 (IntKind.i64.wrap (y11_0 - y10_0))))
    (Option.bind (m_slices_swapRangeCmpFunc_tally_Change__tally_order y0_0 (IntKind.i64.wrap (p2 - y10_0)) p2 y10_0) fun r57_3 =>
    some r57_3)
def m_slices_rotateCmpFunc_tally_Change__tally_order (p0 : (List GChange)) (p1 : Int) (p2 : Int) (p3 : Int) : Option (List GChange) :=
  m_slices_rotateCmpFunc_tally_Change__tally_order_l0 p2 1152921504606846976 p0 (IntKind.i64.wrap (p2 - p1)) (IntKind.i64.wrap (p3 - p2))

def m_slices_symMergeCmpFunc_tally_Change__tally_order_l4 (y10_0 : Int) : Nat → (List GChange) → Int → Option (List GChange)
  | 0, _, _ => none
  | fu_4 + 1, y0_4, y13_4 =>
    cond (decide (y13_4 < (IntKind.i64.wrap (y10_0 - 1))))
    (Option.bind (geti y0_4 (IntKind.i64.wrap (y13_4 + 1))) fun x69_5 =>
    Option.bind (geti y0_4 y13_4) fun x73_5 =>
    Option.bind (geti y0_4 y13_4) fun x75_5 =>
    Option.bind (geti (List.set y0_4 (Int.toNat y13_4) x69_5) (IntKind.i64.wrap (y13_4 + 1))) fun x76_5 =>
    m_slices_symMergeCmpFunc_tally_Change__tally_order_l4 y10_0 fu_4 (List.set (List.set y0_4 (Int.toNat y13_4) x69_5) (Int.toNat (IntKind.i64.wrap (y13_4 + 1))) x73_5) (IntKind.i64.wrap (y13_4 + 1)))
    (some y0_4)
def m_slices_symMergeCmpFunc_tally_Change__tally_order_l0 (p0 : (List GChange)) (p1 : Int) : Nat → Int → Int → Option (List GChange)
  | 0, _, _ => none
  | fu_0 + 1, y10_0, y11_0 =>
    cond (decide (y10_0 < y11_0))
    (Option.bind (geti p0 (IntKind.i64.wrap (Int.fdiv (IntKind.u64.wrap (IntKind.i64.wrap (y10_0 + y11_0))) (2 ^ 1)))) fun x43_2 =>
    Option.bind (geti p0 p1) fun x47_2 =>
    Option.bind (m_tally_order x43_2 x47_2) fun r49_2 =>
    cond (decide (r49_2 < 0))
    (Option.bind (some ((IntKind.i64.wrap ((IntKind.i64.wrap (Int.fdiv (IntKind.u64.wrap (IntKind.i64.wrap (y10_0 + y11_0))) (2 ^ 1))) + 1)))) fun v52_3 =>
    m_slices_symMergeCmpFunc_tally_Change__tally_order_l0 p0 p1 fu_0 v52_3 y11_0)
    (m_slices_symMergeCmpFunc_tally_Change__tally_order_l0 p0 p1 fu_0 y10_0 (IntKind.i64.wrap (Int.fdiv (IntKind.u64.wrap (IntKind.i64.wrap (y10_0 + y11_0))) (2 ^ 1)))))
    (m_slices_symMergeCmpFunc_tally_Change__tally_order_l4 y10_0 1152921504606846976 p0 p1)
def m_slices_symMergeCmpFunc_tally_Change__tally_order_l10 (y14_6 : Int) : Nat → (List GChange) → Int → Option (List GChange)
  | 0, _, _ => none
  | fu_10 + 1, y0_10, y17_10 =>
    cond (decide (y14_6 < y17_10))
    (Option.bind (geti y0_10 (IntKind.i64.wrap (y17_10 - 1))) fun x121_11 =>
    Option.bind (geti y0_10 y17_10) fun x125_11 =>
    Option.bind (geti y0_10 y17_10) fun x127_11 =>
    Option.bind (geti (List.set y0_10 (Int.toNat y17_10) x121_11) (IntKind.i64.wrap (y17_10 - 1))) fun x128_11 =>
    m_slices_symMergeCmpFunc_tally_Change__tally_order_l10 y14_6 fu_10 (List.set (List.set y0_10 (Int.toNat y17_10) x121_11) (Int.toNat (IntKind.i64.wrap (y17_10 - 1))) x125_11) (IntKind.i64.wrap (y17_10 - 1)))
    (some y0_10)
def m_slices_symMergeCmpFunc_tally_Change__tally_order_l6 (p0 : (List GChange)) (p2 : Int) : Nat → Int → Int → Option (List GChange)
  | 0, _, _ => none
  | fu_6 + 1, y14_6, y15_6 =>
    cond (decide (y14_6 < y15_6))
    (Option.bind (geti p0 p2) fun x95_8 =>
    Option.bind (geti p0 (IntKind.i64.wrap (Int.fdiv (IntKind.u64.wrap (IntKind.i64.wrap (y14_6 + y15_6))) (2 ^ 1)))) fun x99_8 =>
    Option.bind (m_tally_order x95_8 x99_8) fun r101_8 =>
    cond (!decide (r101_8 < 0))
    (Option.bind (some ((IntKind.i64.wrap ((IntKind.i64.wrap (Int.fdiv (IntKind.u64.wrap (IntKind.i64.wrap (y14_6 + y15_6))) (2 ^ 1))) + 1)))) fun v105_9 =>
    m_slices_symMergeCmpFunc_tally_Change__tally_order_l6 p0 p2 fu_6 v105_9 y15_6)
    (m_slices_symMergeCmpFunc_tally_Change__tally_order_l6 p0 p2 fu_6 y14_6 (IntKind.i64.wrap (Int.fdiv (IntKind.u64.wrap (IntKind.i64.wrap (y14_6 + y15_6))) (2 ^ 1)))))
    (m_slices_symMergeCmpFunc_tally_Change__tally_order_l10 y14_6 1152921504606846976 p0 p2)
def m_slices_symMergeCmpFunc_tally_Change__tally_order_j24 (p1 : Int) (p3 : Int) (v137_13 : Int) (y20_15 : Int) (k_rec : (List GChange) → Int → Int → Int → Option (List GChange)) (y0_24 : List GChange) : Option (List GChange) :=
  Option.bind (some (decide ((IntKind.i64.wrap (Int.fdiv (IntKind.u64.wrap (IntKind.i64.wrap (p1 + p3))) (2 ^ 1))) < (IntKind.i64.wrap (v137_13 - y20_15))))) fun v208_25 =>
  cond v208_25
  (cond (decide ((IntKind.i64.wrap (v137_13 - y20_15)) < p3))
  (Option.bind (k_rec y0_24 (IntKind.i64.wrap (Int.fdiv (IntKind.u64.wrap (IntKind.i64.wrap (p1 + p3))) (2 ^ 1))) (IntKind.i64.wrap (v137_13 - y20_15)) p3) fun r219_26 =>
  some r219_26)
  (some y0_24))
  (some y0_24)
def m_slices_symMergeCmpFunc_tally_Change__tally_order_j21 (p1 : Int) (p3 : Int) (v137_13 : Int) (y20_15 : Int) (k_rec : (List GChange) → Int → Int → Int → Option (List GChange)) (y0_21 : List GChange) : Option (List GChange) :=
  cond (decide (p1 < y20_15))
  (cond (decide (y20_15 < (IntKind.i64.wrap (Int.fdiv (IntKind.u64.wrap (IntKind.i64.wrap (p1 + p3))) (2 ^ 1)))))
  (Option.bind (k_rec y0_21 p1 y20_15 (IntKind.i64.wrap (Int.fdiv (IntKind.u64.wrap (IntKind.i64.wrap (p1 + p3))) (2 ^ 1)))) fun r205_23 =>
  m_slices_symMergeCmpFunc_tally_Change__tally_order_j24 p1 p3 v137_13 y20_15 k_rec r205_23)
  (m_slices_symMergeCmpFunc_tally_Change__tally_order_j24 p1 p3 v137_13 y20_15 k_rec y0_21))
  (m_slices_symMergeCmpFunc_tally_Change__tally_order_j24 p1 p3 v137_13 y20_15 k_rec y0_21)
def m_slices_symMergeCmpFunc_tally_Change__tally_order_l15 (p0 : (List GChange)) (p1 : Int) (p2 : Int) (p3 : Int) (v137_13 : Int) (k_rec : (List GChange) → Int → Int → Int → Option (List GChange)) : Nat → Int → Int → Option (List GChange)
  | 0, _, _ => none
  | fu_15 + 1, y20_15, y21_15 =>
    cond (decide (y20_15 < y21_15))
    (Option.bind (some ((IntKind.i64.wrap ((IntKind.i64.wrap (v137_13 - 1)) - (IntKind.i64.wrap (Int.fdiv (IntKind.u64.wrap (IntKind.i64.wrap (y20_15 + y21_15))) (2 ^ 1))))))) fun v162_17 =>
    Option.bind (geti p0 v162_17) fun x163_17 =>
    Option.bind (geti p0 (IntKind.i64.wrap (Int.fdiv (IntKind.u64.wrap (IntKind.i64.wrap (y20_15 + y21_15))) (2 ^ 1)))) fun x167_17 =>
    Option.bind (m_tally_order x163_17 x167_17) fun r169_17 =>
    cond (!decide (r169_17 < 0))
    (Option.bind (some ((IntKind.i64.wrap ((IntKind.i64.wrap (Int.fdiv (IntKind.u64.wrap (IntKind.i64.wrap (y20_15 + y21_15))) (2 ^ 1))) + 1)))) fun v173_18 =>
    m_slices_symMergeCmpFunc_tally_Change__tally_order_l15 p0 p1 p2 p3 v137_13 k_rec fu_15 v173_18 y21_15)
    (m_slices_symMergeCmpFunc_tally_Change__tally_order_l15 p0 p1 p2 p3 v137_13 k_rec fu_15 y20_15 (IntKind.i64.wrap (Int.fdiv (IntKind.u64.wrap (IntKind.i64.wrap (y20_15 + y21_15))) (2 ^ 1)))))
    (cond (decide (y20_15 < p2))
    (cond (decide (p2 < (IntKind.i64.wrap (v137_13 - y20_15))))
    (Option.bind (m_slices_rotateCmpFunc_tally_Change__tally_order p0 y20_15 p2 (IntKind.i64.wrap (v137_13 - y20_15))) fun r191_20 =>
    m_slices_symMergeCmpFunc_tally_Change__tally_order_j21 p1 p3 v137_13 y20_15 k_rec r191_20)
    (m_slices_symMergeCmpFunc_tally_Change__tally_order_j21 p1 p3 v137_13 y20_15 k_rec p0))
    (m_slices_symMergeCmpFunc_tally_Change__tally_order_j21 p1 p3 v137_13 y20_15 k_rec p0))
def m_slices_symMergeCmpFunc_tally_Change__tally_order_j14 (p0 : (List GChange)) (p1 : Int) (p2 : Int) (p3 : Int) (v137_13 : Int) (k_rec : (List GChange) → Int → Int → Int → Option (List GChange)) (y20_14 : Int) (y21_14 : Int) : Option (List GChange) :=
  m_slices_symMergeCmpFunc_tally_Change__tally_order_l15 p0 p1 p2 p3 v137_13 k_rec 1152921504606846976 y20_14 y21_14
def m_slices_symMergeCmpFunc_tally_Change__tally_order : Nat → (List GChange) → Int → Int → Int → Option (List GChange)
  | 0, _, _, _, _ => none
  | fuR + 1, p0, p1, p2, p3 =>
    cond (decide ((IntKind.i64.wrap (p2 - p1)) = 1))
    (m_slices_symMergeCmpFunc_tally_Change__tally_order_l0 p0 p1 1152921504606846976 p2 p3)
    (cond (decide ((IntKind.i64.wrap (p3 - p2)) = 1))
    (m_slices_symMergeCmpFunc_tally_Change__tally_order_l6 p0 p2 1152921504606846976 p1 p2)
    (Option.bind (some ((IntKind.i64.wrap ((IntKind.i64.wrap (Int.fdiv (IntKind.u64.wrap (IntKind.i64.wrap (p1 + p3))) (2 ^ 1))) + p2)))) fun v137_13 =>
    cond (decide ((IntKind.i64.wrap (Int.fdiv (IntKind.u64.wrap (IntKind.i64.wrap (p1 + p3))) (2 ^ 1))) < p2))
    (m_slices_symMergeCmpFunc_tally_Change__tally_order_j14 p0 p1 p2 p3 v137_13 (fun p0 p1 p2 p3 => m_slices_symMergeCmpFunc_tally_Change__tally_order fuR p0 p1 p2 p3) (IntKind.i64.wrap (v137_13 - p3)) (IntKind.i64.wrap (Int.fdiv (IntKind.u64.wrap (IntKind.i64.wrap (p1 + p3))) (2 ^ 1))))
    (m_slices_symMergeCmpFunc_tally_Change__tally_order_j14 p0 p1 p2 p3 v137_13 (fun p0 p1 p2 p3 => m_slices_symMergeCmpFunc_tally_Change__tally_order fuR p0 p1 p2 p3) p1 p2)))

def m_slices_stableCmpFunc_tally_Change__tally_order_l4 (p1 : Int) (y6_3 : Int) (k_m_slices_stableCmpFunc_tally_Change__tally_order_l3 : (List GChange) → Int → Option (List GChange)) : Nat → (List GChange) → Int → Int → Option (List GChange)
  | 0, _, _, _ => none
  | fu_4 + 1, y0_4, y7_4, y8_4 =>
    cond (decide (y8_4 ≤ p1))
    (Option.bind (m_slices_symMergeCmpFunc_tally_Change__tally_order 1152921504606846976 y0_4 y7_4 (IntKind.i64.wrap (y7_4 + y6_3)) y8_4) fun r43_5 =>
    m_slices_stableCmpFunc_tally_Change__tally_order_l4 p1 y6_3 k_m_slices_stableCmpFunc_tally_Change__tally_order_l3 fu_4 r43_5 y8_4 (IntKind.i64.wrap (y8_4 + (IntKind.i64.wrap (2 * y6_3)))))
    (cond (decide ((IntKind.i64.wrap (y7_4 + y6_3)) < p1))
    (Option.bind (m_slices_symMergeCmpFunc_tally_Change__tally_order 1152921504606846976 y0_4 y7_4 (IntKind.i64.wrap (y7_4 + y6_3)) p1) fun r60_6 =>
    k_m_slices_stableCmpFunc_tally_Change__tally_order_l3 r60_6 (IntKind.i64.wrap (y6_3 * 2)))
    (k_m_slices_stableCmpFunc_tally_Change__tally_order_l3 y0_4 (IntKind.i64.wrap (y6_3 * 2))))
def m_slices_stableCmpFunc_tally_Change__tally_order_l3 (p1 : Int) : Nat → (List GChange) → Int → Option (List GChange)
  | 0, _, _ => none
  | fu_3 + 1, y0_3, y6_3 =>
    cond (decide (y6_3 < p1))
    (m_slices_stableCmpFunc_tally_Change__tally_order_l4 p1 y6_3 (fun y0_3 y6_3 => m_slices_stableCmpFunc_tally_Change__tally_order_l3 p1 fu_3 y0_3 y6_3) 1152921504606846976 y0_3 0 (IntKind.i64.wrap (2 * y6_3)))
    (some y0_3)
def m_slices_stableCmpFunc_tally_Change__tally_order_l0 (p1 : Int) : Nat → (List GChange) → Int → Int → Option (List GChange)
  | 0, _, _, _ => none
  | fu_0 + 1, y0_0, y7_0, y8_0 =>
    cond (decide (y8_0 ≤ p1))
    (Option.bind (m_slices_insertionSortCmpFunc_tally_Change__tally_order y0_0 y7_0 y8_0) fun r18_1 =>
    m_slices_stableCmpFunc_tally_Change__tally_order_l0 p1 fu_0 r18_1 y8_0 (IntKind.i64.wrap (y8_0 + 20)))
    (Option.bind (m_slices_insertionSortCmpFunc_tally_Change__tally_order y0_0 y7_0 p1) fun r27_2 =>
    m_slices_stableCmpFunc_tally_Change__tally_order_l3 p1 1152921504606846976 r27_2 20)
def m_slices_stableCmpFunc_tally_Change__tally_order (p0 : (List GChange)) (p1 : Int) : Option (List GChange) :=
  m_slices_stableCmpFunc_tally_Change__tally_order_l0 p1 1152921504606846976 p0 0 20

def m_slices_SortStableFunc_Change__tally_order (p0 : (List GChange)) : Option (List GChange) :=
  Option.bind (m_slices_stableCmpFunc_tally_Change__tally_order p0 ((List.length p0 : Nat) : Int)) fun r8_0 =>
  some r8_0

def m_tally_Normal_1 (p0 : GChange) : Option Bool :=
  some (decide (p0.N = 0))

def m_slices_IndexFunc_Change__tally_Normal_1_l1 (p0 : (List GChange)) : Nat → Int → Option Int
  | 0, _ => none
  | fu_1 + 1, y8_1 =>
    cond (decide (y8_1 < ((List.length p0 : Nat) : Int)))
    (Option.bind (geti p0 y8_1) fun x14_2 =>
    Option.bind (m_tally_Normal_1 x14_2) fun r16_2 =>
    cond r16_2
    (some y8_1)
    (m_slices_IndexFunc_Change__tally_Normal_1_l1 p0 fu_1 (IntKind.i64.wrap (y8_1 + 1))))
    (some (-1))
def m_slices_IndexFunc_Change__tally_Normal_1 (p0 : (List GChange)) : Option Int :=
  m_slices_IndexFunc_Change__tally_Normal_1_l1 p0 1152921504606846976 0

def m_slices_DeleteFunc_Change__tally_Normal_1_l1 : Nat → (List GChange) → Int → Int → Option (List GChange)
  | 0, _, _, _ => none
  | fu_1 + 1, y0_1, y5_1, y6_1 =>
    cond (decide (y6_1 < ((List.length y0_1 : Nat) : Int)))
    (Option.bind (geti y0_1 y6_1) fun x24_3 =>
    Option.bind (m_tally_Normal_1 x24_3) fun r28_4 =>
    cond (!r28_4)
    (Option.bind (geti y0_1 y5_1) fun x33_5 =>
    m_slices_DeleteFunc_Change__tally_Normal_1_l1 fu_1 (List.set y0_1 (Int.toNat y5_1) x24_3) (IntKind.i64.wrap (y5_1 + 1)) (IntKind.i64.wrap (y6_1 + 1)))
    (m_slices_DeleteFunc_Change__tally_Normal_1_l1 fu_1 y0_1 y5_1 (IntKind.i64.wrap (y6_1 + 1))))
    (chk (0 ≤ y5_1 ∧ y5_1 < ((List.length y0_1 : Nat) : Int)) (
    Option.bind (cut (clr y0_1 (Int.toNat y5_1) ((GChange.mk 0 0 0) : GChange)) 0 y5_1) fun s41_7 =>
    some s41_7))
def m_slices_DeleteFunc_Change__tally_Normal_1 (p0 : (List GChange)) : Option (List GChange) :=
  Option.bind (m_slices_IndexFunc_Change__tally_Normal_1 p0) fun r10_0 =>
  cond (decide (r10_0 = (-1)))
  (some p0)
  (m_slices_DeleteFunc_Change__tally_Normal_1_l1  1152921504606846976 p0 r10_0 (IntKind.i64.wrap (r10_0 + 1)))

def m_tally_Normal_l4 (r14_2 : (List GChange)) : Nat → (List GChange) → Int → Option (List GChange)
  | 0, _, _ => none
  | fu_4 + 1, y4_4, y17_4 =>
    cond (decide (y17_4 < ((List.length r14_2 : Nat) : Int)))
    (Option.bind (geti r14_2 y17_4) fun x20_5 =>
    cond (decide ((0 : Int) < y17_4))
    (Option.bind (geti r14_2 (IntKind.i64.wrap (y17_4 - 1))) fun x28_7 =>
    Option.bind (m_tally_order x28_7 x20_5) fun r31_7 =>
    cond (decide (r31_7 = 0))
    (Option.bind (geti y4_4 (IntKind.i64.wrap (((List.length y4_4 : Nat) : Int) - 1))) fun x38_8 =>
    Option.bind (geti y4_4 (IntKind.i64.wrap (((List.length y4_4 : Nat) : Int) - 1))) fun x44_8 =>
    m_tally_Normal_l4 r14_2 fu_4 (List.set y4_4 (Int.toNat (IntKind.i64.wrap (((List.length y4_4 : Nat) : Int) - 1))) (GChange.mk x44_8.Loc x44_8.Time (IntKind.i64.wrap (x38_8.N + x20_5.N)))) (IntKind.i64.wrap (y17_4 + 1)))
    (Option.bind (app y4_4 ([x20_5] : List GChange)) fun a49_6 =>
    m_tally_Normal_l4 r14_2 fu_4 a49_6 (IntKind.i64.wrap (y17_4 + 1))))
    (Option.bind (app y4_4 ([x20_5] : List GChange)) fun a49_9 =>
    m_tally_Normal_l4 r14_2 fu_4 a49_9 (IntKind.i64.wrap (y17_4 + 1))))
    (Option.bind (m_slices_DeleteFunc_Change__tally_Normal_1 y4_4) fun r52_10 =>
    some r52_10)
def m_tally_Normal (p0 : (List GChange)) : Option (List GChange) :=
  Option.bind (mkl ((List.length p0 : Nat) : Int) ((GChange.mk 0 0 0) : GChange)) fun m9_0 =>
  Option.bind (cpy m9_0 p0) fun c12_1 =>
  Option.bind (m_slices_SortStableFunc_Change__tally_order c12_1) fun r14_2 =>
  m_tally_Normal_l4 r14_2 1152921504606846976 ([] : List GChange) 0

def m_math_bits_Len64_j2 (y0_2 : Int) (y2_2 : Int) : Option Int :=
  Option.bind (geti ([0, 1, 2, 2, 3, 3, 3, 3, 4, 4, 4, 4, 4, 4, 4, 4, 5, 5, 5, 5, 5, 5, 5, 5, 5, 5, 5, 5, 5, 5, 5, 5, 6, 6, 6, 6, 6, 6, 6, 6, 6, 6, 6, 6, 6, 6, 6, 6, 6, 6, 6, 6, 6, 6, 6, 6, 6, 6, 6, 6, 6, 6, 6, 6, 7, 7, 7, 7, 7, 7, 7, 7, 7, 7, 7, 7, 7, 7, 7, 7, 7, 7, 7, 7, 7, 7, 7, 7, 7, 7, 7, 7, 7, 7, 7, 7, 7, 7, 7, 7, 7, 7, 7, 7, 7, 7, 7, 7, 7, 7, 7, 7, 7, 7, 7, 7, 7, 7, 7, 7, 7, 7, 7, 7, 7, 7, 7, 7, 8, 8, 8, 8, 8, 8, 8, 8, 8, 8, 8, 8, 8, 8, 8, 8, 8, 8, 8, 8, 8, 8, 8, 8, 8, 8, 8, 8, 8, 8, 8, 8, 8, 8, 8, 8, 8, 8, 8, 8, 8, 8, 8, 8, 8, 8, 8, 8, 8, 8, 8, 8, 8, 8, 8, 8, 8, 8, 8, 8, 8, 8, 8, 8, 8, 8, 8, 8, 8, 8, 8, 8, 8, 8, 8, 8, 8, 8, 8, 8, 8, 8, 8, 8, 8, 8, 8, 8, 8, 8, 8, 8, 8, 8, 8, 8, 8, 8, 8, 8, 8, 8, 8, 8, 8, 8, 8, 8, 8, 8, 8, 8, 8, 8, 8, 8, 8, 8, 8, 8, 8, 8, 8, 8, 8, 8, 8, 8] : List UInt8) (((toU8 y0_2).toNat : Nat) : Int)) fun x22_3 =>
  some (IntKind.i64.wrap (y2_2 + ((x22_3.toNat : Nat) : Int)))
def m_math_bits_Len64_j1 (y0_1 : Int) (y2_1 : Int) : Option Int :=
  cond (decide ((256 : Int) ≤ y0_1))
  (m_math_bits_Len64_j2  (Int.fdiv y0_1 (2 ^ 8)) (IntKind.i64.wrap (y2_1 + 8)))
  (m_math_bits_Len64_j2  y0_1 y2_1)
def m_math_bits_Len64_j0 (y0_0 : Int) (y2_0 : Int) : Option Int :=
  cond (decide ((65536 : Int) ≤ y0_0))
  (m_math_bits_Len64_j1  (Int.fdiv y0_0 (2 ^ 16)) (IntKind.i64.wrap (y2_0 + 16)))
  (m_math_bits_Len64_j1  y0_0 y2_0)
def m_math_bits_Len64 (p0 : Int) : Option Int :=
  cond (decide ((4294967296 : Int) ≤ p0))
  (m_math_bits_Len64_j0  (Int.fdiv p0 (2 ^ 32)) 32)
  (m_math_bits_Len64_j0  p0 0)

def m_zig_Size (p0 : Int) : Option Int :=
  Option.bind (m_math_bits_Len64 p0) fun r4_0 =>
  some (max 1 (IntKind.i64.wrap (Int.tdiv (IntKind.i64.wrap ((IntKind.i64.wrap (r4_0 + 7)) - 1)) 7)))

def m_zig_Put_j5 (y20_3 : Int) (y6_3 : List UInt8) (k_m_zig_Put_l3 : (List UInt8) → Int → Option (List UInt8)) (y8_5 : UInt8) : Option (List UInt8) :=
  Option.bind (app y6_3 ([y8_5] : List UInt8)) fun a38_5 =>
  k_m_zig_Put_l3 a38_5 (IntKind.i64.wrap (y20_3 + 1))
def m_zig_Put_l3 (p1 : Int) (r10_0 : Int) : Nat → (List UInt8) → Int → Option (List UInt8)
  | 0, _, _ => none
  | fu_3 + 1, y6_3, y20_3 =>
    cond (decide (y20_3 < r10_0))
    (chk (0 ≤ (IntKind.i64.wrap (7 * y20_3)) ∧ (IntKind.i64.wrap (7 * y20_3)) ≤ 64) (
    Option.bind (some ((toU8 (((BitVec.ofInt 8 (((toU8 (Int.fdiv p1 (2 ^ (Int.toNat (IntKind.i64.wrap (7 * y20_3)))))).toNat : Nat) : Int) ||| BitVec.ofInt 8 128).toNat : Int))))) fun v28_4 =>
    cond (decide (y20_3 = (IntKind.i64.wrap (r10_0 - 1))))
    (m_zig_Put_j5 y20_3 y6_3 (fun y6_3 y20_3 => m_zig_Put_l3 p1 r10_0 fu_3 y6_3 y20_3) (toU8 (((BitVec.ofInt 8 ((v28_4.toNat : Nat) : Int) &&& ~~~ BitVec.ofInt 8 128).toNat : Int))))
    (m_zig_Put_j5 y20_3 y6_3 (fun y6_3 y20_3 => m_zig_Put_l3 p1 r10_0 fu_3 y6_3 y20_3) v28_4)))
    (some y6_3)
def m_zig_Put (p0 : (List UInt8)) (p1 : Int) : Option (List UInt8) :=
  Option.bind (m_zig_Size p1) fun r10_0 =>
  Option.bind (mkc 0 (IntKind.i64.wrap (((List.length p0 : Nat) : Int) + r10_0)) (0 : UInt8)) fun m15_1 =>
  Option.bind (app m15_1 p0) fun a18_2 =>
  m_zig_Put_l3 p1 r10_0 1152921504606846976 a18_2 0

def m_zig_Fold (p0 : Int) : Option Int :=
  Option.bind (some ((IntKind.u64.wrap (((BitVec.ofInt 64 (IntKind.u64.wrap ((IntKind.u64.wrap p0) * 2 ^ 1)) ^^^ BitVec.ofInt 64 (IntKind.u64.wrap (Int.fdiv p0 (2 ^ 63)))).toNat : Int))))) fun v9_0 =>
  some v9_0

def m_zig_PutInt (p0 : (List UInt8)) (p1 : Int) : Option (List UInt8) :=
  Option.bind (m_zig_Fold p1) fun r7_0 =>
  Option.bind (m_zig_Put p0 r7_0) fun r8_0 =>
  some r8_0

def m_tally_Put_l2 (p1 : (List GChange)) : Nat → (List UInt8) → Int → Option (List UInt8)
  | 0, _, _ => none
  | fu_2 + 1, y0_2, y14_2 =>
    cond (decide (y14_2 < ((List.length p1 : Nat) : Int)))
    (Option.bind (geti p1 y14_2) fun x16_3 =>
    Option.bind (m_zig_PutInt y0_2 x16_3.Loc) fun r21_4 =>
    Option.bind (m_zig_PutInt r21_4 x16_3.Time) fun r24_4 =>
    Option.bind (m_zig_PutInt r24_4 x16_3.N) fun r27_4 =>
    m_tally_Put_l2 p1 fu_2 r27_4 (IntKind.i64.wrap (y14_2 + 1)))
    (some y0_2)
def m_tally_Put (p0 : (List UInt8)) (p1 : (List GChange)) : Option (List UInt8) :=
  Option.bind (m_zig_Put p0 (IntKind.u64.wrap ((List.length p1 : Nat) : Int))) fun r11_0 =>
  m_tally_Put_l2 p1 1152921504606846976 r11_0 0

def m_zig_Take_j8 (p1 : Int) (x30_3 : UInt8) (y17_1 : Int) (y4_1 : Int) (k_m_zig_Take_l1 : Int → Int → Option (Int × Int × Int)) : Option (Int × Int × Int) :=
  Option.bind (some ((((toU8 (((BitVec.ofInt 8 ((x30_3.toNat : Nat) : Int) &&& ~~~ BitVec.ofInt 8 128).toNat : Int))).toNat : Nat) : Int))) fun v46_4 =>
  chk (0 ≤ (IntKind.i64.wrap (7 * y17_1)) ∧ (IntKind.i64.wrap (7 * y17_1)) ≤ 64) (
  Option.bind (some ((IntKind.u64.wrap (((BitVec.ofInt 64 y4_1 ||| BitVec.ofInt 64 (IntKind.u64.wrap (v46_4 * 2 ^ (Int.toNat (IntKind.i64.wrap (7 * y17_1)))))).toNat : Int))))) fun v50_4 =>
  cond (decide (((x30_3.toNat : Nat) : Int) < 128))
  (some (v50_4, (IntKind.i64.wrap ((IntKind.i64.wrap (p1 + y17_1)) + 1)), 0))
  (k_m_zig_Take_l1 v50_4 (IntKind.i64.wrap (y17_1 + 1))))
def m_zig_Take_j6 (p1 : Int) (x30_3 : UInt8) (y17_1 : Int) (y4_1 : Int) (k_m_zig_Take_l1 : Int → Int → Option (Int × Int × Int)) : Option (Int × Int × Int) :=
  cond (decide ((0 : Int) < y17_1))
  (cond (decide (((x30_3.toNat : Nat) : Int) = 0))
  (some (0, 0, 4))
  (m_zig_Take_j8 p1 x30_3 y17_1 y4_1 k_m_zig_Take_l1))
  (m_zig_Take_j8 p1 x30_3 y17_1 y4_1 k_m_zig_Take_l1)
def m_zig_Take_l1 (p0 : (List UInt8)) (p1 : Int) : Nat → Int → Int → Option (Int × Int × Int)
  | 0, _, _ => none
  | fu_1 + 1, y4_1, y17_1 =>
    cond (decide (y17_1 < 10))
    (cond (decide (((List.length p0 : Nat) : Int) ≤ (IntKind.i64.wrap (p1 + y17_1))))
    (some (0, 0, 3))
    (Option.bind (geti p0 (IntKind.i64.wrap (p1 + y17_1))) fun x30_3 =>
    cond (decide (y17_1 = 9))
    (cond (decide ((1 : Int) < ((x30_3.toNat : Nat) : Int)))
    (some (0, 0, 8))
    (m_zig_Take_j6 p1 x30_3 y17_1 y4_1 (fun y4_1 y17_1 => m_zig_Take_l1 p0 p1 fu_1 y4_1 y17_1)))
    (m_zig_Take_j6 p1 x30_3 y17_1 y4_1 (fun y4_1 y17_1 => m_zig_Take_l1 p0 p1 fu_1 y4_1 y17_1))))
    (some (0, 0, 8))
def m_zig_Take (p0 : (List UInt8)) (p1 : Int) : Option (Int × Int × Int) :=
  cond (decide (p1 < 0))
  (some (0, 0, 2))
  (cond (decide (((List.length p0 : Nat) : Int) < p1))
  (some (0, 0, 2))
  (m_zig_Take_l1 p0 p1 1152921504606846976 0 0))

def m_zig_Back (p0 : Int) : Option Int :=
  Option.bind (some ((IntKind.i64.wrap (0 - (IntKind.i64.wrap (IntKind.u64.wrap (((BitVec.ofInt 64 p0 &&& BitVec.ofInt 64 1).toNat : Int)))))))) fun v9_0 =>
  Option.bind (some ((IntKind.i64.wrap (((BitVec.ofInt 64 (IntKind.i64.wrap (Int.fdiv p0 (2 ^ 1))) ^^^ BitVec.ofInt 64 v9_0).toNat : Int))))) fun v10_0 =>
  some v10_0

def m_zig_TakeInt (p0 : (List UInt8)) (p1 : Int) : Option (Int × Int × Int) :=
  Option.bind (m_zig_Take p0 p1) fun r11_0 =>
  Option.bind (m_zig_Back r11_0.1) fun r16_1 =>
  some (r16_1, r11_0.2.1, r11_0.2.2)

def m_tally_change_l0 (p0 : (List UInt8)) : Nat → Int → GArr3_Int → Int → Option (GChange × Int × Int)
  | 0, _, _, _ => none
  | fu_0 + 1, y1_0, y7_d_0, y12_0 =>
    cond (decide (y12_0 < 3))
    (Option.bind (m_zig_TakeInt p0 y1_0) fun r18_1 =>
    cond (decide (r18_1.2.2 ≠ 0))
    (some ((GChange.mk 0 0 0), 0, r18_1.2.2))
    (cond (decide (y12_0 = 0))
    (m_tally_change_l0 p0 fu_0 r18_1.2.1 (GArr3_Int.mk r18_1.1 y7_d_0.a1 y7_d_0.a2) (IntKind.i64.wrap (y12_0 + 1)))
    (cond (decide (y12_0 = 1))
    (m_tally_change_l0 p0 fu_0 r18_1.2.1 (GArr3_Int.mk y7_d_0.a0 r18_1.1 y7_d_0.a2) (IntKind.i64.wrap (y12_0 + 1)))
    (cond (decide (y12_0 = 2))
    (m_tally_change_l0 p0 fu_0 r18_1.2.1 (GArr3_Int.mk y7_d_0.a0 y7_d_0.a1 r18_1.1) (IntKind.i64.wrap (y12_0 + 1)))
    (none)))))
    (some ((GChange.mk y7_d_0.a0 y7_d_0.a1 y7_d_0.a2), y1_0, 0))
def m_tally_change (p0 : (List UInt8)) (p1 : Int) : Option (GChange × Int × Int) :=
  m_tally_change_l0 p0 1152921504606846976 p1 (GArr3_Int.mk 0 0 0) 0

def m_tally_Take_l5 (y4_1 : List GChange) (y5_1 : Int) : Nat → Int → Option ((List GChange) × Int × Int)
  | 0, _ => none
  | fu_5 + 1, y46_5 =>
    cond (decide (y46_5 < ((List.length y4_1 : Nat) : Int)))
    (Option.bind (geti y4_1 y46_5) fun x49_6 =>
    cond (decide (x49_6.N = 0))
    (some (([] : List GChange), 0, 4))
    (cond (decide ((0 : Int) < y46_5))
    (Option.bind (geti y4_1 (IntKind.i64.wrap (y46_5 - 1))) fun x61_7 =>
    Option.bind (m_tally_order x61_7 x49_6) fun r64_7 =>
    cond (decide ((0 : Int) ≤ r64_7))
    (some (([] : List GChange), 0, 4))
    (m_tally_Take_l5 y4_1 y5_1 fu_5 (IntKind.i64.wrap (y46_5 + 1))))
    (m_tally_Take_l5 y4_1 y5_1 fu_5 (IntKind.i64.wrap (y46_5 + 1)))))
    (some (y4_1, y5_1, 0))
def m_tally_Take_l1 (p0 : (List UInt8)) (r16_0 : (Int × Int × Int)) : Nat → (List GChange) → Int → Int → Option ((List GChange) × Int × Int)
  | 0, _, _, _ => none
  | fu_1 + 1, y4_1, y5_1, y26_1 =>
    cond (decide (y26_1 < r16_0.1))
    (Option.bind (m_tally_change p0 y5_1) fun r31_2 =>
    cond (decide (r31_2.2.2 ≠ 0))
    (some (([] : List GChange), 0, r31_2.2.2))
    (Option.bind (app y4_1 ([r31_2.1] : List GChange)) fun a41_3 =>
    m_tally_Take_l1 p0 r16_0 fu_1 a41_3 r31_2.2.1 (IntKind.u64.wrap (y26_1 + 1))))
    (m_tally_Take_l5 y4_1 y5_1 1152921504606846976 0)
def m_tally_Take (p0 : (List UInt8)) (p1 : Int) : Option ((List GChange) × Int × Int) :=
  Option.bind (m_zig_Take p0 p1) fun r16_0 =>
  cond (decide (r16_0.2.2 ≠ 0))
  (some (([] : List GChange), 0, r16_0.2.2))
  (cond (decide ((1000 : Int) < r16_0.1))
  (some (([] : List GChange), 0, 5))
  (m_tally_Take_l1 p0 r16_0 1152921504606846976 ([] : List GChange) r16_0.2.1 0))

def m_slices_Grow_Change (p1 : Int) : Option (List GChange) :=
  cond (decide (p1 < 0))
  (none)
  (cond (decide ((0 : Int) < (IntKind.i64.wrap (p1 - 0))))
  (Option.bind (mkl (IntKind.i64.wrap (p1 - 0)) ((GChange.mk 0 0 0) : GChange)) fun a22_1 =>
  chk (0 < Int.toNat (IntKind.i64.wrap (p1 - 0))) (
  Option.bind (cut a22_1 0 0) fun s25_1 =>
  some s25_1))
  (some ([] : List GChange)))

def m_slices_Concat_Change_l6 (p0 : (List (List GChange))) : Nat → (List GChange) → Int → Option (List GChange)
  | 0, _, _ => none
  | fu_6 + 1, y6_6, y27_6 =>
    cond (decide (y27_6 < ((List.length p0 : Nat) : Int)))
    (Option.bind (geti p0 y27_6) fun x29_7 =>
    Option.bind (app y6_6 x29_7) fun a33_8 =>
    m_slices_Concat_Change_l6 p0 fu_6 a33_8 (IntKind.i64.wrap (y27_6 + 1)))
    (some y6_6)
def m_slices_Concat_Change_l1 (p0 : (List (List GChange))) : Nat → Int → Int → Option (List GChange)
  | 0, _, _ => none
  | fu_1 + 1, y3_1, y11_1 =>
    cond (decide (y11_1 < ((List.length p0 : Nat) : Int)))
    (Option.bind (geti p0 y11_1) fun x13_2 =>
    cond (decide ((IntKind.i64.wrap (y3_1 + ((List.length x13_2 : Nat) : Int))) < 0))
    (none)
    (m_slices_Concat_Change_l1 p0 fu_1 (IntKind.i64.wrap (y3_1 + ((List.length x13_2 : Nat) : Int))) (IntKind.i64.wrap (y11_1 + 1))))
    (Option.bind (m_slices_Grow_Change y3_1) fun r24_4 =>
    m_slices_Concat_Change_l6 p0 1152921504606846976 r24_4 0)
def m_slices_Concat_Change (p0 : (List (List GChange))) : Option (List GChange) :=
  m_slices_Concat_Change_l1 p0 1152921504606846976 0 0

def m_tally_Merge (p0 : (List GChange)) (p1 : (List GChange)) : Option (List GChange) :=
  Option.bind (m_slices_Concat_Change ([p0, p1] : List (List GChange))) fun r8_0 =>
  Option.bind (m_tally_Normal r8_0) fun r9_0 =>
  some r9_0

def m_tally_Add (p0 : (List GChange)) (p1 : GChange) : Option (List GChange) :=
  Option.bind (m_tally_Merge p0 ([p1] : List GChange)) fun r8_0 =>
  some r8_0

def m_slices_Equal_Change_l2 (p0 : (List GChange)) (p1 : (List GChange)) : Nat → Int → Option Bool
  | 0, _ => none
  | fu_2 + 1, y13_2 =>
    cond (decide (y13_2 < ((List.length p0 : Nat) : Int)))
    (Option.bind (geti p0 y13_2) fun x18_3 =>
    Option.bind (geti p1 y13_2) fun x22_3 =>
    Option.bind (some ((!(decide (x18_3.Loc = x22_3.Loc) && (decide (x18_3.Time = x22_3.Time) && (decide (x18_3.N = x22_3.N) && true)))))) fun v24_3 =>
    cond v24_3
    (some false)
    (m_slices_Equal_Change_l2 p0 p1 fu_2 (IntKind.i64.wrap (y13_2 + 1))))
    (some true)
def m_slices_Equal_Change (p0 : (List GChange)) (p1 : (List GChange)) : Option Bool :=
  cond (decide (((List.length p0 : Nat) : Int) ≠ ((List.length p1 : Nat) : Int)))
  (some false)
  (m_slices_Equal_Change_l2 p0 p1 1152921504606846976 0)

def m_tally_Same (p0 : (List GChange)) (p1 : (List GChange)) : Option Bool :=
  Option.bind (m_slices_Equal_Change p0 p1) fun r7_0 =>
  some r7_0

def m_tally_At_l1 (p0 : (List GChange)) (p1 : Int) (p2 : Int) : Nat → Int → Int → Option Int
  | 0, _, _ => none
  | fu_1 + 1, y7_1, y12_1 =>
    cond (decide (y12_1 < ((List.length p0 : Nat) : Int)))
    (Option.bind (geti p0 y12_1) fun x14_2 =>
    cond (decide (x14_2.Loc = p1))
    (cond (decide (x14_2.Time = p2))
    (m_tally_At_l1 p0 p1 p2 fu_1 (IntKind.i64.wrap (y7_1 + x14_2.N)) (IntKind.i64.wrap (y12_1 + 1)))
    (m_tally_At_l1 p0 p1 p2 fu_1 y7_1 (IntKind.i64.wrap (y12_1 + 1))))
    (m_tally_At_l1 p0 p1 p2 fu_1 y7_1 (IntKind.i64.wrap (y12_1 + 1))))
    (some y7_1)
def m_tally_At (p0 : (List GChange)) (p1 : Int) (p2 : Int) : Option Int :=
  m_tally_At_l1 p0 p1 p2 1152921504606846976 0 0

def m_tally_Neg_l1 (p0 : (List GChange)) : Nat → (List GChange) → Int → Option (List GChange)
  | 0, _, _ => none
  | fu_1 + 1, y3_1, y8_1 =>
    cond (decide (y8_1 < ((List.length p0 : Nat) : Int)))
    (Option.bind (geti p0 y8_1) fun x10_2 =>
    Option.bind (app y3_1 ([(GChange.mk x10_2.Loc x10_2.Time (IntKind.i64.wrap (0 - x10_2.N)))] : List GChange)) fun a19_3 =>
    m_tally_Neg_l1 p0 fu_1 a19_3 (IntKind.i64.wrap (y8_1 + 1)))
    (Option.bind (m_tally_Normal y3_1) fun r22_4 =>
    some r22_4)
def m_tally_Neg (p0 : (List GChange)) : Option (List GChange) :=
  m_tally_Neg_l1 p0 1152921504606846976 ([] : List GChange) 0

def m_telltalelaw26_awake : Option Bool :=
  Option.bind (m_tally_Normal ([(GChange.mk 0 5 2), (GChange.mk 0 3 1), (GChange.mk 0 5 (-2)), (GChange.mk 1 2 4)] : List GChange)) fun r15_0 =>
  Option.bind (m_tally_Put ([112] : List UInt8) r15_0) fun r19_1 =>
  Option.bind (m_tally_Take r19_1 1) fun r23_2 =>
  Option.bind (m_tally_Take ([1, 0, 0, 0] : List UInt8) 0) fun r28_3 =>
  Option.bind (m_tally_Add r15_0 (GChange.mk 0 3 1)) fun r34_4 =>
  cond (decide (((List.length r15_0 : Nat) : Int) = 2))
  (Option.bind (geti r15_0 0) fun x40_5 =>
  cond (decide (x40_5.Loc = 0) && (decide (x40_5.Time = 3) && (decide (x40_5.N = 1) && true)))
  (Option.bind (geti r15_0 1) fun x47_5 =>
  cond (decide (x47_5.Loc = 1) && (decide (x47_5.Time = 2) && (decide (x47_5.N = 4) && true)))
  (cond (decide (r23_2.2.2 = 0))
  (cond (decide (r23_2.2.1 = ((List.length r19_1 : Nat) : Int)))
  (cond (decide (((List.length r19_1 : Nat) : Int) = 8))
  (Option.bind (m_tally_Same r15_0 r23_2.1) fun r70_5 =>
  cond r70_5
  (cond (decide (r28_3.2.2 = 4))
  (Option.bind (m_tally_At r15_0 1 2) fun r78_5 =>
  cond (decide (r78_5 = 4))
  (Option.bind (m_tally_Neg r15_0) fun r84_5 =>
  Option.bind (m_tally_Merge r15_0 r84_5) fun r85_5 =>
  cond (decide (((List.length r85_5 : Nat) : Int) = 0))
  (cond (decide (((List.length r34_4 : Nat) : Int) = 2))
  (Option.bind (geti r34_4 0) fun x96_5 =>
  cond (decide (x96_5.N = 2))
  (some true)
  (some false))
  (some false))
  (some false))
  (some false))
  (some false))
  (some false))
  (some false))
  (some false))
  (some false))
  (some false))
  (some false))
  (some false)

def m_telltalelaw26_Own_l0 (p0 : (List GChange)) : Nat → (List GChange) → Int → Option (List GChange)
  | 0, _, _ => none
  | fu_0 + 1, y3_0, y4_0 =>
    cond (decide (y4_0 < ((List.length p0 : Nat) : Int)))
    (Option.bind (geti p0 y4_0) fun x14_2 =>
    Option.bind (app y3_0 ([x14_2] : List GChange)) fun a17_2 =>
    m_telltalelaw26_Own_l0 p0 fu_0 a17_2 (IntKind.i64.wrap (y4_0 + 1)))
    (some y3_0)
def m_telltalelaw26_Own (p0 : (List GChange)) : Option (List GChange) :=
  m_telltalelaw26_Own_l0 p0 1152921504606846976 ([] : List GChange) 0

def m_telltalelaw26_Back_l0 (p0 : (List GChange)) : Nat → (List GChange) → Int → Option (List GChange)
  | 0, _, _ => none
  | fu_0 + 1, y3_0, y4_0 =>
    cond (decide (y4_0 < ((List.length p0 : Nat) : Int)))
    (Option.bind (geti p0 y4_0) fun x14_2 =>
    Option.bind (app y3_0 ([x14_2] : List GChange)) fun a17_2 =>
    m_telltalelaw26_Back_l0 p0 fu_0 a17_2 (IntKind.i64.wrap (y4_0 + 1)))
    (some y3_0)
def m_telltalelaw26_Back (p0 : (List GChange)) : Option (List GChange) :=
  m_telltalelaw26_Back_l0 p0 1152921504606846976 ([] : List GChange) 0

def m_telltaleref26_At_l0 (p0 : (List GChange)) (p1 : Int) (p2 : Int) : Nat → Int → Int → Option Int
  | 0, _, _ => none
  | fu_0 + 1, y7_0, y8_0 =>
    cond (decide (y8_0 < ((List.length p0 : Nat) : Int)))
    (Option.bind (geti p0 y8_0) fun x17_2 =>
    cond (decide (x17_2.Loc = p1))
    (Option.bind (geti p0 y8_0) fun x25_2 =>
    cond (decide (x25_2.Time = p2))
    (Option.bind (geti p0 y8_0) fun x34_3 =>
    m_telltaleref26_At_l0 p0 p1 p2 fu_0 (IntKind.i64.wrap (y7_0 + x34_3.N)) (IntKind.i64.wrap (y8_0 + 1)))
    (m_telltaleref26_At_l0 p0 p1 p2 fu_0 y7_0 (IntKind.i64.wrap (y8_0 + 1))))
    (m_telltaleref26_At_l0 p0 p1 p2 fu_0 y7_0 (IntKind.i64.wrap (y8_0 + 1))))
    (some y7_0)
def m_telltaleref26_At (p0 : (List GChange)) (p1 : Int) (p2 : Int) : Option Int :=
  m_telltaleref26_At_l0 p0 p1 p2 1152921504606846976 0 0

def m_telltaleref26_before (p0 : GChange) (p1 : GChange) : Option Bool :=
  cond (decide (p0.Loc < p1.Loc))
  (some true)
  (cond (decide (p0.Loc = p1.Loc))
  (some (decide (p0.Time < p1.Time)))
  (some false))

def m_telltaleref26_Normal_j8 (r36_2 : Int) (x17_2 : GChange) (x22_2 : GChange) (y3_0 : List GChange) (y4_0 : Int) (k_m_telltaleref26_Normal_l0 : (List GChange) → Int → Option (List GChange)) (y6_8 : Int) : Option (List GChange) :=
  cond (decide (y6_8 < ((List.length y3_0 : Nat) : Int)))
  (Option.bind (geti y3_0 y6_8) fun x60_5 =>
  Option.bind (m_telltaleref26_before (GChange.mk x17_2.Loc x22_2.Time r36_2) x60_5) fun r62_5 =>
  cond (!(!r62_5))
  (cond (decide (r36_2 ≠ 0))
  (Option.bind (cut y3_0 0 y6_8) fun s75_6 =>
  Option.bind (app ([] : List GChange) s75_6) fun a76_6 =>
  Option.bind (app a76_6 ([(GChange.mk x17_2.Loc x22_2.Time r36_2)] : List GChange)) fun a79_6 =>
  Option.bind (cut y3_0 y6_8 ((List.length y3_0 : Nat) : Int)) fun s83_7 =>
  Option.bind (app a79_6 s83_7) fun a84_7 =>
  k_m_telltaleref26_Normal_l0 a84_7 (IntKind.i64.wrap (y4_0 + 1)))
  (k_m_telltaleref26_Normal_l0 y3_0 (IntKind.i64.wrap (y4_0 + 1))))
  (k_m_telltaleref26_Normal_l0 y3_0 (IntKind.i64.wrap (y4_0 + 1))))
  (cond (decide (r36_2 ≠ 0))
  (Option.bind (cut y3_0 0 y6_8) fun s75_10 =>
  Option.bind (app ([] : List GChange) s75_10) fun a76_10 =>
  Option.bind (app a76_10 ([(GChange.mk x17_2.Loc x22_2.Time r36_2)] : List GChange)) fun a79_10 =>
  Option.bind (cut y3_0 y6_8 ((List.length y3_0 : Nat) : Int)) fun s83_11 =>
  Option.bind (app a79_10 s83_11) fun a84_11 =>
  k_m_telltaleref26_Normal_l0 a84_11 (IntKind.i64.wrap (y4_0 + 1)))
  (k_m_telltaleref26_Normal_l0 y3_0 (IntKind.i64.wrap (y4_0 + 1))))
def m_telltaleref26_Normal_l3 (r36_2 : Int) (x17_2 : GChange) (x22_2 : GChange) (y3_0 : List GChange) (y4_0 : Int) (k_m_telltaleref26_Normal_l0 : (List GChange) → Int → Option (List GChange)) : Nat → Int → Option (List GChange)
  | 0, _ => none
  | fu_3 + 1, y6_3 =>
    cond (decide (y6_3 < ((List.length y3_0 : Nat) : Int)))
    (Option.bind (geti y3_0 y6_3) fun x45_4 =>
    Option.bind (m_telltaleref26_before x45_4 (GChange.mk x17_2.Loc x22_2.Time r36_2)) fun r48_4 =>
    cond r48_4
    (m_telltaleref26_Normal_l3 r36_2 x17_2 x22_2 y3_0 y4_0 k_m_telltaleref26_Normal_l0 fu_3 (IntKind.i64.wrap (y6_3 + 1)))
    (m_telltaleref26_Normal_j8 r36_2 x17_2 x22_2 y3_0 y4_0 k_m_telltaleref26_Normal_l0 y6_3))
    (m_telltaleref26_Normal_j8 r36_2 x17_2 x22_2 y3_0 y4_0 k_m_telltaleref26_Normal_l0 y6_3)
def m_telltaleref26_Normal_l0 (p0 : (List GChange)) : Nat → (List GChange) → Int → Option (List GChange)
  | 0, _, _ => none
  | fu_0 + 1, y3_0, y4_0 =>
    cond (decide (y4_0 < ((List.length p0 : Nat) : Int)))
    (Option.bind (geti p0 y4_0) fun x17_2 =>
    Option.bind (geti p0 y4_0) fun x22_2 =>
    Option.bind (geti p0 y4_0) fun x28_2 =>
    Option.bind (geti p0 y4_0) fun x33_2 =>
    Option.bind (m_telltaleref26_At p0 x28_2.Loc x33_2.Time) fun r36_2 =>
    m_telltaleref26_Normal_l3 r36_2 x17_2 x22_2 y3_0 y4_0 (fun y3_0 y4_0 => m_telltaleref26_Normal_l0 p0 fu_0 y3_0 y4_0) 1152921504606846976 0)
    (some y3_0)
def m_telltaleref26_Normal (p0 : (List GChange)) : Option (List GChange) :=
  m_telltaleref26_Normal_l0 p0 1152921504606846976 ([] : List GChange) 0

def m_telltaleref26_Same_l1 (p0 : (List GChange)) (p1 : (List GChange)) : Nat → Int → Option Bool
  | 0, _ => none
  | fu_1 + 1, y5_1 =>
    cond (decide (y5_1 < ((List.length p0 : Nat) : Int)))
    (Option.bind (geti p0 y5_1) fun x19_3 =>
    Option.bind (geti p1 y5_1) fun x23_3 =>
    Option.bind (some ((!(decide (x19_3.Loc = x23_3.Loc) && (decide (x19_3.Time = x23_3.Time) && (decide (x19_3.N = x23_3.N) && true)))))) fun v25_3 =>
    cond v25_3
    (some false)
    (m_telltaleref26_Same_l1 p0 p1 fu_1 (IntKind.i64.wrap (y5_1 + 1))))
    (some true)
def m_telltaleref26_Same (p0 : (List GChange)) (p1 : (List GChange)) : Option Bool :=
  cond (decide (((List.length p0 : Nat) : Int) ≠ ((List.length p1 : Nat) : Int)))
  (some false)
  (m_telltaleref26_Same_l1 p0 p1 1152921504606846976 0)

def m_telltaleref26_Merge (p0 : (List GChange)) (p1 : (List GChange)) : Option (List GChange) :=
  Option.bind (app ([] : List GChange) p0) fun a7_0 =>
  Option.bind (app a7_0 p1) fun a9_0 =>
  Option.bind (m_telltaleref26_Normal a9_0) fun r10_0 =>
  some r10_0

def m_telltaleref26_Neg_l0 (p0 : (List GChange)) : Nat → (List GChange) → Int → Option (List GChange)
  | 0, _, _ => none
  | fu_0 + 1, y3_0, y4_0 =>
    cond (decide (y4_0 < ((List.length p0 : Nat) : Int)))
    (Option.bind (geti p0 y4_0) fun x14_2 =>
    Option.bind (geti p0 y4_0) fun x19_2 =>
    Option.bind (geti p0 y4_0) fun x24_2 =>
    Option.bind (app y3_0 ([(GChange.mk x14_2.Loc x19_2.Time (IntKind.i64.wrap (0 - x24_2.N)))] : List GChange)) fun a30_2 =>
    m_telltaleref26_Neg_l0 p0 fu_0 a30_2 (IntKind.i64.wrap (y4_0 + 1)))
    (Option.bind (m_telltaleref26_Normal y3_0) fun r32_3 =>
    some r32_3)
def m_telltaleref26_Neg (p0 : (List GChange)) : Option (List GChange) :=
  m_telltaleref26_Neg_l0 p0 1152921504606846976 ([] : List GChange) 0

def m_telltalelaw26_TallyAdds_j1 : Option Bool :=
  Option.bind m_telltalelaw26_awake fun r24_2 =>
  some r24_2
def m_telltalelaw26_TallyAdds_j6 : Option Bool :=
  some false
def m_telltalelaw26_TallyAdds (p0 : (List GChange)) (p1 : (List GChange)) (p2 : GChange) : Option Bool :=
  Option.bind (m_telltalelaw26_Over p0) fun r11_0 =>
  cond (decide ((0 : Int) < r11_0))
  (m_telltalelaw26_TallyAdds_j1 )
  (Option.bind (m_telltalelaw26_Over p1) fun r15_0 =>
  cond (decide ((0 : Int) < r15_0))
  (m_telltalelaw26_TallyAdds_j1 )
  (Option.bind (m_telltalelaw26_Over ([p2] : List GChange)) fun r21_0 =>
  cond (decide ((0 : Int) < r21_0))
  (Option.bind m_telltalelaw26_awake fun r24_3 =>
  some r24_3)
  (Option.bind (m_telltalelaw26_Own p0) fun r26_4 =>
  Option.bind (m_telltalelaw26_Own p1) fun r28_4 =>
  Option.bind (m_tally_Normal r26_4) fun r32_5 =>
  Option.bind (m_telltalelaw26_Back r32_5) fun r33_5 =>
  Option.bind (m_telltaleref26_Normal p0) fun r35_5 =>
  Option.bind (m_telltaleref26_Same r33_5 r35_5) fun r36_5 =>
  cond (!r36_5)
  (m_telltalelaw26_TallyAdds_j6 )
  (Option.bind (m_tally_Merge r26_4 r28_4) fun r41_5 =>
  Option.bind (m_telltalelaw26_Back r41_5) fun r42_5 =>
  Option.bind (m_telltaleref26_Merge p0 p1) fun r45_5 =>
  Option.bind (m_telltaleref26_Same r42_5 r45_5) fun r46_5 =>
  cond (!r46_5)
  (m_telltalelaw26_TallyAdds_j6 )
  (Option.bind (m_tally_Add r26_4 p2) fun r52_5 =>
  Option.bind (m_telltalelaw26_Back r52_5) fun r53_5 =>
  Option.bind (m_telltaleref26_Merge p0 ([p2] : List GChange)) fun r56_5 =>
  Option.bind (m_telltaleref26_Same r53_5 r56_5) fun r57_5 =>
  cond (!r57_5)
  (m_telltalelaw26_TallyAdds_j6 )
  (Option.bind (m_tally_Neg r26_4) fun r62_5 =>
  Option.bind (m_telltalelaw26_Back r62_5) fun r63_5 =>
  Option.bind (m_telltaleref26_Neg p0) fun r65_5 =>
  Option.bind (m_telltaleref26_Same r63_5 r65_5) fun r66_5 =>
  cond (!r66_5)
  (some false)
  (Option.bind (m_tally_At r26_4 p2.Loc p2.Time) fun r74_7 =>
  Option.bind (m_telltaleref26_At p0 p2.Loc p2.Time) fun r80_7 =>
  cond (decide (r74_7 = r80_7))
  (Option.bind (m_tally_Same r26_4 r28_4) fun r85_7 =>
  Option.bind (m_telltaleref26_Same p0 p1) fun r88_7 =>
  cond (decide (r85_7 = r88_7))
  (Option.bind (m_telltalelaw26_Back r26_4) fun r93_7 =>
  Option.bind (m_telltaleref26_Same r93_7 p0) fun r95_7 =>
  cond r95_7
  (Option.bind m_telltalelaw26_awake fun r98_7 =>
  some r98_7)
  (some false))
  (some false))
  (some false))))))))

def m_telltaleref02_Take_j9 (p1 : Int) (x33_3 : UInt8) (y7_1 : Int) (y8_1 : Int) (y9_1 : Int) (k_m_telltaleref02_Take_l1 : Int → Int → Int → Option (Int × Int × Int)) : Option (Int × Int × Int) :=
  Option.bind (some ((IntKind.u64.wrap (y7_1 + (IntKind.u64.wrap ((IntKind.u64.wrap (Int.tmod ((x33_3.toNat : Nat) : Int) 128)) * y8_1)))))) fun v53_6 =>
  cond (decide (((x33_3.toNat : Nat) : Int) < 128))
  (some (v53_6, (IntKind.i64.wrap ((IntKind.i64.wrap (p1 + y9_1)) + 1)), 0))
  (k_m_telltaleref02_Take_l1 v53_6 (IntKind.u64.wrap (y8_1 * 128)) (IntKind.i64.wrap (y9_1 + 1)))
def m_telltaleref02_Take_j8 (p1 : Int) (x33_3 : UInt8) (y7_1 : Int) (y8_1 : Int) (y9_1 : Int) (k_m_telltaleref02_Take_l1 : Int → Int → Int → Option (Int × Int × Int)) : Option (Int × Int × Int) :=
  cond (decide (((x33_3.toNat : Nat) : Int) = 0))
  (cond (decide ((0 : Int) < y9_1))
  (some (0, 0, 4))
  (m_telltaleref02_Take_j9 p1 x33_3 y7_1 y8_1 y9_1 k_m_telltaleref02_Take_l1))
  (m_telltaleref02_Take_j9 p1 x33_3 y7_1 y8_1 y9_1 k_m_telltaleref02_Take_l1)
def m_telltaleref02_Take_l1 (p0 : (List UInt8)) (p1 : Int) : Nat → Int → Int → Int → Option (Int × Int × Int)
  | 0, _, _, _ => none
  | fu_1 + 1, y7_1, y8_1, y9_1 =>
    cond (decide (y9_1 < 10))
    (cond (decide ((IntKind.i64.wrap (((List.length p0 : Nat) : Int) - p1)) ≤ y9_1))
    (some (0, 0, 3))
    (Option.bind (geti p0 (IntKind.i64.wrap (p1 + y9_1))) fun x33_3 =>
    cond (decide (y9_1 = 9))
    (cond (decide ((1 : Int) < ((x33_3.toNat : Nat) : Int)))
    (some (0, 0, 8))
    (m_telltaleref02_Take_j8 p1 x33_3 y7_1 y8_1 y9_1 (fun y7_1 y8_1 y9_1 => m_telltaleref02_Take_l1 p0 p1 fu_1 y7_1 y8_1 y9_1)))
    (m_telltaleref02_Take_j8 p1 x33_3 y7_1 y8_1 y9_1 (fun y7_1 y8_1 y9_1 => m_telltaleref02_Take_l1 p0 p1 fu_1 y7_1 y8_1 y9_1))))
    (some (0, 0, 8))
def m_telltaleref02_Take (p0 : (List UInt8)) (p1 : Int) : Option (Int × Int × Int) :=
  cond (decide (p1 < 0))
  (some (0, 0, 2))
  (cond (decide (((List.length p0 : Nat) : Int) < p1))
  (some (0, 0, 2))
  (m_telltaleref02_Take_l1 p0 p1 1152921504606846976 0 1 0))

def m_telltaleref02_Back (p0 : Int) : Option Int :=
  cond (decide ((Int.tmod p0 2) = 1))
  (some (IntKind.i64.wrap ((IntKind.i64.wrap (0 - (IntKind.i64.wrap (IntKind.u64.wrap (Int.tdiv p0 2))))) - 1)))
  (some (IntKind.i64.wrap (IntKind.u64.wrap (Int.tdiv p0 2))))

def m_telltaleref26_Take_l3 (p0 : (List UInt8)) (y10_1 : List GChange) (y11_1 : Int) (k_m_telltaleref26_Take_l1 : Int → (List GChange) → Int → Option ((List GChange) × Int × Int)) : Nat → Int → GArr3_Int → Int → Option ((List GChange) × Int × Int)
  | 0, _, _, _ => none
  | fu_3 + 1, y8_3, y12_d_3, y13_3 =>
    cond (decide (y13_3 < 3))
    (Option.bind (m_telltaleref02_Take p0 y8_3) fun r43_4 =>
    cond (decide (r43_4.2.2 ≠ 0))
    (some (([] : List GChange), 0, r43_4.2.2))
    (Option.bind (m_telltaleref02_Back r43_4.1) fun r52_5 =>
    cond (decide (y13_3 = 0))
    (m_telltaleref26_Take_l3 p0 y10_1 y11_1 k_m_telltaleref26_Take_l1 fu_3 r43_4.2.1 (GArr3_Int.mk r52_5 y12_d_3.a1 y12_d_3.a2) (IntKind.i64.wrap (y13_3 + 1)))
    (cond (decide (y13_3 = 1))
    (m_telltaleref26_Take_l3 p0 y10_1 y11_1 k_m_telltaleref26_Take_l1 fu_3 r43_4.2.1 (GArr3_Int.mk y12_d_3.a0 r52_5 y12_d_3.a2) (IntKind.i64.wrap (y13_3 + 1)))
    (cond (decide (y13_3 = 2))
    (m_telltaleref26_Take_l3 p0 y10_1 y11_1 k_m_telltaleref26_Take_l1 fu_3 r43_4.2.1 (GArr3_Int.mk y12_d_3.a0 y12_d_3.a1 r52_5) (IntKind.i64.wrap (y13_3 + 1)))
    (none)))))
    (Option.bind (app y10_1 ([(GChange.mk y12_d_3.a0 y12_d_3.a1 y12_d_3.a2)] : List GChange)) fun a64_6 =>
    k_m_telltaleref26_Take_l1 y8_3 a64_6 (IntKind.i64.wrap (y11_1 + 1)))
def m_telltaleref26_Take_l7 (y10_1 : List GChange) (y8_1 : Int) : Nat → Int → Option ((List GChange) × Int × Int)
  | 0, _ => none
  | fu_7 + 1, y17_7 =>
    cond (decide (y17_7 < ((List.length y10_1 : Nat) : Int)))
    (Option.bind (geti y10_1 y17_7) fun x73_9 =>
    cond (decide (x73_9.N = 0))
    (some (([] : List GChange), 0, 4))
    (cond (decide ((0 : Int) < y17_7))
    (Option.bind (geti y10_1 (IntKind.i64.wrap (y17_7 - 1))) fun x84_9 =>
    Option.bind (geti y10_1 y17_7) fun x88_9 =>
    Option.bind (m_telltaleref26_before x84_9 x88_9) fun r90_9 =>
    cond (!r90_9)
    (some (([] : List GChange), 0, 4))
    (m_telltaleref26_Take_l7 y10_1 y8_1 fu_7 (IntKind.i64.wrap (y17_7 + 1))))
    (m_telltaleref26_Take_l7 y10_1 y8_1 fu_7 (IntKind.i64.wrap (y17_7 + 1)))))
    (some (y10_1, y8_1, 0))
def m_telltaleref26_Take_l1 (p0 : (List UInt8)) (r21_0 : (Int × Int × Int)) : Nat → Int → (List GChange) → Int → Option ((List GChange) × Int × Int)
  | 0, _, _, _ => none
  | fu_1 + 1, y8_1, y10_1, y11_1 =>
    cond (decide (y11_1 < (IntKind.i64.wrap r21_0.1)))
    (m_telltaleref26_Take_l3 p0 y10_1 y11_1 (fun y8_1 y10_1 y11_1 => m_telltaleref26_Take_l1 p0 r21_0 fu_1 y8_1 y10_1 y11_1) 1152921504606846976 y8_1 (GArr3_Int.mk 0 0 0) 0)
    (m_telltaleref26_Take_l7 y10_1 y8_1 1152921504606846976 0)
def m_telltaleref26_Take (p0 : (List UInt8)) (p1 : Int) : Option ((List GChange) × Int × Int) :=
  Option.bind (m_telltaleref02_Take p0 p1) fun r21_0 =>
  cond (decide (r21_0.2.2 ≠ 0))
  (some (([] : List GChange), 0, r21_0.2.2))
  (cond (decide ((1000 : Int) < r21_0.1))
  (some (([] : List GChange), 0, 5))
  (m_telltaleref26_Take_l1 p0 r21_0 1152921504606846976 r21_0.2.1 ([] : List GChange) 0))

def m_telltaleref02_sevens_l1 : Nat → Int → (List Int) → Option (List Int)
  | 0, _, _ => none
  | fu_1 + 1, y0_1, y3_1 =>
    cond (decide ((0 : Int) < y0_1))
    (Option.bind (app y3_1 ([(IntKind.i64.wrap (Int.tmod y0_1 128))] : List Int)) fun a17_2 =>
    m_telltaleref02_sevens_l1 fu_1 (IntKind.u64.wrap (Int.tdiv y0_1 128)) a17_2)
    (some y3_1)
def m_telltaleref02_sevens (p0 : Int) : Option (List Int) :=
  m_telltaleref02_sevens_l1  1152921504606846976 (IntKind.u64.wrap (Int.tdiv p0 128)) ([(IntKind.i64.wrap (Int.tmod p0 128))] : List Int)

def m_telltaleref02_Put_l2 (r12_1 : (List Int)) : Nat → (List UInt8) → Int → Option (List UInt8)
  | 0, _, _ => none
  | fu_2 + 1, y5_2, y7_2 =>
    cond (decide (y7_2 < ((List.length r12_1 : Nat) : Int)))
    (cond (decide (y7_2 < (IntKind.i64.wrap (((List.length r12_1 : Nat) : Int) - 1))))
    (Option.bind (geti r12_1 y7_2) fun x27_5 =>
    Option.bind (app y5_2 ([(toU8 (IntKind.i64.wrap (128 + x27_5)))] : List UInt8)) fun a32_5 =>
    m_telltaleref02_Put_l2 r12_1 fu_2 a32_5 (IntKind.i64.wrap (y7_2 + 1)))
    (Option.bind (geti r12_1 y7_2) fun x36_6 =>
    Option.bind (app y5_2 ([(toU8 x36_6)] : List UInt8)) fun a40_6 =>
    m_telltaleref02_Put_l2 r12_1 fu_2 a40_6 (IntKind.i64.wrap (y7_2 + 1))))
    (some y5_2)
def m_telltaleref02_Put (p0 : (List UInt8)) (p1 : Int) : Option (List UInt8) :=
  Option.bind (app ([] : List UInt8) p0) fun a10_0 =>
  Option.bind (m_telltaleref02_sevens p1) fun r12_1 =>
  m_telltaleref02_Put_l2 r12_1 1152921504606846976 a10_0 0

def m_telltaleref02_Fold (p0 : Int) : Option Int :=
  cond (decide (p0 < 0))
  (Option.bind (some ((IntKind.u64.wrap ((IntKind.u64.wrap (2 * (IntKind.u64.wrap (IntKind.i64.wrap (0 - (IntKind.i64.wrap (p0 + 1))))))) + 1)))) fun v10_0 =>
  some v10_0)
  (some (IntKind.u64.wrap (2 * (IntKind.u64.wrap p0))))

def m_telltaleref26_Put_l1 (p1 : (List GChange)) : Nat → (List UInt8) → Int → Option (List UInt8)
  | 0, _, _ => none
  | fu_1 + 1, y0_1, y5_1 =>
    cond (decide (y5_1 < ((List.length p1 : Nat) : Int)))
    (Option.bind (geti p1 y5_1) fun x20_3 =>
    Option.bind (m_telltaleref02_Fold x20_3.Loc) fun r23_3 =>
    Option.bind (m_telltaleref02_Put y0_1 r23_3) fun r24_3 =>
    Option.bind (geti p1 y5_1) fun x28_4 =>
    Option.bind (m_telltaleref02_Fold x28_4.Time) fun r31_4 =>
    Option.bind (m_telltaleref02_Put r24_3 r31_4) fun r32_4 =>
    Option.bind (geti p1 y5_1) fun x36_5 =>
    Option.bind (m_telltaleref02_Fold x36_5.N) fun r39_5 =>
    Option.bind (m_telltaleref02_Put r32_4 r39_5) fun r40_5 =>
    m_telltaleref26_Put_l1 p1 fu_1 r40_5 (IntKind.i64.wrap (y5_1 + 1)))
    (some y0_1)
def m_telltaleref26_Put (p0 : (List UInt8)) (p1 : (List GChange)) : Option (List UInt8) :=
  Option.bind (m_telltaleref02_Put p0 (IntKind.u64.wrap ((List.length p1 : Nat) : Int))) fun r10_0 =>
  m_telltaleref26_Put_l1 p1 1152921504606846976 r10_0 0

def m_telltalelaw26_TallyTakes (p0 : (List GChange)) (p1 : (List UInt8)) (p2 : Int) : Option Bool :=
  cond (decide ((40 : Int) < ((List.length p0 : Nat) : Int)))
  (Option.bind m_telltalelaw26_awake fun r21_1 =>
  some r21_1)
  (cond (decide ((300 : Int) < ((List.length p1 : Nat) : Int)))
  (Option.bind m_telltalelaw26_awake fun r21_2 =>
  some r21_2)
  (Option.bind (m_tally_Take p1 p2) fun r25_3 =>
  Option.bind (m_telltaleref26_Take p1 p2) fun r32_4 =>
  Option.bind (m_telltalelaw26_Own p0) fun r39_5 =>
  Option.bind (m_tally_Put ([112] : List UInt8) r39_5) fun r40_5 =>
  Option.bind (m_telltaleref26_Put ([112] : List UInt8) p0) fun r45_5 =>
  cond (decide (r40_5 = r45_5))
  (Option.bind (m_telltalelaw26_Back r25_3.1) fun r50_5 =>
  Option.bind (m_telltaleref26_Same r50_5 r32_4.1) fun r52_5 =>
  cond r52_5
  (cond (decide (r25_3.2.1 = r32_4.2.1))
  (cond (decide (r25_3.2.2 = r32_4.2.2))
  (Option.bind m_telltalelaw26_awake fun r65_5 =>
  some r65_5)
  (some false))
  (some false))
  (some false))
  (some false)))

def m_telltalelaw26_TallySums_j6 : Option Bool :=
  some false
def m_telltalelaw26_TallySums_j13 : Option Bool :=
  some false
def m_telltalelaw26_TallySums_j14 (y9_10 : Int) (k_m_telltalelaw26_TallySums_l10 : Int → Option Bool) : Option Bool :=
  k_m_telltalelaw26_TallySums_l10 (IntKind.i64.wrap (y9_10 + 1))
def m_telltalelaw26_TallySums_l10 (r29_4 : (List GChange)) : Nat → Int → Option Bool
  | 0, _ => none
  | fu_10 + 1, y9_10 =>
    cond (decide (y9_10 < ((List.length r29_4 : Nat) : Int)))
    (Option.bind (geti r29_4 y9_10) fun x113_12 =>
    cond (decide (x113_12.N = 0))
    (m_telltalelaw26_TallySums_j13 )
    (cond (decide ((0 : Int) < y9_10))
    (Option.bind (geti r29_4 (IntKind.i64.wrap (y9_10 - 1))) fun x124_12 =>
    Option.bind (geti r29_4 y9_10) fun x129_12 =>
    cond (decide (x129_12.Loc < x124_12.Loc))
    (m_telltalelaw26_TallySums_j13 )
    (Option.bind (geti r29_4 (IntKind.i64.wrap (y9_10 - 1))) fun x137_12 =>
    Option.bind (geti r29_4 y9_10) fun x142_12 =>
    cond (decide (x137_12.Loc = x142_12.Loc))
    (Option.bind (geti r29_4 (IntKind.i64.wrap (y9_10 - 1))) fun x150_12 =>
    Option.bind (geti r29_4 y9_10) fun x155_12 =>
    cond (decide (x155_12.Time ≤ x150_12.Time))
    (some false)
    (m_telltalelaw26_TallySums_l10 r29_4 fu_10 (IntKind.i64.wrap (y9_10 + 1))))
    (m_telltalelaw26_TallySums_j14 y9_10 (fun y9_10 => m_telltalelaw26_TallySums_l10 r29_4 fu_10 y9_10))))
    (m_telltalelaw26_TallySums_j14 y9_10 (fun y9_10 => m_telltalelaw26_TallySums_l10 r29_4 fu_10 y9_10))))
    (Option.bind (m_tally_Put ([] : List UInt8) r29_4) fun r164_15 =>
    Option.bind (app r164_15 ([120] : List UInt8)) fun t168_16 =>
    Option.bind (m_tally_Take t168_16 0) fun r169_16 =>
    cond (decide (r169_16.2.2 = 0))
    (cond (decide (r169_16.2.1 = ((List.length r164_15 : Nat) : Int)))
    (Option.bind (m_tally_Same r29_4 r169_16.1) fun r184_17 =>
    cond r184_17
    (Option.bind m_telltalelaw26_awake fun r187_17 =>
    some r187_17)
    (some false))
    (some false))
    (some false))
def m_telltalelaw26_TallySums_l7 (r24_3 : (List GChange)) (r26_3 : (List GChange)) (r29_4 : (List GChange)) : Nat → Int → Option Bool
  | 0, _ => none
  | fu_7 + 1, y8_7 =>
    cond (decide (y8_7 < ((List.length r24_3 : Nat) : Int)))
    (Option.bind (geti r24_3 y8_7) fun x70_9 =>
    Option.bind (geti r24_3 y8_7) fun x75_9 =>
    Option.bind (m_tally_At r29_4 x70_9.Loc x75_9.Time) fun r78_9 =>
    Option.bind (geti r24_3 y8_7) fun x82_9 =>
    Option.bind (geti r24_3 y8_7) fun x87_9 =>
    Option.bind (m_tally_At r24_3 x82_9.Loc x87_9.Time) fun r90_9 =>
    Option.bind (geti r24_3 y8_7) fun x94_9 =>
    Option.bind (geti r24_3 y8_7) fun x99_9 =>
    Option.bind (m_tally_At r26_3 x94_9.Loc x99_9.Time) fun r102_9 =>
    cond (decide (r78_9 ≠ (IntKind.i64.wrap (r90_9 + r102_9))))
    (some false)
    (m_telltalelaw26_TallySums_l7 r24_3 r26_3 r29_4 fu_7 (IntKind.i64.wrap (y8_7 + 1))))
    (m_telltalelaw26_TallySums_l10 r29_4 1152921504606846976 0)
def m_telltalelaw26_TallySums (p0 : (List GChange)) (p1 : (List GChange)) : Option Bool :=
  Option.bind (m_telltalelaw26_Over p0) fun r15_0 =>
  cond (decide ((0 : Int) < r15_0))
  (Option.bind m_telltalelaw26_awake fun r22_1 =>
  some r22_1)
  (Option.bind (m_telltalelaw26_Over p1) fun r19_0 =>
  cond (decide ((0 : Int) < r19_0))
  (Option.bind m_telltalelaw26_awake fun r22_2 =>
  some r22_2)
  (Option.bind (m_telltalelaw26_Own p0) fun r24_3 =>
  Option.bind (m_telltalelaw26_Own p1) fun r26_3 =>
  Option.bind (m_tally_Merge r24_3 r26_3) fun r29_4 =>
  Option.bind (m_tally_Merge r26_3 r24_3) fun r33_5 =>
  Option.bind (m_tally_Same r29_4 r33_5) fun r34_5 =>
  cond (!r34_5)
  (m_telltalelaw26_TallySums_j6 )
  (Option.bind (m_tally_Normal r24_3) fun r39_5 =>
  Option.bind (m_tally_Normal r26_3) fun r41_5 =>
  Option.bind (m_tally_Merge r39_5 r41_5) fun r42_5 =>
  Option.bind (m_tally_Same r29_4 r42_5) fun r43_5 =>
  cond (!r43_5)
  (m_telltalelaw26_TallySums_j6 )
  (Option.bind (m_tally_Normal r29_4) fun r49_5 =>
  Option.bind (m_tally_Same r29_4 r49_5) fun r50_5 =>
  cond (!r50_5)
  (m_telltalelaw26_TallySums_j6 )
  (Option.bind (m_tally_Neg r29_4) fun r56_5 =>
  Option.bind (m_tally_Merge r29_4 r56_5) fun r57_5 =>
  cond (decide (((List.length r57_5 : Nat) : Int) ≠ 0))
  (some false)
  (m_telltalelaw26_TallySums_l7 r24_3 r26_3 r29_4 1152921504606846976 0))))))
end Go.Proofs.Ytkpfagmlohcdjaa.K
