/- models of the program's functions -/
import Derived.Test.YtcpageegmpjkiaaZAn
set_option linter.unusedVariables false
set_option linter.unusedSimpArgs false
namespace Go.Proofs.Ytcpageegmpjkiaa.K
open Go.RowKit Go.Lib

def m_cmp_isNaN_int (p0 : Int) : Option Bool :=
  some (decide (p0 ≠ p0))

def m_cmp_Compare_int (p0 : Int) (p1 : Int) : Option Int :=
  Option.bind (m_cmp_isNaN_int p0) fun r8_0 =>
  Option.bind (m_cmp_isNaN_int p1) fun r10_1 =>
  cond r8_0
  (cond r10_1
  (some 0)
  (some (-1)))
  (cond r10_1
  (some 1)
  (cond (decide (p0 < p1))
  (some (-1))
  (cond (decide (p1 < p0))
  (some 1)
  (some 0))))

def m_cmp_Or_int_l1 (p0 : (List Int)) : Nat → Int → Option Int
  | 0, _ => none
  | fu_1 + 1, y8_1 =>
    cond (decide (y8_1 < ((List.length p0 : Nat) : Int)))
    (Option.bind (geti p0 y8_1) fun x10_2 =>
    cond (decide (x10_2 ≠ 0))
    (some x10_2)
    (m_cmp_Or_int_l1 p0 fu_1 (IntKind.i64.wrap (y8_1 + 1))))
    (some 0)
def m_cmp_Or_int (p0 : (List Int)) : Option Int :=
  m_cmp_Or_int_l1 p0 1152921504606846976 0

def m_tally_order (p0 : GChange) (p1 : GChange) : Option Int :=
  Option.bind (m_cmp_Compare_int p0.Loc p1.Loc) fun r9_0 =>
  Option.bind (m_cmp_Compare_int p0.Time p1.Time) fun r14_0 =>
  Option.bind (m_cmp_Or_int ([r9_0, r14_0] : List Int)) fun r16_0 =>
  some r16_0

def m_slices_insertionSortCmpFunc_tally_Change__tally_order_l1 (p1 : Int) (y8_0 : Int) (k_m_slices_insertionSortCmpFunc_tally_Change__tally_order_l0 : (List GChange) → Int → Option (List GChange)) : Nat → (List GChange) → Int → Option (List GChange)
  | 0, _, _ => none
  | fu_1 + 1, y0_1, y9_1 =>
    cond (decide (p1 < y9_1))
    (Option.bind (geti y0_1 y9_1) fun x25_2 =>
    Option.bind (geti y0_1 (IntKind.i64.wrap (y9_1 - 1))) fun x30_2 =>
    Option.bind (m_tally_order x25_2 x30_2) fun r32_2 =>
    cond (decide (r32_2 < 0))
    (Option.bind (geti y0_1 (IntKind.i64.wrap (y9_1 - 1))) fun x45_3 =>
    Option.bind (geti y0_1 y9_1) fun x49_3 =>
    Option.bind (geti y0_1 y9_1) fun x51_3 =>
    Option.bind (geti (List.set y0_1 (Int.toNat y9_1) x45_3) (IntKind.i64.wrap (y9_1 - 1))) fun x52_3 =>
    m_slices_insertionSortCmpFunc_tally_Change__tally_order_l1 p1 y8_0 k_m_slices_insertionSortCmpFunc_tally_Change__tally_order_l0 fu_1 (List.set (List.set y0_1 (Int.toNat y9_1) x45_3) (Int.toNat (IntKind.i64.wrap (y9_1 - 1))) x49_3) (IntKind.i64.wrap (y9_1 - 1)))
    (k_m_slices_insertionSortCmpFunc_tally_Change__tally_order_l0 y0_1 (IntKind.i64.wrap (y8_0 + 1))))
    (k_m_slices_insertionSortCmpFunc_tally_Change__tally_order_l0 y0_1 (IntKind.i64.wrap (y8_0 + 1)))
def m_slices_insertionSortCmpFunc_tally_Change__tally_order_l0 (p1 : Int) (p2 : Int) : Nat → (List GChange) → Int → Option (List GChange)
  | 0, _, _ => none
  | fu_0 + 1, y0_0, y8_0 =>
    cond (decide (y8_0 < p2))
    (m_slices_insertionSortCmpFunc_tally_Change__tally_order_l1 p1 y8_0 (fun y0_0 y8_0 => m_slices_insertionSortCmpFunc_tally_Change__tally_order_l0 p1 p2 fu_0 y0_0 y8_0) 1152921504606846976 y0_0 y8_0)
    (some y0_0)
def m_slices_insertionSortCmpFunc_tally_Change__tally_order (p0 : (List GChange)) (p1 : Int) (p2 : Int) : Option (List GChange) :=
  m_slices_insertionSortCmpFunc_tally_Change__tally_order_l0 p1 p2 1152921504606846976 p0 (IntKind.i64.wrap (p1 + 1))

def m_slices_swapRangeCmpFunc_tally_Change__tally_order_l0 (p1 : Int) (p2 : Int) (p3 : Int) : Nat → (List GChange) → Int → Option (List GChange)
  | 0, _, _ => none
  | fu_0 + 1, y0_0, y10_0 =>
    cond (decide (y10_0 < p3))
    (Option.bind (geti y0_0 (IntKind.i64.wrap (p2 + y10_0))) fun x28_1 =>
    Option.bind (geti y0_0 (IntKind.i64.wrap (p1 + y10_0))) fun x34_1 =>
    Option.bind (geti y0_0 (IntKind.i64.wrap (p1 + y10_0))) fun x36_1 =>
    Option.bind (geti (List.set y0_0 (Int.toNat (IntKind.i64.wrap (p1 + y10_0))) x28_1) (IntKind.i64.wrap (p2 + y10_0))) fun x37_1 =>
    m_slices_swapRangeCmpFunc_tally_Change__tally_order_l0 p1 p2 p3 fu_0 (List.set (List.set y0_0 (Int.toNat (IntKind.i64.wrap (p1 + y10_0))) x28_1) (Int.toNat (IntKind.i64.wrap (p2 + y10_0))) x34_1) (IntKind.i64.wrap (y10_0 + 1)))
    (some y0_0)
def m_slices_swapRangeCmpFunc_tally_Change__tally_order (p0 : (List GChange)) (p1 : Int) (p2 : Int) (p3 : Int) : Option (List GChange) :=
  m_slices_swapRangeCmpFunc_tally_Change__tally_order_l0 p1 p2 p3 1152921504606846976 p0 0

def m_slices_rotateCmpFunc_tally_Change__tally_order_l0 (p2 : Int) : Nat → (List GChange) → Int → Int → Option (List GChange)
  | 0, _, _, _ => none
  | fu_0 + 1, y0_0, y10_0, y11_0 =>
    cond (decide (y10_0 ≠ y11_0))
    (cond (decide (y11_0 < y10_0))
    (Option.bind (m_slices_swapRangeCmpFunc_tally_Change__tally_order y0_0 (IntKind.i64.wrap (p2 - y10_0)) p2 y11_0) fun r31_1 =>
    m_slices_rotateCmpFunc_tally_Change__tally_order_l0 p2 fu_0 r31_1 (IntKind.i64.wrap (y10_0 - y11_0)) y11_0)
    (Option.bind (m_slices_swapRangeCmpFunc_tally_Change__tally_order y0_0 (IntKind.i64.wrap (p2 - y10_0)) (IntKind.i64.wrap ((IntKind.i64.wrap (p2 + y11_0)) - y10_0)) y10_0) fun r46_2 =>
    m_slices_rotateCmpFunc_tally_Change__tally_order_l0 p2 fu_0 r46_2 y10_0 (IntKind.i64.wrap (y11_0 - y10_0))))
    (Option.bind (m_slices_swapRangeCmpFunc_tally_Change__tally_order y0_0 (IntKind.i64.wrap (p2 - y10_0)) p2 y10_0) fun r57_3 =>
    some r57_3)
def m_slices_rotateCmpFunc_tally_Change__tally_order (p0 : (List GChange)) (p1 : Int) (p2 : Int) (p3 : Int) : Option (List GChange) :=
  m_slices_rotateCmpFunc_tally_Change__tally_order_l0 p2 1152921504606846976 p0 (IntKind.i64.wrap (p2 - p1)) (IntKind.i64.wrap (p3 - p2))

def m_slices_symMergeCmpFunc_tally_Change__tally_order_l4 (y10_0 : Int) : Nat → (List GChange) → Int → Option (List GChange)
  | 0, _, _ => none
  | fu_4 + 1, y0_4, y13_4 =>
    cond (decide (y13_4 < (IntKind.i64.wrap (y10_0 - 1))))
    (Option.bind (geti y0_4 (IntKind.i64.wrap (y13_4 + 1))) fun x69_5 =>
    Option.bind (geti y0_4 y13_4) fun x73_5 =>
    Option.bind (geti y0_4 y13_4) fun x75_5 =>
    Option.bind (geti (List.set y0_4 (Int.toNat y13_4) x69_5) (IntKind.i64.wrap (y13_4 + 1))) fun x76_5 =>
    m_slices_symMergeCmpFunc_tally_Change__tally_order_l4 y10_0 fu_4 (List.set (List.set y0_4 (Int.toNat y13_4) x69_5) (Int.toNat (IntKind.i64.wrap (y13_4 + 1))) x73_5) (IntKind.i64.wrap (y13_4 + 1)))
    (some y0_4)
def m_slices_symMergeCmpFunc_tally_Change__tally_order_l0 (p0 : (List GChange)) (p1 : Int) : Nat → Int → Int → Option (List GChange)
  | 0, _, _ => none
  | fu_0 + 1, y10_0, y11_0 =>
    cond (decide (y10_0 < y11_0))
    (Option.bind (geti p0 (IntKind.i64.wrap (Int.fdiv (IntKind.u64.wrap (IntKind.i64.wrap (y10_0 + y11_0))) (2 ^ 1)))) fun x43_2 =>
    Option.bind (geti p0 p1) fun x47_2 =>
    Option.bind (m_tally_order x43_2 x47_2) fun r49_2 =>
    cond (decide (r49_2 < 0))
    (Option.bind (some ((IntKind.i64.wrap ((IntKind.i64.wrap (Int.fdiv (IntKind.u64.wrap (IntKind.i64.wrap (y10_0 + y11_0))) (2 ^ 1))) + 1)))) fun v52_3 =>
    m_slices_symMergeCmpFunc_tally_Change__tally_order_l0 p0 p1 fu_0 v52_3 y11_0)
    (m_slices_symMergeCmpFunc_tally_Change__tally_order_l0 p0 p1 fu_0 y10_0 (IntKind.i64.wrap (Int.fdiv (IntKind.u64.wrap (IntKind.i64.wrap (y10_0 + y11_0))) (2 ^ 1)))))
    (m_slices_symMergeCmpFunc_tally_Change__tally_order_l4 y10_0 1152921504606846976 p0 p1)
def m_slices_symMergeCmpFunc_tally_Change__tally_order_l10 (y14_6 : Int) : Nat → (List GChange) → Int → Option (List GChange)
  | 0, _, _ => none
  | fu_10 + 1, y0_10, y17_10 =>
    cond (decide (y14_6 < y17_10))
    (Option.bind (geti y0_10 (IntKind.i64.wrap (y17_10 - 1))) fun x121_11 =>
    Option.bind (geti y0_10 y17_10) fun x125_11 =>
    Option.bind (geti y0_10 y17_10) fun x127_11 =>
    Option.bind (geti (List.set y0_10 (Int.toNat y17_10) x121_11) (IntKind.i64.wrap (y17_10 - 1))) fun x128_11 =>
    m_slices_symMergeCmpFunc_tally_Change__tally_order_l10 y14_6 fu_10 (List.set (List.set y0_10 (Int.toNat y17_10) x121_11) (Int.toNat (IntKind.i64.wrap (y17_10 - 1))) x125_11) (IntKind.i64.wrap (y17_10 - 1)))
    (some y0_10)
def m_slices_symMergeCmpFunc_tally_Change__tally_order_l6 (p0 : (List GChange)) (p2 : Int) : Nat → Int → Int → Option (List GChange)
  | 0, _, _ => none
  | fu_6 + 1, y14_6, y15_6 =>
    cond (decide (y14_6 < y15_6))
    (Option.bind (geti p0 p2) fun x95_8 =>
    Option.bind (geti p0 (IntKind.i64.wrap (Int.fdiv (IntKind.u64.wrap (IntKind.i64.wrap (y14_6 + y15_6))) (2 ^ 1)))) fun x99_8 =>
    Option.bind (m_tally_order x95_8 x99_8) fun r101_8 =>
    cond (!decide (r101_8 < 0))
    (Option.bind (some ((IntKind.i64.wrap ((IntKind.i64.wrap (Int.fdiv (IntKind.u64.wrap (IntKind.i64.wrap (y14_6 + y15_6))) (2 ^ 1))) + 1)))) fun v105_9 =>
    m_slices_symMergeCmpFunc_tally_Change__tally_order_l6 p0 p2 fu_6 v105_9 y15_6)
    (m_slices_symMergeCmpFunc_tally_Change__tally_order_l6 p0 p2 fu_6 y14_6 (IntKind.i64.wrap (Int.fdiv (IntKind.u64.wrap (IntKind.i64.wrap (y14_6 + y15_6))) (2 ^ 1)))))
    (m_slices_symMergeCmpFunc_tally_Change__tally_order_l10 y14_6 1152921504606846976 p0 p2)
def m_slices_symMergeCmpFunc_tally_Change__tally_order_j24 (p1 : Int) (p3 : Int) (v137_13 : Int) (y20_15 : Int) (k_rec : (List GChange) → Int → Int → Int → Option (List GChange)) (y0_24 : List GChange) : Option (List GChange) :=
  Option.bind (some (decide ((IntKind.i64.wrap (Int.fdiv (IntKind.u64.wrap (IntKind.i64.wrap (p1 + p3))) (2 ^ 1))) < (IntKind.i64.wrap (v137_13 - y20_15))))) fun v208_25 =>
  cond v208_25
  (cond (decide ((IntKind.i64.wrap (v137_13 - y20_15)) < p3))
  (Option.bind (k_rec y0_24 (IntKind.i64.wrap (Int.fdiv (IntKind.u64.wrap (IntKind.i64.wrap (p1 + p3))) (2 ^ 1))) (IntKind.i64.wrap (v137_13 - y20_15)) p3) fun r219_26 =>
  some r219_26)
  (some y0_24))
  (some y0_24)
def m_slices_symMergeCmpFunc_tally_Change__tally_order_j21 (p1 : Int) (p3 : Int) (v137_13 : Int) (y20_15 : Int) (k_rec : (List GChange) → Int → Int → Int → Option (List GChange)) (y0_21 : List GChange) : Option (List GChange) :=
  cond (decide (p1 < y20_15))
  (cond (decide (y20_15 < (IntKind.i64.wrap (Int.fdiv (IntKind.u64.wrap (IntKind.i64.wrap (p1 + p3))) (2 ^ 1)))))
  (Option.bind (k_rec y0_21 p1 y20_15 (IntKind.i64.wrap (Int.fdiv (IntKind.u64.wrap (IntKind.i64.wrap (p1 + p3))) (2 ^ 1)))) fun r205_23 =>
  m_slices_symMergeCmpFunc_tally_Change__tally_order_j24 p1 p3 v137_13 y20_15 k_rec r205_23)
  (m_slices_symMergeCmpFunc_tally_Change__tally_order_j24 p1 p3 v137_13 y20_15 k_rec y0_21))
  (m_slices_symMergeCmpFunc_tally_Change__tally_order_j24 p1 p3 v137_13 y20_15 k_rec y0_21)
def m_slices_symMergeCmpFunc_tally_Change__tally_order_l15 (p0 : (List GChange)) (p1 : Int) (p2 : Int) (p3 : Int) (v137_13 : Int) (k_rec : (List GChange) → Int → Int → Int → Option (List GChange)) : Nat → Int → Int → Option (List GChange)
  | 0, _, _ => none
  | fu_15 + 1, y20_15, y21_15 =>
    cond (decide (y20_15 < y21_15))
    (Option.bind (some ((IntKind.i64.wrap ((IntKind.i64.wrap (v137_13 - 1)) - (IntKind.i64.wrap (Int.fdiv (IntKind.u64.wrap (IntKind.i64.wrap (y20_15 + y21_15))) (2 ^ 1))))))) fun v162_17 =>
    Option.bind (geti p0 v162_17) fun x163_17 =>
    Option.bind (geti p0 (IntKind.i64.wrap (Int.fdiv (IntKind.u64.wrap (IntKind.i64.wrap (y20_15 + y21_15))) (2 ^ 1)))) fun x167_17 =>
    Option.bind (m_tally_order x163_17 x167_17) fun r169_17 =>
    cond (!decide (r169_17 < 0))
    (Option.bind (some ((IntKind.i64.wrap ((IntKind.i64.wrap (Int.fdiv (IntKind.u64.wrap (IntKind.i64.wrap (y20_15 + y21_15))) (2 ^ 1))) + 1)))) fun v173_18 =>
    m_slices_symMergeCmpFunc_tally_Change__tally_order_l15 p0 p1 p2 p3 v137_13 k_rec fu_15 v173_18 y21_15)
    (m_slices_symMergeCmpFunc_tally_Change__tally_order_l15 p0 p1 p2 p3 v137_13 k_rec fu_15 y20_15 (IntKind.i64.wrap (Int.fdiv (IntKind.u64.wrap (IntKind.i64.wrap (y20_15 + y21_15))) (2 ^ 1)))))
    (cond (decide (y20_15 < p2))
    (cond (decide (p2 < (IntKind.i64.wrap (v137_13 - y20_15))))
    (Option.bind (m_slices_rotateCmpFunc_tally_Change__tally_order p0 y20_15 p2 (IntKind.i64.wrap (v137_13 - y20_15))) fun r191_20 =>
    m_slices_symMergeCmpFunc_tally_Change__tally_order_j21 p1 p3 v137_13 y20_15 k_rec r191_20)
    (m_slices_symMergeCmpFunc_tally_Change__tally_order_j21 p1 p3 v137_13 y20_15 k_rec p0))
    (m_slices_symMergeCmpFunc_tally_Change__tally_order_j21 p1 p3 v137_13 y20_15 k_rec p0))
def m_slices_symMergeCmpFunc_tally_Change__tally_order_j14 (p0 : (List GChange)) (p1 : Int) (p2 : Int) (p3 : Int) (v137_13 : Int) (k_rec : (List GChange) → Int → Int → Int → Option (List GChange)) (y20_14 : Int) (y21_14 : Int) : Option (List GChange) :=
  m_slices_symMergeCmpFunc_tally_Change__tally_order_l15 p0 p1 p2 p3 v137_13 k_rec 1152921504606846976 y20_14 y21_14
def m_slices_symMergeCmpFunc_tally_Change__tally_order : Nat → (List GChange) → Int → Int → Int → Option (List GChange)
  | 0, _, _, _, _ => none
  | fuR + 1, p0, p1, p2, p3 =>
    cond (decide ((IntKind.i64.wrap (p2 - p1)) = 1))
    (m_slices_symMergeCmpFunc_tally_Change__tally_order_l0 p0 p1 1152921504606846976 p2 p3)
    (cond (decide ((IntKind.i64.wrap (p3 - p2)) = 1))
    (m_slices_symMergeCmpFunc_tally_Change__tally_order_l6 p0 p2 1152921504606846976 p1 p2)
    (Option.bind (some ((IntKind.i64.wrap ((IntKind.i64.wrap (Int.fdiv (IntKind.u64.wrap (IntKind.i64.wrap (p1 + p3))) (2 ^ 1))) + p2)))) fun v137_13 =>
    cond (decide ((IntKind.i64.wrap (Int.fdiv (IntKind.u64.wrap (IntKind.i64.wrap (p1 + p3))) (2 ^ 1))) < p2))
    (m_slices_symMergeCmpFunc_tally_Change__tally_order_j14 p0 p1 p2 p3 v137_13 (fun p0 p1 p2 p3 => m_slices_symMergeCmpFunc_tally_Change__tally_order fuR p0 p1 p2 p3) (IntKind.i64.wrap (v137_13 - p3)) (IntKind.i64.wrap (Int.fdiv (IntKind.u64.wrap (IntKind.i64.wrap (p1 + p3))) (2 ^ 1))))
    (m_slices_symMergeCmpFunc_tally_Change__tally_order_j14 p0 p1 p2 p3 v137_13 (fun p0 p1 p2 p3 => m_slices_symMergeCmpFunc_tally_Change__tally_order fuR p0 p1 p2 p3) p1 p2)))

def m_slices_stableCmpFunc_tally_Change__tally_order_l4 (p1 : Int) (y6_3 : Int) (k_m_slices_stableCmpFunc_tally_Change__tally_order_l3 : (List GChange) → Int → Option (List GChange)) : Nat → (List GChange) → Int → Int → Option (List GChange)
  | 0, _, _, _ => none
  | fu_4 + 1, y0_4, y7_4, y8_4 =>
    cond (decide (y8_4 ≤ p1))
    (Option.bind (m_slices_symMergeCmpFunc_tally_Change__tally_order 1152921504606846976 y0_4 y7_4 (IntKind.i64.wrap (y7_4 + y6_3)) y8_4) fun r43_5 =>
    m_slices_stableCmpFunc_tally_Change__tally_order_l4 p1 y6_3 k_m_slices_stableCmpFunc_tally_Change__tally_order_l3 fu_4 r43_5 y8_4 (IntKind.i64.wrap (y8_4 + (IntKind.i64.wrap (2 * y6_3)))))
    (cond (decide ((IntKind.i64.wrap (y7_4 + y6_3)) < p1))
    (Option.bind (m_slices_symMergeCmpFunc_tally_Change__tally_order 1152921504606846976 y0_4 y7_4 (IntKind.i64.wrap (y7_4 + y6_3)) p1) fun r60_6 =>
    k_m_slices_stableCmpFunc_tally_Change__tally_order_l3 r60_6 (IntKind.i64.wrap (y6_3 * 2)))
    (k_m_slices_stableCmpFunc_tally_Change__tally_order_l3 y0_4 (IntKind.i64.wrap (y6_3 * 2))))
def m_slices_stableCmpFunc_tally_Change__tally_order_l3 (p1 : Int) : Nat → (List GChange) → Int → Option (List GChange)
  | 0, _, _ => none
  | fu_3 + 1, y0_3, y6_3 =>
    cond (decide (y6_3 < p1))
    (m_slices_stableCmpFunc_tally_Change__tally_order_l4 p1 y6_3 (fun y0_3 y6_3 => m_slices_stableCmpFunc_tally_Change__tally_order_l3 p1 fu_3 y0_3 y6_3) 1152921504606846976 y0_3 0 (IntKind.i64.wrap (2 * y6_3)))
    (some y0_3)
def m_slices_stableCmpFunc_tally_Change__tally_order_l0 (p1 : Int) : Nat → (List GChange) → Int → Int → Option (List GChange)
  | 0, _, _, _ => none
  | fu_0 + 1, y0_0, y7_0, y8_0 =>
    cond (decide (y8_0 ≤ p1))
    (Option.bind (m_slices_insertionSortCmpFunc_tally_Change__tally_order y0_0 y7_0 y8_0) fun r18_1 =>
    m_slices_stableCmpFunc_tally_Change__tally_order_l0 p1 fu_0 r18_1 y8_0 (IntKind.i64.wrap (y8_0 + 20)))
    (Option.bind (m_slices_insertionSortCmpFunc_tally_Change__tally_order y0_0 y7_0 p1) fun r27_2 =>
    m_slices_stableCmpFunc_tally_Change__tally_order_l3 p1 1152921504606846976 r27_2 20)
def m_slices_stableCmpFunc_tally_Change__tally_order (p0 : (List GChange)) (p1 : Int) : Option (List GChange) :=
  m_slices_stableCmpFunc_tally_Change__tally_order_l0 p1 1152921504606846976 p0 0 20

def m_slices_SortStableFunc_Change__tally_order (p0 : (List GChange)) : Option (List GChange) :=
  Option.bind (m_slices_stableCmpFunc_tally_Change__tally_order p0 ((List.length p0 : Nat) : Int)) fun r8_0 =>
  some r8_0

def m_tally_Normal_1 (p0 : GChange) : Option Bool :=
  some (decide (p0.N = 0))

def m_slices_IndexFunc_Change__tally_Normal_1_l1 (p0 : (List GChange)) : Nat → Int → Option Int
  | 0, _ => none
  | fu_1 + 1, y8_1 =>
    cond (decide (y8_1 < ((List.length p0 : Nat) : Int)))
    (Option.bind (geti p0 y8_1) fun x14_2 =>
    Option.bind (m_tally_Normal_1 x14_2) fun r16_2 =>
    cond r16_2
    (some y8_1)
    (m_slices_IndexFunc_Change__tally_Normal_1_l1 p0 fu_1 (IntKind.i64.wrap (y8_1 + 1))))
    (some (-1))
def m_slices_IndexFunc_Change__tally_Normal_1 (p0 : (List GChange)) : Option Int :=
  m_slices_IndexFunc_Change__tally_Normal_1_l1 p0 1152921504606846976 0

def m_slices_DeleteFunc_Change__tally_Normal_1_l1 : Nat → (List GChange) → Int → Int → Option (List GChange)
  | 0, _, _, _ => none
  | fu_1 + 1, y0_1, y5_1, y6_1 =>
    cond (decide (y6_1 < ((List.length y0_1 : Nat) : Int)))
    (Option.bind (geti y0_1 y6_1) fun x24_3 =>
    Option.bind (m_tally_Normal_1 x24_3) fun r28_4 =>
    cond (!r28_4)
    (Option.bind (geti y0_1 y5_1) fun x33_5 =>
    m_slices_DeleteFunc_Change__tally_Normal_1_l1 fu_1 (List.set y0_1 (Int.toNat y5_1) x24_3) (IntKind.i64.wrap (y5_1 + 1)) (IntKind.i64.wrap (y6_1 + 1)))
    (m_slices_DeleteFunc_Change__tally_Normal_1_l1 fu_1 y0_1 y5_1 (IntKind.i64.wrap (y6_1 + 1))))
    (chk (0 ≤ y5_1 ∧ y5_1 < ((List.length y0_1 : Nat) : Int)) (
    Option.bind (cut (clr y0_1 (Int.toNat y5_1) ((GChange.mk 0 0 0) : GChange)) 0 y5_1) fun s41_7 =>
    some s41_7))
def m_slices_DeleteFunc_Change__tally_Normal_1 (p0 : (List GChange)) : Option (List GChange) :=
  Option.bind (m_slices_IndexFunc_Change__tally_Normal_1 p0) fun r10_0 =>
  cond (decide (r10_0 = (-1)))
  (some p0)
  (m_slices_DeleteFunc_Change__tally_Normal_1_l1  1152921504606846976 p0 r10_0 (IntKind.i64.wrap (r10_0 + 1)))

def m_tally_Normal_l4 (r14_2 : (List GChange)) : Nat → (List GChange) → Int → Option (List GChange)
  | 0, _, _ => none
  | fu_4 + 1, y4_4, y17_4 =>
    cond (decide (y17_4 < ((List.length r14_2 : Nat) : Int)))
    (Option.bind (geti r14_2 y17_4) fun x20_5 =>
    cond (decide ((0 : Int) < y17_4))
    (Option.bind (geti r14_2 (IntKind.i64.wrap (y17_4 - 1))) fun x28_7 =>
    Option.bind (m_tally_order x28_7 x20_5) fun r31_7 =>
    cond (decide (r31_7 = 0))
    (Option.bind (geti y4_4 (IntKind.i64.wrap (((List.length y4_4 : Nat) : Int) - 1))) fun x38_8 =>
    Option.bind (geti y4_4 (IntKind.i64.wrap (((List.length y4_4 : Nat) : Int) - 1))) fun x44_8 =>
    m_tally_Normal_l4 r14_2 fu_4 (List.set y4_4 (Int.toNat (IntKind.i64.wrap (((List.length y4_4 : Nat) : Int) - 1))) (GChange.mk x44_8.Loc x44_8.Time (IntKind.i64.wrap (x38_8.N + x20_5.N)))) (IntKind.i64.wrap (y17_4 + 1)))
    (Option.bind (app y4_4 ([x20_5] : List GChange)) fun a49_6 =>
    m_tally_Normal_l4 r14_2 fu_4 a49_6 (IntKind.i64.wrap (y17_4 + 1))))
    (Option.bind (app y4_4 ([x20_5] : List GChange)) fun a49_9 =>
    m_tally_Normal_l4 r14_2 fu_4 a49_9 (IntKind.i64.wrap (y17_4 + 1))))
    (Option.bind (m_slices_DeleteFunc_Change__tally_Normal_1 y4_4) fun r52_10 =>
    some r52_10)
def m_tally_Normal (p0 : (List GChange)) : Option (List GChange) :=
  Option.bind (mkl ((List.length p0 : Nat) : Int) ((GChange.mk 0 0 0) : GChange)) fun m9_0 =>
  Option.bind (cpy m9_0 p0) fun c12_1 =>
  Option.bind (m_slices_SortStableFunc_Change__tally_order c12_1) fun r14_2 =>
  m_tally_Normal_l4 r14_2 1152921504606846976 ([] : List GChange) 0

def m_view_New_j1 : Option (GNet × Int) :=
  some ((GNet.mk 0 ([] : List (List GChange)) ([] : List (List GChange)) (none : Option (List (GArr2_Int × (List (List GChange)))))), 2)
def m_view_New_l3 (p0 : Int) (p1 : Int) (p2 : (List GChange)) (m26_2 : List (List GChange)) : Nat → (List (List GChange)) → Int → Option (GNet × Int)
  | 0, _, _ => none
  | fu_3 + 1, y8_d_1_3, y30_3 =>
    cond (decide (y30_3 < p0))
    (Option.bind (m_tally_Normal p2) fun r35_4 =>
    Option.bind (app y8_d_1_3 ([r35_4] : List (List GChange))) fun a37_4 =>
    m_view_New_l3 p0 p1 p2 m26_2 fu_3 a37_4 (IntKind.i64.wrap (y30_3 + 1)))
    (some ((GNet.mk p1 y8_d_1_3 m26_2 (some ([] : List (GArr2_Int × (List (List GChange)))))), 0))
def m_view_New (p0 : Int) (p1 : Int) (p2 : (List GChange)) : Option (GNet × Int) :=
  cond (decide (p0 < 1))
  (m_view_New_j1 )
  (cond (decide ((16 : Int) < p0))
  (m_view_New_j1 )
  (cond (decide (p1 < 1))
  (m_view_New_j1 )
  (cond (decide ((4096 : Int) < p1))
  (some ((GNet.mk 0 ([] : List (List GChange)) ([] : List (List GChange)) (none : Option (List (GArr2_Int × (List (List GChange)))))), 2))
  (Option.bind (mkl p0 (([] : List GChange) : (List GChange))) fun m26_2 =>
  m_view_New_l3 p0 p1 p2 m26_2 1152921504606846976 ([] : List (List GChange)) 0))))

def m_view_Net_there (p0 : GNet) (p1 : Int) : Option Bool :=
  cond (decide ((0 : Int) ≤ p1))
  (some (decide (p1 < ((List.length p0.Views : Nat) : Int))))
  (some false)

def m_slices_Clone_tally_Change_tally_Change (p0 : (List (List GChange))) : Option (List (List GChange)) :=
  Option.bind (app ([] : List (List GChange)) p0) fun a7_0 =>
  some a7_0

def m_view_Net_clone (p0 : GNet) : Option GNet :=
  Option.bind (m_slices_Clone_tally_Change_tally_Change p0.Views) fun r5_0 =>
  Option.bind (m_slices_Clone_tally_Change_tally_Change p0.Pending) fun r8_0 =>
  cond (Option.isNone p0.Links)
  (some (GNet.mk p0.Cap r5_0 r8_0 (some ([] : List (GArr2_Int × (List (List GChange)))))))
  (cond (Option.isSome p0.Links)
  (Option.bind p0.Links fun mc11_0 =>
  some (GNet.mk p0.Cap r5_0 r8_0 (some mc11_0)))
  (none))

def m_slices_Grow_Change (p1 : Int) : Option (List GChange) :=
  cond (decide (p1 < 0))
  (none)
  (cond (decide ((0 : Int) < (IntKind.i64.wrap (p1 - 0))))
  (Option.bind (mkl (IntKind.i64.wrap (p1 - 0)) ((GChange.mk 0 0 0) : GChange)) fun a22_1 =>
  chk (0 < Int.toNat (IntKind.i64.wrap (p1 - 0))) (
  Option.bind (cut a22_1 0 0) fun s25_1 =>
  some s25_1))
  (some ([] : List GChange)))

def m_slices_Concat_Change_l6 (p0 : (List (List GChange))) : Nat → (List GChange) → Int → Option (List GChange)
  | 0, _, _ => none
  | fu_6 + 1, y6_6, y27_6 =>
    cond (decide (y27_6 < ((List.length p0 : Nat) : Int)))
    (Option.bind (geti p0 y27_6) fun x29_7 =>
    Option.bind (app y6_6 x29_7) fun a33_8 =>
    m_slices_Concat_Change_l6 p0 fu_6 a33_8 (IntKind.i64.wrap (y27_6 + 1)))
    (some y6_6)
def m_slices_Concat_Change_l1 (p0 : (List (List GChange))) : Nat → Int → Int → Option (List GChange)
  | 0, _, _ => none
  | fu_1 + 1, y3_1, y11_1 =>
    cond (decide (y11_1 < ((List.length p0 : Nat) : Int)))
    (Option.bind (geti p0 y11_1) fun x13_2 =>
    cond (decide ((IntKind.i64.wrap (y3_1 + ((List.length x13_2 : Nat) : Int))) < 0))
    (none)
    (m_slices_Concat_Change_l1 p0 fu_1 (IntKind.i64.wrap (y3_1 + ((List.length x13_2 : Nat) : Int))) (IntKind.i64.wrap (y11_1 + 1))))
    (Option.bind (m_slices_Grow_Change y3_1) fun r24_4 =>
    m_slices_Concat_Change_l6 p0 1152921504606846976 r24_4 0)
def m_slices_Concat_Change (p0 : (List (List GChange))) : Option (List GChange) :=
  m_slices_Concat_Change_l1 p0 1152921504606846976 0 0

def m_tally_Merge (p0 : (List GChange)) (p1 : (List GChange)) : Option (List GChange) :=
  Option.bind (m_slices_Concat_Change ([p0, p1] : List (List GChange))) fun r8_0 =>
  Option.bind (m_tally_Normal r8_0) fun r9_0 =>
  some r9_0

def m_view_Net_Note (p0 : GNet) (p1 : Int) (p2 : (List GChange)) : Option (GNet × Int) :=
  Option.bind (m_view_Net_there p0 p1) fun r10_0 =>
  cond (!r10_0)
  (some (p0, 6))
  (Option.bind (m_view_Net_clone p0) fun r14_1 =>
  Option.bind (geti r14_1.Pending p1) fun x21_2 =>
  Option.bind (m_tally_Merge x21_2 p2) fun r24_2 =>
  Option.bind (geti r14_1.Pending p1) fun x25_2 =>
  some ((GNet.mk r14_1.Cap r14_1.Views (List.set r14_1.Pending (Int.toNat p1) r24_2) (some (ml r14_1.Links))), 0))

def m_view_Net_Waits (p0 : GNet) (p1 : Int) (p2 : Int) : Option Int :=
  Option.bind (some (((List.length (Option.getD (mlook (ml p0.Links) (GArr2_Int.mk p1 p2)) ([] : List (List GChange))) : Nat) : Int))) fun v13_1 =>
  some v13_1

def m_view_Net_Flush_l7 (p1 : Int) (r38_5 : GNet) : Nat → (List (GArr2_Int × (List (List GChange)))) → Int → Option (GNet × Int)
  | 0, _, _ => none
  | fu_7 + 1, y2_d_3_7, y42_7 =>
    cond (decide (y42_7 < ((List.length r38_5.Views : Nat) : Int)))
    (Option.bind (m_slices_Clone_tally_Change_tally_Change (Option.getD (mlook y2_d_3_7 (GArr2_Int.mk p1 y42_7)) ([] : List (List GChange)))) fun r55_8 =>
    Option.bind (geti r38_5.Pending p1) fun x59_8 =>
    Option.bind (app r55_8 ([x59_8] : List (List GChange))) fun a62_8 =>
    m_view_Net_Flush_l7 p1 r38_5 fu_7 (mput y2_d_3_7 (GArr2_Int.mk p1 y42_7) a62_8) (IntKind.i64.wrap (y42_7 + 1)))
    (Option.bind (geti r38_5.Pending p1) fun x67_9 =>
    some ((GNet.mk r38_5.Cap r38_5.Views (List.set r38_5.Pending (Int.toNat p1) ([] : List GChange)) (some y2_d_3_7)), 0))
def m_view_Net_Flush_l3 (p0 : GNet) (p1 : Int) : Nat → Int → Option (GNet × Int)
  | 0, _ => none
  | fu_3 + 1, y25_3 =>
    cond (decide (y25_3 < ((List.length p0.Views : Nat) : Int)))
    (Option.bind (m_view_Net_Waits p0 p1 y25_3) fun r31_4 =>
    cond (decide (p0.Cap ≤ r31_4))
    (some (p0, 7))
    (m_view_Net_Flush_l3 p0 p1 fu_3 (IntKind.i64.wrap (y25_3 + 1))))
    (Option.bind (m_view_Net_clone p0) fun r38_5 =>
    m_view_Net_Flush_l7 p1 r38_5 1152921504606846976 (ml r38_5.Links) 0)
def m_view_Net_Flush (p0 : GNet) (p1 : Int) : Option (GNet × Int) :=
  Option.bind (m_view_Net_there p0 p1) fun r11_0 =>
  cond (!r11_0)
  (some (p0, 6))
  (Option.bind (geti p0.Pending p1) fun x17_1 =>
  cond (decide (((List.length x17_1 : Nat) : Int) = 0))
  (some (p0, 16))
  (m_view_Net_Flush_l3 p0 p1 1152921504606846976 0))

def m_view_Net_Deliver (p0 : GNet) (p1 : Int) (p2 : Int) : Option (GNet × Int) :=
  Option.bind (m_view_Net_there p0 p1) fun r12_0 =>
  cond (!r12_0)
  (some (p0, 6))
  (Option.bind (m_view_Net_there p0 p2) fun r17_0 =>
  cond (!r17_0)
  (some (p0, 6))
  (Option.bind (some (((List.length (Option.getD (mlook (ml p0.Links) (GArr2_Int.mk p1 p2)) ([] : List (List GChange))) : Nat) : Int))) fun v28_2 =>
  cond (decide (v28_2 = 0))
  (some (p0, 16))
  (Option.bind (m_view_Net_clone p0) fun r32_3 =>
  Option.bind (geti r32_3.Views p2) fun x43_4 =>
  Option.bind (geti (Option.getD (mlook (ml r32_3.Links) (GArr2_Int.mk p1 p2)) ([] : List (List GChange))) 0) fun x46_4 =>
  Option.bind (m_tally_Merge x43_4 x46_4) fun r48_4 =>
  Option.bind (geti r32_3.Views p2) fun x49_4 =>
  Option.bind (cut (Option.getD (mlook (ml r32_3.Links) (GArr2_Int.mk p1 p2)) ([] : List (List GChange))) 1 ((List.length (Option.getD (mlook (ml r32_3.Links) (GArr2_Int.mk p1 p2)) ([] : List (List GChange))) : Nat) : Int)) fun s54_5 =>
  Option.bind (m_slices_Clone_tally_Change_tally_Change s54_5) fun r55_5 =>
  Option.bind (some (((List.length (Option.getD (mlook (ml r32_3.Links) (GArr2_Int.mk p1 p2)) ([] : List (List GChange))) : Nat) : Int))) fun v57_2 =>
  cond (decide (v57_2 = 1))
  (some ((GNet.mk r32_3.Cap (List.set r32_3.Views (Int.toNat p2) r48_4) r32_3.Pending (some (mdel (mput (ml r32_3.Links) (GArr2_Int.mk p1 p2) r55_5) (GArr2_Int.mk p1 p2)))), 0))
  (some ((GNet.mk r32_3.Cap (List.set r32_3.Views (Int.toNat p2) r48_4) r32_3.Pending (some (mput (ml r32_3.Links) (GArr2_Int.mk p1 p2) r55_5))), 0)))))

def m_front_Leads (p0 : Int) (p1 : Int) : Option Bool :=
  cond (decide ((0 : Int) ≤ p0))
  (cond (decide (p0 ≤ p1))
  (some (decide (p1 < 4)))
  (some false))
  (some false)

def m_front_Of_j4 (y11_1 : Int) (y5_1 : Int) (k_m_front_Of_l1 : Int → Int → Option Int) : Option Int :=
  k_m_front_Of_l1 y5_1 (IntKind.i64.wrap (y11_1 + 1))
def m_front_Of_l1 (p1 : Int) (r9_0 : (List GChange)) : Nat → Int → Int → Option Int
  | 0, _, _ => none
  | fu_1 + 1, y5_1, y11_1 =>
    cond (decide (y11_1 < ((List.length r9_0 : Nat) : Int)))
    (Option.bind (geti r9_0 y11_1) fun x13_2 =>
    cond (decide ((0 : Int) < x13_2.N))
    (Option.bind (m_front_Leads x13_2.Loc p1) fun r22_3 =>
    cond r22_3
    (cond (decide (x13_2.Time < y5_1))
    (m_front_Of_l1 p1 r9_0 fu_1 x13_2.Time (IntKind.i64.wrap (y11_1 + 1)))
    (m_front_Of_l1 p1 r9_0 fu_1 y5_1 (IntKind.i64.wrap (y11_1 + 1))))
    (m_front_Of_j4 y11_1 y5_1 (fun y5_1 y11_1 => m_front_Of_l1 p1 r9_0 fu_1 y5_1 y11_1)))
    (m_front_Of_j4 y11_1 y5_1 (fun y5_1 y11_1 => m_front_Of_l1 p1 r9_0 fu_1 y5_1 y11_1)))
    (some (max y5_1 0))
def m_front_Of (p0 : (List GChange)) (p1 : Int) : Option Int :=
  Option.bind (m_tally_Normal p0) fun r9_0 =>
  m_front_Of_l1 p1 r9_0 1152921504606846976 1099511627777 0

def m_view_Net_Front (p0 : GNet) (p1 : Int) (p2 : Int) : Option Int :=
  Option.bind (m_view_Net_there p0 p1) fun r9_0 =>
  cond (!r9_0)
  (some 0)
  (Option.bind (geti p0.Views p1) fun x14_1 =>
  Option.bind (m_front_Of x14_1 p2) fun r17_1 =>
  some r17_1)

def m_view_Net_Truth_l3 (p0 : GNet) (p1 : Int) : Nat → (List GChange) → Int → Option (List GChange)
  | 0, _, _ => none
  | fu_3 + 1, y5_3, y17_3 =>
    cond (decide (y17_3 < ((List.length p0.Views : Nat) : Int)))
    (Option.bind (m_slices_Concat_Change (Option.getD (mlook (ml p0.Links) (GArr2_Int.mk y17_3 p1)) ([] : List (List GChange)))) fun r27_4 =>
    Option.bind (app y5_3 r27_4) fun a28_4 =>
    m_view_Net_Truth_l3 p0 p1 fu_3 a28_4 (IntKind.i64.wrap (y17_3 + 1)))
    (Option.bind (geti p0.Views p1) fun x33_5 =>
    Option.bind (m_tally_Merge x33_5 y5_3) fun r36_5 =>
    some r36_5)
def m_view_Net_Truth (p0 : GNet) (p1 : Int) : Option (List GChange) :=
  Option.bind (m_view_Net_there p0 p1) fun r9_0 =>
  cond (!r9_0)
  (some ([] : List GChange))
  (Option.bind (m_slices_Concat_Change p0.Pending) fun r13_1 =>
  m_view_Net_Truth_l3 p0 p1 1152921504606846976 r13_1 0)

def m_view_Net_Idle_1 (p0 : (List GChange)) : Option Bool :=
  some (decide ((0 : Int) < ((List.length p0 : Nat) : Int)))

def m_slices_IndexFunc_tally_Change_tally_Change__view_Net_Idle_1_l1 (p0 : (List (List GChange))) : Nat → Int → Option Int
  | 0, _ => none
  | fu_1 + 1, y8_1 =>
    cond (decide (y8_1 < ((List.length p0 : Nat) : Int)))
    (Option.bind (geti p0 y8_1) fun x14_2 =>
    Option.bind (m_view_Net_Idle_1 x14_2) fun r16_2 =>
    cond r16_2
    (some y8_1)
    (m_slices_IndexFunc_tally_Change_tally_Change__view_Net_Idle_1_l1 p0 fu_1 (IntKind.i64.wrap (y8_1 + 1))))
    (some (-1))
def m_slices_IndexFunc_tally_Change_tally_Change__view_Net_Idle_1 (p0 : (List (List GChange))) : Option Int :=
  m_slices_IndexFunc_tally_Change_tally_Change__view_Net_Idle_1_l1 p0 1152921504606846976 0

def m_slices_ContainsFunc_tally_Change_tally_Change__view_Net_Idle_1 (p0 : (List (List GChange))) : Option Bool :=
  Option.bind (m_slices_IndexFunc_tally_Change_tally_Change__view_Net_Idle_1 p0) fun r7_0 =>
  some (decide ((0 : Int) ≤ r7_0))

def m_view_Net_Idle (p0 : GNet) : Option Bool :=
  Option.bind (m_slices_ContainsFunc_tally_Change_tally_Change__view_Net_Idle_1 p0.Pending) fun r6_0 =>
  cond (!r6_0)
  (some (decide (((List.length (ml p0.Links) : Nat) : Int) = 0)))
  (some false)

def m_slices_Equal_Change_l2 (p0 : (List GChange)) (p1 : (List GChange)) : Nat → Int → Option Bool
  | 0, _ => none
  | fu_2 + 1, y13_2 =>
    cond (decide (y13_2 < ((List.length p0 : Nat) : Int)))
    (Option.bind (geti p0 y13_2) fun x18_3 =>
    Option.bind (geti p1 y13_2) fun x22_3 =>
    Option.bind (some ((!(decide (x18_3.Loc = x22_3.Loc) && (decide (x18_3.Time = x22_3.Time) && (decide (x18_3.N = x22_3.N) && true)))))) fun v24_3 =>
    cond v24_3
    (some false)
    (m_slices_Equal_Change_l2 p0 p1 fu_2 (IntKind.i64.wrap (y13_2 + 1))))
    (some true)
def m_slices_Equal_Change (p0 : (List GChange)) (p1 : (List GChange)) : Option Bool :=
  cond (decide (((List.length p0 : Nat) : Int) ≠ ((List.length p1 : Nat) : Int)))
  (some false)
  (m_slices_Equal_Change_l2 p0 p1 1152921504606846976 0)

def m_tally_Same (p0 : (List GChange)) (p1 : (List GChange)) : Option Bool :=
  Option.bind (m_slices_Equal_Change p0 p1) fun r7_0 =>
  some r7_0

def m_slices_EqualFunc_tally_Change_tally_Change_tally_Change_tally_Change__tally_Same_l2 (p0 : (List (List GChange))) (p1 : (List (List GChange))) : Nat → Int → Option Bool
  | 0, _ => none
  | fu_2 + 1, y17_2 =>
    cond (decide (y17_2 < ((List.length p0 : Nat) : Int)))
    (Option.bind (geti p0 y17_2) fun x20_3 =>
    Option.bind (geti p1 y17_2) fun x24_4 =>
    Option.bind (m_tally_Same x20_3 x24_4) fun r29_5 =>
    cond (!r29_5)
    (some false)
    (m_slices_EqualFunc_tally_Change_tally_Change_tally_Change_tally_Change__tally_Same_l2 p0 p1 fu_2 (IntKind.i64.wrap (y17_2 + 1))))
    (some true)
def m_slices_EqualFunc_tally_Change_tally_Change_tally_Change_tally_Change__tally_Same (p0 : (List (List GChange))) (p1 : (List (List GChange))) : Option Bool :=
  cond (decide (((List.length p0 : Nat) : Int) ≠ ((List.length p1 : Nat) : Int)))
  (some false)
  (m_slices_EqualFunc_tally_Change_tally_Change_tally_Change_tally_Change__tally_Same_l2 p0 p1 1152921504606846976 0)

def m_view_sameLists (p0 : (List (List GChange))) (p1 : (List (List GChange))) : Option Bool :=
  Option.bind (m_slices_EqualFunc_tally_Change_tally_Change_tally_Change_tally_Change__tally_Same p0 p1) fun r7_0 =>
  some r7_0

def m_maps_EqualFunc_map_2_int_tally_Change_map_2_int_tally_Change_2_int_tally_Change_tally_Change__view_sameLists (p0 : (Option (List (GArr2_Int × (List (List GChange)))))) (p1 : (Option (List (GArr2_Int × (List (List GChange)))))) : Option Bool :=
  meq m_view_sameLists (ml p0) (ml p1)

def m_view_Same (p0 : GNet) (p1 : GNet) : Option Bool :=
  cond (decide (p0.Cap = p1.Cap))
  (Option.bind (m_view_sameLists p0.Views p1.Views) fun r15_0 =>
  cond r15_0
  (Option.bind (m_view_sameLists p0.Pending p1.Pending) fun r22_0 =>
  cond r22_0
  (Option.bind (m_maps_EqualFunc_map_2_int_tally_Change_map_2_int_tally_Change_2_int_tally_Change_tally_Change__view_sameLists p0.Links p1.Links) fun r29_0 =>
  some r29_0)
  (some false))
  (some false))
  (some false)

def m_w29_awake : Option Bool :=
  Option.bind (m_view_New 2 1 ([(GChange.mk 0 3 2)] : List GChange)) fun r24_0 =>
  Option.bind (m_view_New 0 1 ([] : List GChange)) fun r28_1 =>
  Option.bind (m_view_Net_Note r24_0.1 0 ([(GChange.mk 0 3 (-2))] : List GChange)) fun r35_2 =>
  Option.bind (m_view_Net_Flush r35_2.1 0) fun r40_3 =>
  Option.bind (m_view_Net_Flush r40_3.1 0) fun r45_4 =>
  Option.bind (m_view_Net_Deliver r40_3.1 0 1) fun r50_5 =>
  Option.bind (m_view_Net_Deliver r50_5.1 0 1) fun r55_6 =>
  Option.bind (m_view_Net_Note r24_0.1 2 ([] : List GChange)) fun r60_7 =>
  Option.bind (m_view_Net_Note r40_3.1 0 ([(GChange.mk 0 0 1)] : List GChange)) fun r67_8 =>
  Option.bind (m_view_Net_Flush r67_8.1 0) fun r72_9 =>
  cond (decide (r24_0.2 = 0))
  (cond (decide (r28_1.2 = 2))
  (cond (decide (r35_2.2 = 0))
  (cond (decide (r40_3.2 = 0))
  (cond (decide (r45_4.2 = 16))
  (cond (decide (r50_5.2 = 0))
  (cond (decide (r55_6.2 = 16))
  (cond (decide (r60_7.2 = 6))
  (cond (decide (r72_9.2 = 7))
  (Option.bind (m_view_Net_Front r24_0.1 1 1) fun r111_10 =>
  cond (decide (r111_10 = 3))
  (Option.bind (m_view_Net_Front r50_5.1 1 1) fun r116_10 =>
  cond (decide (r116_10 = 1099511627777))
  (Option.bind (m_view_Net_Front r50_5.1 0 1) fun r121_10 =>
  cond (decide (r121_10 = 3))
  (Option.bind (m_view_Net_Waits r50_5.1 0 0) fun r126_10 =>
  cond (decide (r126_10 = 1))
  (cond (decide (((List.length (ml r50_5.1.Links) : Nat) : Int) = 1))
  (cond (decide (((List.length (ml r40_3.1.Links) : Nat) : Int) = 2))
  (Option.bind (m_view_Net_Truth r50_5.1 0) fun r143_10 =>
  cond (decide (((List.length r143_10 : Nat) : Int) = 0))
  (Option.bind (m_view_Net_Idle r24_0.1) fun r149_10 =>
  cond r149_10
  (Option.bind (m_view_Net_Idle r50_5.1) fun r153_10 =>
  cond (!r153_10)
  (Option.bind (m_view_Same r40_3.1 r40_3.1) fun r159_10 =>
  cond r159_10
  (Option.bind (m_view_Same r35_2.1 r40_3.1) fun r164_10 =>
  cond (!r164_10)
  (some true)
  (some false))
  (some false))
  (some false))
  (some false))
  (some false))
  (some false))
  (some false))
  (some false))
  (some false))
  (some false))
  (some false))
  (some false))
  (some false))
  (some false))
  (some false))
  (some false))
  (some false))
  (some false))
  (some false))
  (some false)

def m_token_Point_may (p0 : GPoint) : Option Bool :=
  Option.bind (m_front_Leads p0.Loc 3) fun r5_0 =>
  cond r5_0
  (cond (decide ((0 : Int) ≤ p0.Time))
  (some (decide (p0.Time ≤ 1099511627776)))
  (some false))
  (some false)

def m_slices_Clone_Leave (p0 : (List GLeave_)) : Option (List GLeave_) :=
  Option.bind (app ([] : List GLeave_) p0) fun a7_0 =>
  some a7_0

def m_token_Point_change (p0 : GPoint) (p1 : Int) : Option GChange :=
  some (GChange.mk p0.Loc p0.Time p1)

def m_token_Book_Hold (p0 : GBook) (p1 : GPoint) : Option (GBook × Int × (List GChange) × Int) :=
  Option.bind (m_token_Point_may p1) fun r11_0 =>
  cond (!r11_0)
  (some (p0, (-1), ([] : List GChange), 8))
  (cond (decide ((100 : Int) ≤ ((List.length p0.L : Nat) : Int)))
  (some (p0, (-1), ([] : List GChange), 7))
  (Option.bind (m_slices_Clone_Leave p0.L) fun r22_2 =>
  Option.bind (app r22_2 ([(GLeave_.mk p1 true)] : List GLeave_)) fun a26_2 =>
  Option.bind (m_token_Point_change p1 1) fun r33_3 =>
  some ((GBook.mk a26_2), ((List.length p0.L : Nat) : Int), ([r33_3] : List GChange), 0)))

def m_token_Book_May_1 (p0 : GLeave_) (p1 : Int) (p2 : Int) : Option Bool :=
  cond p0.Held
  (cond (decide (p0.Point.Loc = p1))
  (some (decide (p0.Point.Time ≤ p2)))
  (some false))
  (some false)

def m_slices_IndexFunc_Leave__token_Book_May_1_l1 (p0 : (List GLeave_)) (p1c0 : Int) (p1c1 : Int) : Nat → Int → Option Int
  | 0, _ => none
  | fu_1 + 1, y8_1 =>
    cond (decide (y8_1 < ((List.length p0 : Nat) : Int)))
    (Option.bind (geti p0 y8_1) fun x14_2 =>
    Option.bind (m_token_Book_May_1 x14_2 p1c0 p1c1) fun r16_2 =>
    cond r16_2
    (some y8_1)
    (m_slices_IndexFunc_Leave__token_Book_May_1_l1 p0 p1c0 p1c1 fu_1 (IntKind.i64.wrap (y8_1 + 1))))
    (some (-1))
def m_slices_IndexFunc_Leave__token_Book_May_1 (p0 : (List GLeave_)) (p1c0 : Int) (p1c1 : Int) : Option Int :=
  m_slices_IndexFunc_Leave__token_Book_May_1_l1 p0 p1c0 p1c1 1152921504606846976 0

def m_slices_ContainsFunc_Leave__token_Book_May_1 (p0 : (List GLeave_)) (p1c0 : Int) (p1c1 : Int) : Option Bool :=
  Option.bind (m_slices_IndexFunc_Leave__token_Book_May_1 p0 p1c0 p1c1) fun r7_0 =>
  some (decide ((0 : Int) ≤ r7_0))

def m_token_Book_May (p0 : GBook) (p1 : Int) (p2 : Int) : Option Bool :=
  Option.bind (m_slices_ContainsFunc_Leave__token_Book_May_1 p0.L p1 p2) fun r10_0 =>
  some r10_0

def m_token_Book_Get (p0 : GBook) (p1 : Int) : Option (GLeave_ × Bool) :=
  cond (decide (p1 < 0))
  (some ((GLeave_.mk (GPoint.mk 0 0) false), false))
  (cond (decide (((List.length p0.L : Nat) : Int) ≤ p1))
  (some ((GLeave_.mk (GPoint.mk 0 0) false), false))
  (Option.bind (geti p0.L p1) fun x19_1 =>
  some (x19_1, true)))

def m_token_Book_held (p0 : GBook) (p1 : Int) : Option (GLeave_ × Int) :=
  Option.bind (m_token_Book_Get p0 p1) fun r11_0 =>
  cond (!r11_0.2)
  (some ((GLeave_.mk (GPoint.mk 0 0) false), 6))
  (cond (!r11_0.1.Held)
  (some ((GLeave_.mk (GPoint.mk 0 0) false), 20))
  (some (r11_0.1, 0)))

def m_token_Book_with (p0 : GBook) (p1 : Int) (p2 : GLeave_) : Option GBook :=
  Option.bind (m_slices_Clone_Leave p0.L) fun r10_0 =>
  Option.bind (geti r10_0 p1) fun x14_1 =>
  some (GBook.mk (List.set r10_0 (Int.toNat p1) p2))

def m_token_Book_Lower (p0 : GBook) (p1 : Int) (p2 : Int) : Option (GBook × (List GChange) × Int) :=
  Option.bind (m_token_Book_held p0 p1) fun r15_0 =>
  cond (decide (r15_0.2 ≠ 0))
  (some (p0, ([] : List GChange), r15_0.2))
  (cond (decide ((1099511627776 : Int) < p2))
  (some (p0, ([] : List GChange), 8))
  (cond (decide (p2 < r15_0.1.Point.Time))
  (some (p0, ([] : List GChange), 8))
  (Option.bind (m_token_Point_change r15_0.1.Point (-1)) fun r34_2 =>
  Option.bind (m_token_Book_with p0 p1 (GLeave_.mk (GPoint.mk r15_0.1.Point.Loc p2) r15_0.1.Held)) fun r41_3 =>
  Option.bind (m_token_Point_change (GPoint.mk r15_0.1.Point.Loc p2) 1) fun r45_3 =>
  Option.bind (m_tally_Normal ([r34_2, r45_3] : List GChange)) fun r47_3 =>
  some (r41_3, r47_3, 0))))

def m_token_Book_Drop (p0 : GBook) (p1 : Int) : Option (GBook × (List GChange) × Int) :=
  Option.bind (m_token_Book_held p0 p1) fun r12_0 =>
  cond (decide (r12_0.2 ≠ 0))
  (some (p0, ([] : List GChange), r12_0.2))
  (Option.bind (m_token_Book_with p0 p1 (GLeave_.mk r12_0.1.Point false)) fun r23_1 =>
  Option.bind (m_token_Point_change r12_0.1.Point (-1)) fun r26_1 =>
  some (r23_1, ([r26_1] : List GChange), 0))

def m_w29_crew_least_l3 (p0 : GTcrew) : Nat → Int → Int → Option Int
  | 0, _, _ => none
  | fu_3 + 1, y3_3, y5_3 =>
    cond (decide (y5_3 < ((List.length p0.books : Nat) : Int)))
    (Option.bind (geti p0.books y5_3) fun x41_5 =>
    Option.bind (m_token_Book_Get x41_5 0) fun r43_5 =>
    cond r43_5.2
    (cond r43_5.1.Held
    (m_w29_crew_least_l3 p0 fu_3 (min y3_3 r43_5.1.Point.Time) (IntKind.i64.wrap (y5_3 + 1)))
    (m_w29_crew_least_l3 p0 fu_3 y3_3 (IntKind.i64.wrap (y5_3 + 1))))
    (m_w29_crew_least_l3 p0 fu_3 y3_3 (IntKind.i64.wrap (y5_3 + 1))))
    (some y3_3)
def m_w29_crew_least_l0 (p0 : GTcrew) : Nat → Int → Int → Option Int
  | 0, _, _ => none
  | fu_0 + 1, y3_0, y4_0 =>
    cond (decide (y4_0 < ((List.length p0.things : Nat) : Int)))
    (Option.bind (geti p0.things y4_0) fun x23_2 =>
    m_w29_crew_least_l0 p0 fu_0 (min y3_0 x23_2) (IntKind.i64.wrap (y4_0 + 1)))
    (m_w29_crew_least_l3 p0 1152921504606846976 y3_0 0)
def m_w29_crew_least (p0 : GTcrew) : Option Int :=
  m_w29_crew_least_l0 p0 1152921504606846976 1099511627777 0

def m_front_All_l0 (p0 : (List GChange)) : Nat → GArr4_Int → Int → Option GArr4_Int
  | 0, _, _ => none
  | fu_0 + 1, y3_d_0, y5_0 =>
    cond (decide (y5_0 < 4))
    (Option.bind (m_front_Of p0 y5_0) fun r11_1 =>
    cond (decide (y5_0 = 0))
    (m_front_All_l0 p0 fu_0 (GArr4_Int.mk r11_1 y3_d_0.a1 y3_d_0.a2 y3_d_0.a3) (IntKind.i64.wrap (y5_0 + 1)))
    (cond (decide (y5_0 = 1))
    (m_front_All_l0 p0 fu_0 (GArr4_Int.mk y3_d_0.a0 r11_1 y3_d_0.a2 y3_d_0.a3) (IntKind.i64.wrap (y5_0 + 1)))
    (cond (decide (y5_0 = 2))
    (m_front_All_l0 p0 fu_0 (GArr4_Int.mk y3_d_0.a0 y3_d_0.a1 r11_1 y3_d_0.a3) (IntKind.i64.wrap (y5_0 + 1)))
    (cond (decide (y5_0 = 3))
    (m_front_All_l0 p0 fu_0 (GArr4_Int.mk y3_d_0.a0 y3_d_0.a1 y3_d_0.a2 r11_1) (IntKind.i64.wrap (y5_0 + 1)))
    (none)))))
    (some y3_d_0)
def m_front_All (p0 : (List GChange)) : Option GArr4_Int :=
  m_front_All_l0 p0 1152921504606846976 (GArr4_Int.mk 0 0 0 0) 0

def m_front_Drops_l1 (r11_0 : GArr4_Int) (r9_0 : GArr4_Int) : Nat → Int → Option Bool
  | 0, _ => none
  | fu_1 + 1, y12_1 =>
    cond (decide (y12_1 < 4))
    (Option.bind (geti ([r11_0.a0, r11_0.a1, r11_0.a2, r11_0.a3] : List Int) y12_1) fun x16_2 =>
    Option.bind (geti ([r9_0.a0, r9_0.a1, r9_0.a2, r9_0.a3] : List Int) y12_1) fun x19_2 =>
    cond (decide (x16_2 < x19_2))
    (some true)
    (m_front_Drops_l1 r11_0 r9_0 fu_1 (IntKind.i64.wrap (y12_1 + 1))))
    (some false)
def m_front_Drops (p0 : (List GChange)) (p1 : (List GChange)) : Option Bool :=
  Option.bind (m_front_All p0) fun r9_0 =>
  Option.bind (m_front_All p1) fun r11_0 =>
  m_front_Drops_l1 r11_0 r9_0 1152921504606846976 0

def m_w29_crew_turn_2_j17 (p0 : GTcrew) (p1 : GTurn_) (y0_d_2_10 : List Int) (y1_14 : List GBook) (y0_d_0_17 : GNet) : Option (GTcrew × (List GBook)) :=
  cond (decide (((p1.Kind.toNat : Nat) : Int) = 5))
  (Option.bind (m_view_Net_Deliver y0_d_0_17 p1.A (Int.tmod p1.W ((List.length p0.books : Nat) : Int))) fun r188_18 =>
  some ((GTcrew.mk r188_18.1 y1_14 y0_d_2_10), y1_14))
  (some ((GTcrew.mk y0_d_0_17 y1_14 y0_d_2_10), y1_14))
def m_w29_crew_turn_2_j14 (p0 : GTcrew) (p1 : GTurn_) (y0_d_2_10 : List Int) (y1_14 : List GBook) (y5_14 : List GChange) : Option (GTcrew × (List GBook)) :=
  Option.bind (m_view_Net_Note p0.net (Int.tmod p1.W ((List.length p0.books : Nat) : Int)) y5_14) fun r156_15 =>
  cond (decide (((p1.Kind.toNat : Nat) : Int) = 4))
  (Option.bind (m_view_Net_Flush r156_15.1 (Int.tmod p1.W ((List.length p0.books : Nat) : Int))) fun r171_16 =>
  m_w29_crew_turn_2_j17 p0 p1 y0_d_2_10 y1_14 r171_16.1)
  (m_w29_crew_turn_2_j17 p0 p1 y0_d_2_10 y1_14 r156_15.1)
def m_w29_crew_turn_2_j12 (p0 : GTcrew) (p1 : GTurn_) (y0_d_2_10 : List Int) (y1_12 : List GBook) (y5_12 : List GChange) : Option (GTcrew × (List GBook)) :=
  cond (decide (((p1.Kind.toNat : Nat) : Int) = 3))
  (Option.bind (geti y1_12 (Int.tmod p1.W ((List.length p0.books : Nat) : Int))) fun x141_13 =>
  Option.bind (m_token_Book_Drop x141_13 0) fun r143_13 =>
  Option.bind (geti y1_12 (Int.tmod p1.W ((List.length p0.books : Nat) : Int))) fun x147_13 =>
  m_w29_crew_turn_2_j14 p0 p1 y0_d_2_10 (List.set y1_12 (Int.toNat (Int.tmod p1.W ((List.length p0.books : Nat) : Int))) r143_13.1) r143_13.2.1)
  (m_w29_crew_turn_2_j14 p0 p1 y0_d_2_10 y1_12 y5_12)
def m_w29_crew_turn_2_j10 (p0 : GTcrew) (p1 : GTurn_) (y0_d_2_10 : List Int) (y5_10 : List GChange) : Option (GTcrew × (List GBook)) :=
  cond (decide (((p1.Kind.toNat : Nat) : Int) = 2))
  (Option.bind (geti p0.books (Int.tmod p1.W ((List.length p0.books : Nat) : Int))) fun x118_11 =>
  Option.bind (m_token_Book_Lower x118_11 0 p1.A) fun r122_11 =>
  Option.bind (geti p0.books (Int.tmod p1.W ((List.length p0.books : Nat) : Int))) fun x126_11 =>
  m_w29_crew_turn_2_j12 p0 p1 y0_d_2_10 (List.set p0.books (Int.toNat (Int.tmod p1.W ((List.length p0.books : Nat) : Int))) r122_11.1) r122_11.2.1)
  (m_w29_crew_turn_2_j12 p0 p1 y0_d_2_10 p0.books y5_10)
def m_w29_crew_turn_2_j7 (p0 : GTcrew) (p1 : GTurn_) (y0_d_2_4 : List Int) (y6_7 : Int) : Option (GTcrew × (List GBook)) :=
  Option.bind (geti y0_d_2_4 y6_7) fun x81_8 =>
  Option.bind (cut y0_d_2_4 0 y6_7) fun s92_9 =>
  Option.bind (app ([] : List Int) s92_9) fun a93_9 =>
  Option.bind (cut y0_d_2_4 (IntKind.i64.wrap (y6_7 + 1)) ((List.length y0_d_2_4 : Nat) : Int)) fun s100_9 =>
  Option.bind (app a93_9 s100_9) fun a101_9 =>
  m_w29_crew_turn_2_j10 p0 p1 a101_9 ([(GChange.mk 1 x81_8 (-1))] : List GChange)
def m_w29_crew_turn_2_j4 (p0 : GTcrew) (p1 : GTurn_) (y0_d_2_4 : List Int) (y5_4 : List GChange) : Option (GTcrew × (List GBook)) :=
  cond (decide (((p1.Kind.toNat : Nat) : Int) = 1))
  (cond (decide ((0 : Int) < ((List.length y0_d_2_4 : Nat) : Int)))
  (chk (((List.length y0_d_2_4 : Nat) : Int) ≠ 0) (
  cond (decide ((Int.tmod p1.A ((List.length y0_d_2_4 : Nat) : Int)) < 0))
  (m_w29_crew_turn_2_j7 p0 p1 y0_d_2_4 0)
  (m_w29_crew_turn_2_j7 p0 p1 y0_d_2_4 (Int.tmod p1.A ((List.length y0_d_2_4 : Nat) : Int)))))
  (m_w29_crew_turn_2_j10 p0 p1 y0_d_2_4 y5_4))
  (m_w29_crew_turn_2_j10 p0 p1 y0_d_2_4 y5_4)
def m_w29_crew_turn_2_j2 (p0 : GTcrew) (p1 : GTurn_) : Option (GTcrew × (List GBook)) :=
  m_w29_crew_turn_2_j4 p0 p1 p0.things ([] : List GChange)
def m_w29_crew_turn_2 (p0 : GTcrew) (p1 : GTurn_) : Option (GTcrew × (List GBook)) :=
  chk (((List.length p0.books : Nat) : Int) ≠ 0) (
  cond (decide (((p1.Kind.toNat : Nat) : Int) = 0))
  (cond (decide ((0 : Int) ≤ p1.A))
  (cond (decide (p1.A ≤ 1099511627776))
  (Option.bind (geti p0.books (Int.tmod p1.W ((List.length p0.books : Nat) : Int))) fun x34_1 =>
  Option.bind (m_token_Book_May x34_1 0 p1.A) fun r38_1 =>
  cond r38_1
  (Option.bind (app p0.things ([p1.A] : List Int)) fun a48_3 =>
  m_w29_crew_turn_2_j4 p0 p1 a48_3 ([(GChange.mk 1 p1.A 1)] : List GChange))
  (m_w29_crew_turn_2_j4 p0 p1 p0.things ([] : List GChange)))
  (m_w29_crew_turn_2_j2 p0 p1))
  (m_w29_crew_turn_2_j2 p0 p1))
  (m_w29_crew_turn_2_j2 p0 p1))

def m_w29_ViewSafe_j1 : Option Bool :=
  Option.bind m_w29_awake fun r42_2 =>
  some r42_2
def m_w29_ViewSafe_j20 : Option Bool :=
  some false
def m_w29_ViewSafe_l16 (r112_13 : (GTcrew × (List GBook))) (r114_14 : Int) (y14_9 : Int) (y5_d_0_1_9 : List (List GChange)) (k_m_w29_ViewSafe_l9 : Int → (List (List GChange)) → (List (List GChange)) → (Option (List (GArr2_Int × (List (List GChange))))) → (List GBook) → (List Int) → Int → Option Bool) : Nat → Int → Option Bool
  | 0, _ => none
  | fu_16 + 1, y17_16 =>
    cond (decide (y17_16 < ((List.length y5_d_0_1_9 : Nat) : Int)))
    (Option.bind (m_view_Net_Front r112_13.1.net y17_16 1) fun r135_18 =>
    cond (decide (r114_14 < r135_18))
    (m_w29_ViewSafe_j20 )
    (Option.bind (geti y5_d_0_1_9 y17_16) fun x142_19 =>
    Option.bind (geti r112_13.1.net.Views y17_16) fun x150_19 =>
    Option.bind (m_front_Drops x142_19 x150_19) fun r152_19 =>
    cond r152_19
    (m_w29_ViewSafe_j20 )
    (Option.bind (m_view_Net_Idle r112_13.1.net) fun r159_19 =>
    cond r159_19
    (cond (decide (r135_18 ≠ r114_14))
    (some false)
    (m_w29_ViewSafe_l16 r112_13 r114_14 y14_9 y5_d_0_1_9 k_m_w29_ViewSafe_l9 fu_16 (IntKind.i64.wrap (y17_16 + 1))))
    (m_w29_ViewSafe_l16 r112_13 r114_14 y14_9 y5_d_0_1_9 k_m_w29_ViewSafe_l9 fu_16 (IntKind.i64.wrap (y17_16 + 1))))))
    (k_m_w29_ViewSafe_l9 r112_13.1.net.Cap r112_13.1.net.Views r112_13.1.net.Pending r112_13.1.net.Links r112_13.2 r112_13.1.things (IntKind.i64.wrap (y14_9 + 1)))
def m_w29_ViewSafe_l9 (p1 : (List GTurn_)) : Nat → Int → (List (List GChange)) → (List (List GChange)) → (Option (List (GArr2_Int × (List (List GChange))))) → (List GBook) → (List Int) → Int → Option Bool
  | 0, _, _, _, _, _, _, _ => none
  | fu_9 + 1, y5_d_0_0_9, y5_d_0_1_9, y5_d_0_2_9, y5_d_0_3_9, y5_d_1_9, y5_d_2_9, y14_9 =>
    cond (decide (y14_9 < ((List.length p1 : Nat) : Int)))
    (Option.bind (geti p1 y14_9) fun x97_11 =>
    cond (decide (x97_11.W < 0))
    (Option.bind m_w29_awake fun r101_12 =>
    some r101_12)
    (Option.bind (geti p1 y14_9) fun x110_13 =>
    Option.bind (m_w29_crew_turn_2 (GTcrew.mk (GNet.mk y5_d_0_0_9 y5_d_0_1_9 y5_d_0_2_9 y5_d_0_3_9) y5_d_1_9 y5_d_2_9) x110_13) fun r112_13 =>
    Option.bind (m_w29_crew_least (GTcrew.mk r112_13.1.net r112_13.2 r112_13.1.things)) fun r114_14 =>
    cond (decide (((List.length r112_13.1.net.Views : Nat) : Int) ≠ ((List.length y5_d_0_1_9 : Nat) : Int)))
    (some false)
    (m_w29_ViewSafe_l16 r112_13 r114_14 y14_9 y5_d_0_1_9 (fun y5_d_0_0_9 y5_d_0_1_9 y5_d_0_2_9 y5_d_0_3_9 y5_d_1_9 y5_d_2_9 y14_9 => m_w29_ViewSafe_l9 p1 fu_9 y5_d_0_0_9 y5_d_0_1_9 y5_d_0_2_9 y5_d_0_3_9 y5_d_1_9 y5_d_2_9 y14_9) 1152921504606846976 0)))
    (Option.bind m_w29_awake fun r166_21 =>
    some r166_21)
def m_w29_ViewSafe_l4 (p0 : GArr2_Int) (p1 : (List GTurn_)) : Nat → (List GBook) → (List GChange) → Int → Option Bool
  | 0, _, _, _ => none
  | fu_4 + 1, y5_d_1_4, y6_4, y7_4 =>
    cond (decide (y7_4 < p0.a0))
    (Option.bind (m_token_Book_Hold (GBook.mk ([] : List GLeave_)) (GPoint.mk 0 0)) fun r54_5 =>
    cond (decide (r54_5.2.2.2 ≠ 0))
    (some false)
    (Option.bind (app y5_d_1_4 ([r54_5.1] : List GBook)) fun a68_6 =>
    Option.bind (app y6_4 r54_5.2.2.1) fun a73_7 =>
    m_w29_ViewSafe_l4 p0 p1 fu_4 a68_6 a73_7 (IntKind.i64.wrap (y7_4 + 1))))
    (Option.bind (m_view_New p0.a0 p0.a1 y6_4) fun r80_8 =>
    cond (decide (r80_8.2 ≠ 0))
    (some false)
    (m_w29_ViewSafe_l9 p1 1152921504606846976 r80_8.1.Cap r80_8.1.Views r80_8.1.Pending r80_8.1.Links y5_d_1_4 ([] : List Int) 0))
def m_w29_ViewSafe (p0 : GArr2_Int) (p1 : (List GTurn_)) : Option Bool :=
  cond (decide (p0.a0 < 1))
  (m_w29_ViewSafe_j1 )
  (cond (decide ((4 : Int) < p0.a0))
  (m_w29_ViewSafe_j1 )
  (cond (decide (p0.a1 < 1))
  (m_w29_ViewSafe_j1 )
  (cond (decide ((8 : Int) < p0.a1))
  (m_w29_ViewSafe_j1 )
  (cond (decide ((60 : Int) < ((List.length p1 : Nat) : Int)))
  (Option.bind m_w29_awake fun r42_3 =>
  some r42_3)
  (m_w29_ViewSafe_l4 p0 p1 1152921504606846976 ([] : List GBook) ([] : List GChange) 0)))))
end Go.Proofs.Ytcpageegmpjkiaa.K
