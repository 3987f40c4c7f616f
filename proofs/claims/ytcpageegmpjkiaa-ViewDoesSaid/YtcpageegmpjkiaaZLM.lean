/- models of the program's functions -/
import Derived.Test.YtcpageegmpjkiaaZAn
set_option linter.unusedVariables false
set_option linter.unusedSimpArgs false
namespace Go.Proofs.Ytcpageegmpjkiaa.K
open Go.RowKit Go.Lib

def m_w26_Over_l1 (p0 : (List GChange)) : Nat → Int → Option Int
  | 0, _ => none
  | fu_1 + 1, y3_1 =>
    cond (decide (y3_1 < ((List.length p0 : Nat) : Int)))
    (Option.bind (geti p0 y3_1) fun x15_3 =>
    cond (decide (x15_3.N < (-1099511627776)))
    (some 1)
    (Option.bind (geti p0 y3_1) fun x22_3 =>
    cond (decide ((1099511627776 : Int) < x22_3.N))
    (some 1)
    (m_w26_Over_l1 p0 fu_1 (IntKind.i64.wrap (y3_1 + 1)))))
    (some 0)
def m_w26_Over (p0 : (List GChange)) : Option Int :=
  cond (decide ((40 : Int) < ((List.length p0 : Nat) : Int)))
  (some 1)
  (m_w26_Over_l1 p0 1152921504606846976 0)

def m_cmp_isNaN_int (p0 : Int) : Option Bool :=
  some (decide (p0 ≠ p0))

def m_cmp_Compare_int (p0 : Int) (p1 : Int) : Option Int :=
  Option.bind (m_cmp_isNaN_int p0) fun r8_0 =>
  Option.bind (m_cmp_isNaN_int p1) fun r10_1 =>
  cond r8_0
  (cond r10_1
  (some 0)
  (some (-1)))
  (cond r10_1
  (some 1)
  (cond (decide (p0 < p1))
  (some (-1))
  (cond (decide (p1 < p0))
  (some 1)
  (some 0))))

def m_cmp_Or_int_l1 (p0 : (List Int)) : Nat → Int → Option Int
  | 0, _ => none
  | fu_1 + 1, y8_1 =>
    cond (decide (y8_1 < ((List.length p0 : Nat) : Int)))
    (Option.bind (geti p0 y8_1) fun x10_2 =>
    cond (decide (x10_2 ≠ 0))
    (some x10_2)
    (m_cmp_Or_int_l1 p0 fu_1 (IntKind.i64.wrap (y8_1 + 1))))
    (some 0)
def m_cmp_Or_int (p0 : (List Int)) : Option Int :=
  m_cmp_Or_int_l1 p0 1152921504606846976 0

def m_tally_order (p0 : GChange) (p1 : GChange) : Option Int :=
  Option.bind (m_cmp_Compare_int p0.Loc p1.Loc) fun r9_0 =>
  Option.bind (m_cmp_Compare_int p0.Time p1.Time) fun r14_0 =>
  Option.bind (m_cmp_Or_int ([r9_0, r14_0] : List Int)) fun r16_0 =>
  some r16_0

def m_slices_insertionSortCmpFunc_tally_Change__tally_order_l1 (p1 : Int) (y8_0 : Int) (k_m_slices_insertionSortCmpFunc_tally_Change__tally_order_l0 : (List GChange) → Int → Option (List GChange)) : Nat → (List GChange) → Int → Option (List GChange)
  | 0, _, _ => none
  | fu_1 + 1, y0_1, y9_1 =>
    cond (decide (p1 < y9_1))
    (Option.bind (geti y0_1 y9_1) fun x25_2 =>
    Option.bind (geti y0_1 (IntKind.i64.wrap (y9_1 - 1))) fun x30_2 =>
    Option.bind (m_tally_order x25_2 x30_2) fun r32_2 =>
    cond (decide (r32_2 < 0))
    (Option.bind (geti y0_1 (IntKind.i64.wrap (y9_1 - 1))) fun x45_3 =>
    Option.bind (geti y0_1 y9_1) fun x49_3 =>
    Option.bind (geti y0_1 y9_1) fun x51_3 =>
    Option.bind (geti (List.set y0_1 (Int.toNat y9_1) x45_3) (IntKind.i64.wrap (y9_1 - 1))) fun x52_3 =>
    m_slices_insertionSortCmpFunc_tally_Change__tally_order_l1 p1 y8_0 k_m_slices_insertionSortCmpFunc_tally_Change__tally_order_l0 fu_1 (List.set (List.set y0_1 (Int.toNat y9_1) x45_3) (Int.toNat (IntKind.i64.wrap (y9_1 - 1))) x49_3) (IntKind.i64.wrap (y9_1 - 1)))
    (k_m_slices_insertionSortCmpFunc_tally_Change__tally_order_l0 y0_1 (IntKind.i64.wrap (y8_0 + 1))))
    (k_m_slices_insertionSortCmpFunc_tally_Change__tally_order_l0 y0_1 (IntKind.i64.wrap (y8_0 + 1)))
def m_slices_insertionSortCmpFunc_tally_Change__tally_order_l0 (p1 : Int) (p2 : Int) : Nat → (List GChange) → Int → Option (List GChange)
  | 0, _, _ => none
  | fu_0 + 1, y0_0, y8_0 =>
    cond (decide (y8_0 < p2))
    (m_slices_insertionSortCmpFunc_tally_Change__tally_order_l1 p1 y8_0 (fun y0_0 y8_0 => m_slices_insertionSortCmpFunc_tally_Change__tally_order_l0 p1 p2 fu_0 y0_0 y8_0) 1152921504606846976 y0_0 y8_0)
    (some y0_0)
def m_slices_insertionSortCmpFunc_tally_Change__tally_order (p0 : (List GChange)) (p1 : Int) (p2 : Int) : Option (List GChange) :=
  m_slices_insertionSortCmpFunc_tally_Change__tally_order_l0 p1 p2 1152921504606846976 p0 (IntKind.i64.wrap (p1 + 1))

def m_slices_swapRangeCmpFunc_tally_Change__tally_order_l0 (p1 : Int) (p2 : Int) (p3 : Int) : Nat → (List GChange) → Int → Option (List GChange)
  | 0, _, _ => none
  | fu_0 + 1, y0_0, y10_0 =>
    cond (decide (y10_0 < p3))
    (Option.bind (geti y0_0 (IntKind.i64.wrap (p2 + y10_0))) fun x28_1 =>
    Option.bind (geti y0_0 (IntKind.i64.wrap (p1 + y10_0))) fun x34_1 =>
    Option.bind (geti y0_0 (IntKind.i64.wrap (p1 + y10_0))) fun x36_1 =>
    Option.bind (geti (List.set y0_0 (Int.toNat (IntKind.i64.wrap (p1 + y10_0))) x28_1) (IntKind.i64.wrap (p2 + y10_0))) fun x37_1 =>
    m_slices_swapRangeCmpFunc_tally_Change__tally_order_l0 p1 p2 p3 fu_0 (List.set (List.set y0_0 (Int.toNat (IntKind.i64.wrap (p1 + y10_0))) x28_1) (Int.toNat (IntKind.i64.wrap (p2 + y10_0))) x34_1) (IntKind.i64.wrap (y10_0 + 1)))
    (some y0_0)
def m_slices_swapRangeCmpFunc_tally_Change__tally_order (p0 : (List GChange)) (p1 : Int) (p2 : Int) (p3 : Int) : Option (List GChange) :=
  m_slices_swapRangeCmpFunc_tally_Change__tally_order_l0 p1 p2 p3 1152921504606846976 p0 0

def m_slices_rotateCmpFunc_tally_Change__tally_order_l0 (p2 : Int) : Nat → (List GChange) → Int → Int → Option (List GChange)
  | 0, _, _, _ => none
  | fu_0 + 1, y0_0, y10_0, y11_0 =>
    cond (decide (y10_0 ≠ y11_0))
    (cond (decide (y11_0 < y10_0))
    (Option.bind (m_slices_swapRangeCmpFunc_tally_Change__tally_order y0_0 (IntKind.i64.wrap (p2 - y10_0)) p2 y11_0) fun r31_1 =>
    m_slices_rotateCmpFunc_tally_Change__tally_order_l0 p2 fu_0 r31_1 (IntKind.i64.wrap (y10_0 - y11_0)) y11_0)
    (Option.bind (m_slices_swapRangeCmpFunc_tally_Change__tally_order y0_0 (IntKind.i64.wrap (p2 - y10_0)) (IntKind.i64.wrap ((IntKind.i64.wrap (p2 + y11_0)) - y10_0)) y10_0) fun r46_2 =>
    m_slices_rotateCmpFunc_tally_Change__tally_order_l0 p2 fu_0 r46_2 y10_0 (IntKind.i64.wrap (y11_0 - y10_0))))
    (Option.bind (m_slices_swapRangeCmpFunc_tally_Change__tally_order y0_0 (IntKind.i64.wrap (p2 - y10_0)) p2 y10_0) fun r57_3 =>
    some r57_3)
def m_slices_rotateCmpFunc_tally_Change__tally_order (p0 : (List GChange)) (p1 : Int) (p2 : Int) (p3 : Int) : Option (List GChange) :=
  m_slices_rotateCmpFunc_tally_Change__tally_order_l0 p2 1152921504606846976 p0 (IntKind.i64.wrap (p2 - p1)) (IntKind.i64.wrap (p3 - p2))

def m_slices_symMergeCmpFunc_tally_Change__tally_order_l4 (y10_0 : Int) : Nat → (List GChange) → Int → Option (List GChange)
  | 0, _, _ => none
  | fu_4 + 1, y0_4, y13_4 =>
    cond (decide (y13_4 < (IntKind.i64.wrap (y10_0 - 1))))
    (Option.bind (geti y0_4 (IntKind.i64.wrap (y13_4 + 1))) fun x69_5 =>
    Option.bind (geti y0_4 y13_4) fun x73_5 =>
    Option.bind (geti y0_4 y13_4) fun x75_5 =>
    Option.bind (geti (List.set y0_4 (Int.toNat y13_4) x69_5) (IntKind.i64.wrap (y13_4 + 1))) fun x76_5 =>
    m_slices_symMergeCmpFunc_tally_Change__tally_order_l4 y10_0 fu_4 (List.set (List.set y0_4 (Int.toNat y13_4) x69_5) (Int.toNat (IntKind.i64.wrap (y13_4 + 1))) x73_5) (IntKind.i64.wrap (y13_4 + 1)))
    (some y0_4)
def m_slices_symMergeCmpFunc_tally_Change__tally_order_l0 (p0 : (List GChange)) (p1 : Int) : Nat → Int → Int → Option (List GChange)
  | 0, _, _ => none
  | fu_0 + 1, y10_0, y11_0 =>
    cond (decide (y10_0 < y11_0))
    (Option.bind (geti p0 (IntKind.i64.wrap (Int.fdiv (IntKind.u64.wrap (IntKind.i64.wrap (y10_0 + y11_0))) (2 ^ 1)))) fun x43_2 =>
    Option.bind (geti p0 p1) fun x47_2 =>
    Option.bind (m_tally_order x43_2 x47_2) fun r49_2 =>
    cond (decide (r49_2 < 0))
    (Option.bind (some ((IntKind.i64.wrap ((IntKind.i64.wrap (Int.fdiv (IntKind.u64.wrap (IntKind.i64.wrap (y10_0 + y11_0))) (2 ^ 1))) + 1)))) fun v52_3 =>
    m_slices_symMergeCmpFunc_tally_Change__tally_order_l0 p0 p1 fu_0 v52_3 y11_0)
    (m_slices_symMergeCmpFunc_tally_Change__tally_order_l0 p0 p1 fu_0 y10_0 (IntKind.i64.wrap (Int.fdiv (IntKind.u64.wrap (IntKind.i64.wrap (y10_0 + y11_0))) (2 ^ 1)))))
    (m_slices_symMergeCmpFunc_tally_Change__tally_order_l4 y10_0 1152921504606846976 p0 p1)
def m_slices_symMergeCmpFunc_tally_Change__tally_order_l10 (y14_6 : Int) : Nat → (List GChange) → Int → Option (List GChange)
  | 0, _, _ => none
  | fu_10 + 1, y0_10, y17_10 =>
    cond (decide (y14_6 < y17_10))
    (Option.bind (geti y0_10 (IntKind.i64.wrap (y17_10 - 1))) fun x121_11 =>
    Option.bind (geti y0_10 y17_10) fun x125_11 =>
    Option.bind (geti y0_10 y17_10) fun x127_11 =>
    Option.bind (geti (List.set y0_10 (Int.toNat y17_10) x121_11) (IntKind.i64.wrap (y17_10 - 1))) fun x128_11 =>
    m_slices_symMergeCmpFunc_tally_Change__tally_order_l10 y14_6 fu_10 (List.set (List.set y0_10 (Int.toNat y17_10) x121_11) (Int.toNat (IntKind.i64.wrap (y17_10 - 1))) x125_11) (IntKind.i64.wrap (y17_10 - 1)))
    (some y0_10)
def m_slices_symMergeCmpFunc_tally_Change__tally_order_l6 (p0 : (List GChange)) (p2 : Int) : Nat → Int → Int → Option (List GChange)
  | 0, _, _ => none
  | fu_6 + 1, y14_6, y15_6 =>
    cond (decide (y14_6 < y15_6))
    (Option.bind (geti p0 p2) fun x95_8 =>
    Option.bind (geti p0 (IntKind.i64.wrap (Int.fdiv (IntKind.u64.wrap (IntKind.i64.wrap (y14_6 + y15_6))) (2 ^ 1)))) fun x99_8 =>
    Option.bind (m_tally_order x95_8 x99_8) fun r101_8 =>
    cond (!decide (r101_8 < 0))
    (Option.bind (some ((IntKind.i64.wrap ((IntKind.i64.wrap (Int.fdiv (IntKind.u64.wrap (IntKind.i64.wrap (y14_6 + y15_6))) (2 ^ 1))) + 1)))) fun v105_9 =>
    m_slices_symMergeCmpFunc_tally_Change__tally_order_l6 p0 p2 fu_6 v105_9 y15_6)
    (m_slices_symMergeCmpFunc_tally_Change__tally_order_l6 p0 p2 fu_6 y14_6 (IntKind.i64.wrap (Int.fdiv (IntKind.u64.wrap (IntKind.i64.wrap (y14_6 + y15_6))) (2 ^ 1)))))
    (m_slices_symMergeCmpFunc_tally_Change__tally_order_l10 y14_6 1152921504606846976 p0 p2)
def m_slices_symMergeCmpFunc_tally_Change__tally_order_j24 (p1 : Int) (p3 : Int) (v137_13 : Int) (y20_15 : Int) (k_rec : (List GChange) → Int → Int → Int → Option (List GChange)) (y0_24 : List GChange) : Option (List GChange) :=
  Option.bind (some (decide ((IntKind.i64.wrap (Int.fdiv (IntKind.u64.wrap (IntKind.i64.wrap (p1 + p3))) (2 ^ 1))) < (IntKind.i64.wrap (v137_13 - y20_15))))) fun v208_25 =>
  cond v208_25
  (cond (decide ((IntKind.i64.wrap (v137_13 - y20_15)) < p3))
  (Option.bind (k_rec y0_24 (IntKind.i64.wrap (Int.fdiv (IntKind.u64.wrap (IntKind.i64.wrap (p1 + p3))) (2 ^ 1))) (IntKind.i64.wrap (v137_13 - y20_15)) p3) fun r219_26 =>
  some r219_26)
  (some y0_24))
  (some y0_24)
def m_slices_symMergeCmpFunc_tally_Change__tally_order_j21 (p1 : Int) (p3 : Int) (v137_13 : Int) (y20_15 : Int) (k_rec : (List GChange) → Int → Int → Int → Option (List GChange)) (y0_21 : List GChange) : Option (List GChange) :=
  cond (decide (p1 < y20_15))
  (cond (decide (y20_15 < (IntKind.i64.wrap (Int.fdiv (IntKind.u64.wrap (IntKind.i64.wrap (p1 + p3))) (2 ^ 1)))))
  (Option.bind (k_rec y0_21 p1 y20_15 (IntKind.i64.wrap (Int.fdiv (IntKind.u64.wrap (IntKind.i64.wrap (p1 + p3))) (2 ^ 1)))) fun r205_23 =>
  m_slices_symMergeCmpFunc_tally_Change__tally_order_j24 p1 p3 v137_13 y20_15 k_rec r205_23)
  (m_slices_symMergeCmpFunc_tally_Change__tally_order_j24 p1 p3 v137_13 y20_15 k_rec y0_21))
  (m_slices_symMergeCmpFunc_tally_Change__tally_order_j24 p1 p3 v137_13 y20_15 k_rec y0_21)
def m_slices_symMergeCmpFunc_tally_Change__tally_order_l15 (p0 : (List GChange)) (p1 : Int) (p2 : Int) (p3 : Int) (v137_13 : Int) (k_rec : (List GChange) → Int → Int → Int → Option (List GChange)) : Nat → Int → Int → Option (List GChange)
  | 0, _, _ => none
  | fu_15 + 1, y20_15, y21_15 =>
    cond (decide (y20_15 < y21_15))
    (Option.bind (some ((IntKind.i64.wrap ((IntKind.i64.wrap (v137_13 - 1)) - (IntKind.i64.wrap (Int.fdiv (IntKind.u64.wrap (IntKind.i64.wrap (y20_15 + y21_15))) (2 ^ 1))))))) fun v162_17 =>
    Option.bind (geti p0 v162_17) fun x163_17 =>
    Option.bind (geti p0 (IntKind.i64.wrap (Int.fdiv (IntKind.u64.wrap (IntKind.i64.wrap (y20_15 + y21_15))) (2 ^ 1)))) fun x167_17 =>
    Option.bind (m_tally_order x163_17 x167_17) fun r169_17 =>
    cond (!decide (r169_17 < 0))
    (Option.bind (some ((IntKind.i64.wrap ((IntKind.i64.wrap (Int.fdiv (IntKind.u64.wrap (IntKind.i64.wrap (y20_15 + y21_15))) (2 ^ 1))) + 1)))) fun v173_18 =>
    m_slices_symMergeCmpFunc_tally_Change__tally_order_l15 p0 p1 p2 p3 v137_13 k_rec fu_15 v173_18 y21_15)
    (m_slices_symMergeCmpFunc_tally_Change__tally_order_l15 p0 p1 p2 p3 v137_13 k_rec fu_15 y20_15 (IntKind.i64.wrap (Int.fdiv (IntKind.u64.wrap (IntKind.i64.wrap (y20_15 + y21_15))) (2 ^ 1)))))
    (cond (decide (y20_15 < p2))
    (cond (decide (p2 < (IntKind.i64.wrap (v137_13 - y20_15))))
    (Option.bind (m_slices_rotateCmpFunc_tally_Change__tally_order p0 y20_15 p2 (IntKind.i64.wrap (v137_13 - y20_15))) fun r191_20 =>
    m_slices_symMergeCmpFunc_tally_Change__tally_order_j21 p1 p3 v137_13 y20_15 k_rec r191_20)
    (m_slices_symMergeCmpFunc_tally_Change__tally_order_j21 p1 p3 v137_13 y20_15 k_rec p0))
    (m_slices_symMergeCmpFunc_tally_Change__tally_order_j21 p1 p3 v137_13 y20_15 k_rec p0))
def m_slices_symMergeCmpFunc_tally_Change__tally_order_j14 (p0 : (List GChange)) (p1 : Int) (p2 : Int) (p3 : Int) (v137_13 : Int) (k_rec : (List GChange) → Int → Int → Int → Option (List GChange)) (y20_14 : Int) (y21_14 : Int) : Option (List GChange) :=
  m_slices_symMergeCmpFunc_tally_Change__tally_order_l15 p0 p1 p2 p3 v137_13 k_rec 1152921504606846976 y20_14 y21_14
def m_slices_symMergeCmpFunc_tally_Change__tally_order : Nat → (List GChange) → Int → Int → Int → Option (List GChange)
  | 0, _, _, _, _ => none
  | fuR + 1, p0, p1, p2, p3 =>
    cond (decide ((IntKind.i64.wrap (p2 - p1)) = 1))
    (m_slices_symMergeCmpFunc_tally_Change__tally_order_l0 p0 p1 1152921504606846976 p2 p3)
    (cond (decide ((IntKind.i64.wrap (p3 - p2)) = 1))
    (m_slices_symMergeCmpFunc_tally_Change__tally_order_l6 p0 p2 1152921504606846976 p1 p2)
    (Option.bind (some ((IntKind.i64.wrap ((IntKind.i64.wrap (Int.fdiv (IntKind.u64.wrap (IntKind.i64.wrap (p1 + p3))) (2 ^ 1))) + p2)))) fun v137_13 =>
    cond (decide ((IntKind.i64.wrap (Int.fdiv (IntKind.u64.wrap (IntKind.i64.wrap (p1 + p3))) (2 ^ 1))) < p2))
    (m_slices_symMergeCmpFunc_tally_Change__tally_order_j14 p0 p1 p2 p3 v137_13 (fun p0 p1 p2 p3 => m_slices_symMergeCmpFunc_tally_Change__tally_order fuR p0 p1 p2 p3) (IntKind.i64.wrap (v137_13 - p3)) (IntKind.i64.wrap (Int.fdiv (IntKind.u64.wrap (IntKind.i64.wrap (p1 + p3))) (2 ^ 1))))
    (m_slices_symMergeCmpFunc_tally_Change__tally_order_j14 p0 p1 p2 p3 v137_13 (fun p0 p1 p2 p3 => m_slices_symMergeCmpFunc_tally_Change__tally_order fuR p0 p1 p2 p3) p1 p2)))

def m_slices_stableCmpFunc_tally_Change__tally_order_l4 (p1 : Int) (y6_3 : Int) (k_m_slices_stableCmpFunc_tally_Change__tally_order_l3 : (List GChange) → Int → Option (List GChange)) : Nat → (List GChange) → Int → Int → Option (List GChange)
  | 0, _, _, _ => none
  | fu_4 + 1, y0_4, y7_4, y8_4 =>
    cond (decide (y8_4 ≤ p1))
    (Option.bind (m_slices_symMergeCmpFunc_tally_Change__tally_order 1152921504606846976 y0_4 y7_4 (IntKind.i64.wrap (y7_4 + y6_3)) y8_4) fun r43_5 =>
    m_slices_stableCmpFunc_tally_Change__tally_order_l4 p1 y6_3 k_m_slices_stableCmpFunc_tally_Change__tally_order_l3 fu_4 r43_5 y8_4 (IntKind.i64.wrap (y8_4 + (IntKind.i64.wrap (2 * y6_3)))))
    (cond (decide ((IntKind.i64.wrap (y7_4 + y6_3)) < p1))
    (Option.bind (m_slices_symMergeCmpFunc_tally_Change__tally_order 1152921504606846976 y0_4 y7_4 (IntKind.i64.wrap (y7_4 + y6_3)) p1) fun r60_6 =>
    k_m_slices_stableCmpFunc_tally_Change__tally_order_l3 r60_6 (IntKind.i64.wrap (y6_3 * 2)))
    (k_m_slices_stableCmpFunc_tally_Change__tally_order_l3 y0_4 (IntKind.i64.wrap (y6_3 * 2))))
def m_slices_stableCmpFunc_tally_Change__tally_order_l3 (p1 : Int) : Nat → (List GChange) → Int → Option (List GChange)
  | 0, _, _ => none
  | fu_3 + 1, y0_3, y6_3 =>
    cond (decide (y6_3 < p1))
    (m_slices_stableCmpFunc_tally_Change__tally_order_l4 p1 y6_3 (fun y0_3 y6_3 => m_slices_stableCmpFunc_tally_Change__tally_order_l3 p1 fu_3 y0_3 y6_3) 1152921504606846976 y0_3 0 (IntKind.i64.wrap (2 * y6_3)))
    (some y0_3)
def m_slices_stableCmpFunc_tally_Change__tally_order_l0 (p1 : Int) : Nat → (List GChange) → Int → Int → Option (List GChange)
  | 0, _, _, _ => none
  | fu_0 + 1, y0_0, y7_0, y8_0 =>
    cond (decide (y8_0 ≤ p1))
    (Option.bind (m_slices_insertionSortCmpFunc_tally_Change__tally_order y0_0 y7_0 y8_0) fun r18_1 =>
    m_slices_stableCmpFunc_tally_Change__tally_order_l0 p1 fu_0 r18_1 y8_0 (IntKind.i64.wrap (y8_0 + 20)))
    (Option.bind (m_slices_insertionSortCmpFunc_tally_Change__tally_order y0_0 y7_0 p1) fun r27_2 =>
    m_slices_stableCmpFunc_tally_Change__tally_order_l3 p1 1152921504606846976 r27_2 20)
def m_slices_stableCmpFunc_tally_Change__tally_order (p0 : (List GChange)) (p1 : Int) : Option (List GChange) :=
  m_slices_stableCmpFunc_tally_Change__tally_order_l0 p1 1152921504606846976 p0 0 20

def m_slices_SortStableFunc_Change__tally_order (p0 : (List GChange)) : Option (List GChange) :=
  Option.bind (m_slices_stableCmpFunc_tally_Change__tally_order p0 ((List.length p0 : Nat) : Int)) fun r8_0 =>
  some r8_0

def m_tally_Normal_1 (p0 : GChange) : Option Bool :=
  some (decide (p0.N = 0))

def m_slices_IndexFunc_Change__tally_Normal_1_l1 (p0 : (List GChange)) : Nat → Int → Option Int
  | 0, _ => none
  | fu_1 + 1, y8_1 =>
    cond (decide (y8_1 < ((List.length p0 : Nat) : Int)))
    (Option.bind (geti p0 y8_1) fun x14_2 =>
    Option.bind (m_tally_Normal_1 x14_2) fun r16_2 =>
    cond r16_2
    (some y8_1)
    (m_slices_IndexFunc_Change__tally_Normal_1_l1 p0 fu_1 (IntKind.i64.wrap (y8_1 + 1))))
    (some (-1))
def m_slices_IndexFunc_Change__tally_Normal_1 (p0 : (List GChange)) : Option Int :=
  m_slices_IndexFunc_Change__tally_Normal_1_l1 p0 1152921504606846976 0

def m_slices_DeleteFunc_Change__tally_Normal_1_l1 : Nat → (List GChange) → Int → Int → Option (List GChange)
  | 0, _, _, _ => none
  | fu_1 + 1, y0_1, y5_1, y6_1 =>
    cond (decide (y6_1 < ((List.length y0_1 : Nat) : Int)))
    (Option.bind (geti y0_1 y6_1) fun x24_3 =>
    Option.bind (m_tally_Normal_1 x24_3) fun r28_4 =>
    cond (!r28_4)
    (Option.bind (geti y0_1 y5_1) fun x33_5 =>
    m_slices_DeleteFunc_Change__tally_Normal_1_l1 fu_1 (List.set y0_1 (Int.toNat y5_1) x24_3) (IntKind.i64.wrap (y5_1 + 1)) (IntKind.i64.wrap (y6_1 + 1)))
    (m_slices_DeleteFunc_Change__tally_Normal_1_l1 fu_1 y0_1 y5_1 (IntKind.i64.wrap (y6_1 + 1))))
    (chk (0 ≤ y5_1 ∧ y5_1 < ((List.length y0_1 : Nat) : Int)) (
    Option.bind (cut (clr y0_1 (Int.toNat y5_1) ((GChange.mk 0 0 0) : GChange)) 0 y5_1) fun s41_7 =>
    some s41_7))
def m_slices_DeleteFunc_Change__tally_Normal_1 (p0 : (List GChange)) : Option (List GChange) :=
  Option.bind (m_slices_IndexFunc_Change__tally_Normal_1 p0) fun r10_0 =>
  cond (decide (r10_0 = (-1)))
  (some p0)
  (m_slices_DeleteFunc_Change__tally_Normal_1_l1  1152921504606846976 p0 r10_0 (IntKind.i64.wrap (r10_0 + 1)))

def m_tally_Normal_l4 (r14_2 : (List GChange)) : Nat → (List GChange) → Int → Option (List GChange)
  | 0, _, _ => none
  | fu_4 + 1, y4_4, y17_4 =>
    cond (decide (y17_4 < ((List.length r14_2 : Nat) : Int)))
    (Option.bind (geti r14_2 y17_4) fun x20_5 =>
    cond (decide ((0 : Int) < y17_4))
    (Option.bind (geti r14_2 (IntKind.i64.wrap (y17_4 - 1))) fun x28_7 =>
    Option.bind (m_tally_order x28_7 x20_5) fun r31_7 =>
    cond (decide (r31_7 = 0))
    (Option.bind (geti y4_4 (IntKind.i64.wrap (((List.length y4_4 : Nat) : Int) - 1))) fun x38_8 =>
    Option.bind (geti y4_4 (IntKind.i64.wrap (((List.length y4_4 : Nat) : Int) - 1))) fun x44_8 =>
    m_tally_Normal_l4 r14_2 fu_4 (List.set y4_4 (Int.toNat (IntKind.i64.wrap (((List.length y4_4 : Nat) : Int) - 1))) (GChange.mk x44_8.Loc x44_8.Time (IntKind.i64.wrap (x38_8.N + x20_5.N)))) (IntKind.i64.wrap (y17_4 + 1)))
    (Option.bind (app y4_4 ([x20_5] : List GChange)) fun a49_6 =>
    m_tally_Normal_l4 r14_2 fu_4 a49_6 (IntKind.i64.wrap (y17_4 + 1))))
    (Option.bind (app y4_4 ([x20_5] : List GChange)) fun a49_9 =>
    m_tally_Normal_l4 r14_2 fu_4 a49_9 (IntKind.i64.wrap (y17_4 + 1))))
    (Option.bind (m_slices_DeleteFunc_Change__tally_Normal_1 y4_4) fun r52_10 =>
    some r52_10)
def m_tally_Normal (p0 : (List GChange)) : Option (List GChange) :=
  Option.bind (mkl ((List.length p0 : Nat) : Int) ((GChange.mk 0 0 0) : GChange)) fun m9_0 =>
  Option.bind (cpy m9_0 p0) fun c12_1 =>
  Option.bind (m_slices_SortStableFunc_Change__tally_order c12_1) fun r14_2 =>
  m_tally_Normal_l4 r14_2 1152921504606846976 ([] : List GChange) 0

def m_view_New_j1 : Option (GNet × Int) :=
  some ((GNet.mk 0 ([] : List (List GChange)) ([] : List (List GChange)) (none : Option (List (GArr2_Int × (List (List GChange)))))), 2)
def m_view_New_l3 (p0 : Int) (p1 : Int) (p2 : (List GChange)) (m26_2 : List (List GChange)) : Nat → (List (List GChange)) → Int → Option (GNet × Int)
  | 0, _, _ => none
  | fu_3 + 1, y8_d_1_3, y30_3 =>
    cond (decide (y30_3 < p0))
    (Option.bind (m_tally_Normal p2) fun r35_4 =>
    Option.bind (app y8_d_1_3 ([r35_4] : List (List GChange))) fun a37_4 =>
    m_view_New_l3 p0 p1 p2 m26_2 fu_3 a37_4 (IntKind.i64.wrap (y30_3 + 1)))
    (some ((GNet.mk p1 y8_d_1_3 m26_2 (some ([] : List (GArr2_Int × (List (List GChange)))))), 0))
def m_view_New (p0 : Int) (p1 : Int) (p2 : (List GChange)) : Option (GNet × Int) :=
  cond (decide (p0 < 1))
  (m_view_New_j1 )
  (cond (decide ((16 : Int) < p0))
  (m_view_New_j1 )
  (cond (decide (p1 < 1))
  (m_view_New_j1 )
  (cond (decide ((4096 : Int) < p1))
  (some ((GNet.mk 0 ([] : List (List GChange)) ([] : List (List GChange)) (none : Option (List (GArr2_Int × (List (List GChange)))))), 2))
  (Option.bind (mkl p0 (([] : List GChange) : (List GChange))) fun m26_2 =>
  m_view_New_l3 p0 p1 p2 m26_2 1152921504606846976 ([] : List (List GChange)) 0))))

def m_view_Net_there (p0 : GNet) (p1 : Int) : Option Bool :=
  cond (decide ((0 : Int) ≤ p1))
  (some (decide (p1 < ((List.length p0.Views : Nat) : Int))))
  (some false)

def m_slices_Clone_tally_Change_tally_Change (p0 : (List (List GChange))) : Option (List (List GChange)) :=
  Option.bind (app ([] : List (List GChange)) p0) fun a7_0 =>
  some a7_0

def m_view_Net_clone (p0 : GNet) : Option GNet :=
  Option.bind (m_slices_Clone_tally_Change_tally_Change p0.Views) fun r5_0 =>
  Option.bind (m_slices_Clone_tally_Change_tally_Change p0.Pending) fun r8_0 =>
  cond (Option.isNone p0.Links)
  (some (GNet.mk p0.Cap r5_0 r8_0 (some ([] : List (GArr2_Int × (List (List GChange)))))))
  (cond (Option.isSome p0.Links)
  (Option.bind p0.Links fun mc11_0 =>
  some (GNet.mk p0.Cap r5_0 r8_0 (some mc11_0)))
  (none))

def m_slices_Grow_Change (p1 : Int) : Option (List GChange) :=
  cond (decide (p1 < 0))
  (none)
  (cond (decide ((0 : Int) < (IntKind.i64.wrap (p1 - 0))))
  (Option.bind (mkl (IntKind.i64.wrap (p1 - 0)) ((GChange.mk 0 0 0) : GChange)) fun a22_1 =>
  chk (0 < Int.toNat (IntKind.i64.wrap (p1 - 0))) (
  Option.bind (cut a22_1 0 0) fun s25_1 =>
  some s25_1))
  (some ([] : List GChange)))

def m_slices_Concat_Change_l6 (p0 : (List (List GChange))) : Nat → (List GChange) → Int → Option (List GChange)
  | 0, _, _ => none
  | fu_6 + 1, y6_6, y27_6 =>
    cond (decide (y27_6 < ((List.length p0 : Nat) : Int)))
    (Option.bind (geti p0 y27_6) fun x29_7 =>
    Option.bind (app y6_6 x29_7) fun a33_8 =>
    m_slices_Concat_Change_l6 p0 fu_6 a33_8 (IntKind.i64.wrap (y27_6 + 1)))
    (some y6_6)
def m_slices_Concat_Change_l1 (p0 : (List (List GChange))) : Nat → Int → Int → Option (List GChange)
  | 0, _, _ => none
  | fu_1 + 1, y3_1, y11_1 =>
    cond (decide (y11_1 < ((List.length p0 : Nat) : Int)))
    (Option.bind (geti p0 y11_1) fun x13_2 =>
    cond (decide ((IntKind.i64.wrap (y3_1 + ((List.length x13_2 : Nat) : Int))) < 0))
    (none)
    (m_slices_Concat_Change_l1 p0 fu_1 (IntKind.i64.wrap (y3_1 + ((List.length x13_2 : Nat) : Int))) (IntKind.i64.wrap (y11_1 + 1))))
    (Option.bind (m_slices_Grow_Change y3_1) fun r24_4 =>
    m_slices_Concat_Change_l6 p0 1152921504606846976 r24_4 0)
def m_slices_Concat_Change (p0 : (List (List GChange))) : Option (List GChange) :=
  m_slices_Concat_Change_l1 p0 1152921504606846976 0 0

def m_tally_Merge (p0 : (List GChange)) (p1 : (List GChange)) : Option (List GChange) :=
  Option.bind (m_slices_Concat_Change ([p0, p1] : List (List GChange))) fun r8_0 =>
  Option.bind (m_tally_Normal r8_0) fun r9_0 =>
  some r9_0

def m_view_Net_Note (p0 : GNet) (p1 : Int) (p2 : (List GChange)) : Option (GNet × Int) :=
  Option.bind (m_view_Net_there p0 p1) fun r10_0 =>
  cond (!r10_0)
  (some (p0, 6))
  (Option.bind (m_view_Net_clone p0) fun r14_1 =>
  Option.bind (geti r14_1.Pending p1) fun x21_2 =>
  Option.bind (m_tally_Merge x21_2 p2) fun r24_2 =>
  Option.bind (geti r14_1.Pending p1) fun x25_2 =>
  some ((GNet.mk r14_1.Cap r14_1.Views (List.set r14_1.Pending (Int.toNat p1) r24_2) (some (ml r14_1.Links))), 0))

def m_view_Net_Waits (p0 : GNet) (p1 : Int) (p2 : Int) : Option Int :=
  Option.bind (some (((List.length (Option.getD (mlook (ml p0.Links) (GArr2_Int.mk p1 p2)) ([] : List (List GChange))) : Nat) : Int))) fun v13_1 =>
  some v13_1

def m_view_Net_Flush_l7 (p1 : Int) (r38_5 : GNet) : Nat → (List (GArr2_Int × (List (List GChange)))) → Int → Option (GNet × Int)
  | 0, _, _ => none
  | fu_7 + 1, y2_d_3_7, y42_7 =>
    cond (decide (y42_7 < ((List.length r38_5.Views : Nat) : Int)))
    (Option.bind (m_slices_Clone_tally_Change_tally_Change (Option.getD (mlook y2_d_3_7 (GArr2_Int.mk p1 y42_7)) ([] : List (List GChange)))) fun r55_8 =>
    Option.bind (geti r38_5.Pending p1) fun x59_8 =>
    Option.bind (app r55_8 ([x59_8] : List (List GChange))) fun a62_8 =>
    m_view_Net_Flush_l7 p1 r38_5 fu_7 (mput y2_d_3_7 (GArr2_Int.mk p1 y42_7) a62_8) (IntKind.i64.wrap (y42_7 + 1)))
    (Option.bind (geti r38_5.Pending p1) fun x67_9 =>
    some ((GNet.mk r38_5.Cap r38_5.Views (List.set r38_5.Pending (Int.toNat p1) ([] : List GChange)) (some y2_d_3_7)), 0))
def m_view_Net_Flush_l3 (p0 : GNet) (p1 : Int) : Nat → Int → Option (GNet × Int)
  | 0, _ => none
  | fu_3 + 1, y25_3 =>
    cond (decide (y25_3 < ((List.length p0.Views : Nat) : Int)))
    (Option.bind (m_view_Net_Waits p0 p1 y25_3) fun r31_4 =>
    cond (decide (p0.Cap ≤ r31_4))
    (some (p0, 7))
    (m_view_Net_Flush_l3 p0 p1 fu_3 (IntKind.i64.wrap (y25_3 + 1))))
    (Option.bind (m_view_Net_clone p0) fun r38_5 =>
    m_view_Net_Flush_l7 p1 r38_5 1152921504606846976 (ml r38_5.Links) 0)
def m_view_Net_Flush (p0 : GNet) (p1 : Int) : Option (GNet × Int) :=
  Option.bind (m_view_Net_there p0 p1) fun r11_0 =>
  cond (!r11_0)
  (some (p0, 6))
  (Option.bind (geti p0.Pending p1) fun x17_1 =>
  cond (decide (((List.length x17_1 : Nat) : Int) = 0))
  (some (p0, 16))
  (m_view_Net_Flush_l3 p0 p1 1152921504606846976 0))

def m_view_Net_Deliver (p0 : GNet) (p1 : Int) (p2 : Int) : Option (GNet × Int) :=
  Option.bind (m_view_Net_there p0 p1) fun r12_0 =>
  cond (!r12_0)
  (some (p0, 6))
  (Option.bind (m_view_Net_there p0 p2) fun r17_0 =>
  cond (!r17_0)
  (some (p0, 6))
  (Option.bind (some (((List.length (Option.getD (mlook (ml p0.Links) (GArr2_Int.mk p1 p2)) ([] : List (List GChange))) : Nat) : Int))) fun v28_2 =>
  cond (decide (v28_2 = 0))
  (some (p0, 16))
  (Option.bind (m_view_Net_clone p0) fun r32_3 =>
  Option.bind (geti r32_3.Views p2) fun x43_4 =>
  Option.bind (geti (Option.getD (mlook (ml r32_3.Links) (GArr2_Int.mk p1 p2)) ([] : List (List GChange))) 0) fun x46_4 =>
  Option.bind (m_tally_Merge x43_4 x46_4) fun r48_4 =>
  Option.bind (geti r32_3.Views p2) fun x49_4 =>
  Option.bind (cut (Option.getD (mlook (ml r32_3.Links) (GArr2_Int.mk p1 p2)) ([] : List (List GChange))) 1 ((List.length (Option.getD (mlook (ml r32_3.Links) (GArr2_Int.mk p1 p2)) ([] : List (List GChange))) : Nat) : Int)) fun s54_5 =>
  Option.bind (m_slices_Clone_tally_Change_tally_Change s54_5) fun r55_5 =>
  Option.bind (some (((List.length (Option.getD (mlook (ml r32_3.Links) (GArr2_Int.mk p1 p2)) ([] : List (List GChange))) : Nat) : Int))) fun v57_2 =>
  cond (decide (v57_2 = 1))
  (some ((GNet.mk r32_3.Cap (List.set r32_3.Views (Int.toNat p2) r48_4) r32_3.Pending (some (mdel (mput (ml r32_3.Links) (GArr2_Int.mk p1 p2) r55_5) (GArr2_Int.mk p1 p2)))), 0))
  (some ((GNet.mk r32_3.Cap (List.set r32_3.Views (Int.toNat p2) r48_4) r32_3.Pending (some (mput (ml r32_3.Links) (GArr2_Int.mk p1 p2) r55_5))), 0)))))

def m_front_Leads (p0 : Int) (p1 : Int) : Option Bool :=
  cond (decide ((0 : Int) ≤ p0))
  (cond (decide (p0 ≤ p1))
  (some (decide (p1 < 4)))
  (some false))
  (some false)

def m_front_Of_j4 (y11_1 : Int) (y5_1 : Int) (k_m_front_Of_l1 : Int → Int → Option Int) : Option Int :=
  k_m_front_Of_l1 y5_1 (IntKind.i64.wrap (y11_1 + 1))
def m_front_Of_l1 (p1 : Int) (r9_0 : (List GChange)) : Nat → Int → Int → Option Int
  | 0, _, _ => none
  | fu_1 + 1, y5_1, y11_1 =>
    cond (decide (y11_1 < ((List.length r9_0 : Nat) : Int)))
    (Option.bind (geti r9_0 y11_1) fun x13_2 =>
    cond (decide ((0 : Int) < x13_2.N))
    (Option.bind (m_front_Leads x13_2.Loc p1) fun r22_3 =>
    cond r22_3
    (cond (decide (x13_2.Time < y5_1))
    (m_front_Of_l1 p1 r9_0 fu_1 x13_2.Time (IntKind.i64.wrap (y11_1 + 1)))
    (m_front_Of_l1 p1 r9_0 fu_1 y5_1 (IntKind.i64.wrap (y11_1 + 1))))
    (m_front_Of_j4 y11_1 y5_1 (fun y5_1 y11_1 => m_front_Of_l1 p1 r9_0 fu_1 y5_1 y11_1)))
    (m_front_Of_j4 y11_1 y5_1 (fun y5_1 y11_1 => m_front_Of_l1 p1 r9_0 fu_1 y5_1 y11_1)))
    (some (max y5_1 0))
def m_front_Of (p0 : (List GChange)) (p1 : Int) : Option Int :=
  Option.bind (m_tally_Normal p0) fun r9_0 =>
  m_front_Of_l1 p1 r9_0 1152921504606846976 1099511627777 0

def m_view_Net_Front (p0 : GNet) (p1 : Int) (p2 : Int) : Option Int :=
  Option.bind (m_view_Net_there p0 p1) fun r9_0 =>
  cond (!r9_0)
  (some 0)
  (Option.bind (geti p0.Views p1) fun x14_1 =>
  Option.bind (m_front_Of x14_1 p2) fun r17_1 =>
  some r17_1)

def m_view_Net_Truth_l3 (p0 : GNet) (p1 : Int) : Nat → (List GChange) → Int → Option (List GChange)
  | 0, _, _ => none
  | fu_3 + 1, y5_3, y17_3 =>
    cond (decide (y17_3 < ((List.length p0.Views : Nat) : Int)))
    (Option.bind (m_slices_Concat_Change (Option.getD (mlook (ml p0.Links) (GArr2_Int.mk y17_3 p1)) ([] : List (List GChange)))) fun r27_4 =>
    Option.bind (app y5_3 r27_4) fun a28_4 =>
    m_view_Net_Truth_l3 p0 p1 fu_3 a28_4 (IntKind.i64.wrap (y17_3 + 1)))
    (Option.bind (geti p0.Views p1) fun x33_5 =>
    Option.bind (m_tally_Merge x33_5 y5_3) fun r36_5 =>
    some r36_5)
def m_view_Net_Truth (p0 : GNet) (p1 : Int) : Option (List GChange) :=
  Option.bind (m_view_Net_there p0 p1) fun r9_0 =>
  cond (!r9_0)
  (some ([] : List GChange))
  (Option.bind (m_slices_Concat_Change p0.Pending) fun r13_1 =>
  m_view_Net_Truth_l3 p0 p1 1152921504606846976 r13_1 0)

def m_view_Net_Idle_1 (p0 : (List GChange)) : Option Bool :=
  some (decide ((0 : Int) < ((List.length p0 : Nat) : Int)))

def m_slices_IndexFunc_tally_Change_tally_Change__view_Net_Idle_1_l1 (p0 : (List (List GChange))) : Nat → Int → Option Int
  | 0, _ => none
  | fu_1 + 1, y8_1 =>
    cond (decide (y8_1 < ((List.length p0 : Nat) : Int)))
    (Option.bind (geti p0 y8_1) fun x14_2 =>
    Option.bind (m_view_Net_Idle_1 x14_2) fun r16_2 =>
    cond r16_2
    (some y8_1)
    (m_slices_IndexFunc_tally_Change_tally_Change__view_Net_Idle_1_l1 p0 fu_1 (IntKind.i64.wrap (y8_1 + 1))))
    (some (-1))
def m_slices_IndexFunc_tally_Change_tally_Change__view_Net_Idle_1 (p0 : (List (List GChange))) : Option Int :=
  m_slices_IndexFunc_tally_Change_tally_Change__view_Net_Idle_1_l1 p0 1152921504606846976 0

def m_slices_ContainsFunc_tally_Change_tally_Change__view_Net_Idle_1 (p0 : (List (List GChange))) : Option Bool :=
  Option.bind (m_slices_IndexFunc_tally_Change_tally_Change__view_Net_Idle_1 p0) fun r7_0 =>
  some (decide ((0 : Int) ≤ r7_0))

def m_view_Net_Idle (p0 : GNet) : Option Bool :=
  Option.bind (m_slices_ContainsFunc_tally_Change_tally_Change__view_Net_Idle_1 p0.Pending) fun r6_0 =>
  cond (!r6_0)
  (some (decide (((List.length (ml p0.Links) : Nat) : Int) = 0)))
  (some false)

def m_slices_Equal_Change_l2 (p0 : (List GChange)) (p1 : (List GChange)) : Nat → Int → Option Bool
  | 0, _ => none
  | fu_2 + 1, y13_2 =>
    cond (decide (y13_2 < ((List.length p0 : Nat) : Int)))
    (Option.bind (geti p0 y13_2) fun x18_3 =>
    Option.bind (geti p1 y13_2) fun x22_3 =>
    Option.bind (some ((!(decide (x18_3.Loc = x22_3.Loc) && (decide (x18_3.Time = x22_3.Time) && (decide (x18_3.N = x22_3.N) && true)))))) fun v24_3 =>
    cond v24_3
    (some false)
    (m_slices_Equal_Change_l2 p0 p1 fu_2 (IntKind.i64.wrap (y13_2 + 1))))
    (some true)
def m_slices_Equal_Change (p0 : (List GChange)) (p1 : (List GChange)) : Option Bool :=
  cond (decide (((List.length p0 : Nat) : Int) ≠ ((List.length p1 : Nat) : Int)))
  (some false)
  (m_slices_Equal_Change_l2 p0 p1 1152921504606846976 0)

def m_tally_Same (p0 : (List GChange)) (p1 : (List GChange)) : Option Bool :=
  Option.bind (m_slices_Equal_Change p0 p1) fun r7_0 =>
  some r7_0

def m_slices_EqualFunc_tally_Change_tally_Change_tally_Change_tally_Change__tally_Same_l2 (p0 : (List (List GChange))) (p1 : (List (List GChange))) : Nat → Int → Option Bool
  | 0, _ => none
  | fu_2 + 1, y17_2 =>
    cond (decide (y17_2 < ((List.length p0 : Nat) : Int)))
    (Option.bind (geti p0 y17_2) fun x20_3 =>
    Option.bind (geti p1 y17_2) fun x24_4 =>
    Option.bind (m_tally_Same x20_3 x24_4) fun r29_5 =>
    cond (!r29_5)
    (some false)
    (m_slices_EqualFunc_tally_Change_tally_Change_tally_Change_tally_Change__tally_Same_l2 p0 p1 fu_2 (IntKind.i64.wrap (y17_2 + 1))))
    (some true)
def m_slices_EqualFunc_tally_Change_tally_Change_tally_Change_tally_Change__tally_Same (p0 : (List (List GChange))) (p1 : (List (List GChange))) : Option Bool :=
  cond (decide (((List.length p0 : Nat) : Int) ≠ ((List.length p1 : Nat) : Int)))
  (some false)
  (m_slices_EqualFunc_tally_Change_tally_Change_tally_Change_tally_Change__tally_Same_l2 p0 p1 1152921504606846976 0)

def m_view_sameLists (p0 : (List (List GChange))) (p1 : (List (List GChange))) : Option Bool :=
  Option.bind (m_slices_EqualFunc_tally_Change_tally_Change_tally_Change_tally_Change__tally_Same p0 p1) fun r7_0 =>
  some r7_0

def m_maps_EqualFunc_map_2_int_tally_Change_map_2_int_tally_Change_2_int_tally_Change_tally_Change__view_sameLists (p0 : (Option (List (GArr2_Int × (List (List GChange)))))) (p1 : (Option (List (GArr2_Int × (List (List GChange)))))) : Option Bool :=
  meq m_view_sameLists (ml p0) (ml p1)

def m_view_Same (p0 : GNet) (p1 : GNet) : Option Bool :=
  cond (decide (p0.Cap = p1.Cap))
  (Option.bind (m_view_sameLists p0.Views p1.Views) fun r15_0 =>
  cond r15_0
  (Option.bind (m_view_sameLists p0.Pending p1.Pending) fun r22_0 =>
  cond r22_0
  (Option.bind (m_maps_EqualFunc_map_2_int_tally_Change_map_2_int_tally_Change_2_int_tally_Change_tally_Change__view_sameLists p0.Links p1.Links) fun r29_0 =>
  some r29_0)
  (some false))
  (some false))
  (some false)

def m_w29_awake : Option Bool :=
  Option.bind (m_view_New 2 1 ([(GChange.mk 0 3 2)] : List GChange)) fun r24_0 =>
  Option.bind (m_view_New 0 1 ([] : List GChange)) fun r28_1 =>
  Option.bind (m_view_Net_Note r24_0.1 0 ([(GChange.mk 0 3 (-2))] : List GChange)) fun r35_2 =>
  Option.bind (m_view_Net_Flush r35_2.1 0) fun r40_3 =>
  Option.bind (m_view_Net_Flush r40_3.1 0) fun r45_4 =>
  Option.bind (m_view_Net_Deliver r40_3.1 0 1) fun r50_5 =>
  Option.bind (m_view_Net_Deliver r50_5.1 0 1) fun r55_6 =>
  Option.bind (m_view_Net_Note r24_0.1 2 ([] : List GChange)) fun r60_7 =>
  Option.bind (m_view_Net_Note r40_3.1 0 ([(GChange.mk 0 0 1)] : List GChange)) fun r67_8 =>
  Option.bind (m_view_Net_Flush r67_8.1 0) fun r72_9 =>
  cond (decide (r24_0.2 = 0))
  (cond (decide (r28_1.2 = 2))
  (cond (decide (r35_2.2 = 0))
  (cond (decide (r40_3.2 = 0))
  (cond (decide (r45_4.2 = 16))
  (cond (decide (r50_5.2 = 0))
  (cond (decide (r55_6.2 = 16))
  (cond (decide (r60_7.2 = 6))
  (cond (decide (r72_9.2 = 7))
  (Option.bind (m_view_Net_Front r24_0.1 1 1) fun r111_10 =>
  cond (decide (r111_10 = 3))
  (Option.bind (m_view_Net_Front r50_5.1 1 1) fun r116_10 =>
  cond (decide (r116_10 = 1099511627777))
  (Option.bind (m_view_Net_Front r50_5.1 0 1) fun r121_10 =>
  cond (decide (r121_10 = 3))
  (Option.bind (m_view_Net_Waits r50_5.1 0 0) fun r126_10 =>
  cond (decide (r126_10 = 1))
  (cond (decide (((List.length (ml r50_5.1.Links) : Nat) : Int) = 1))
  (cond (decide (((List.length (ml r40_3.1.Links) : Nat) : Int) = 2))
  (Option.bind (m_view_Net_Truth r50_5.1 0) fun r143_10 =>
  cond (decide (((List.length r143_10 : Nat) : Int) = 0))
  (Option.bind (m_view_Net_Idle r24_0.1) fun r149_10 =>
  cond r149_10
  (Option.bind (m_view_Net_Idle r50_5.1) fun r153_10 =>
  cond (!r153_10)
  (Option.bind (m_view_Same r40_3.1 r40_3.1) fun r159_10 =>
  cond r159_10
  (Option.bind (m_view_Same r35_2.1 r40_3.1) fun r164_10 =>
  cond (!r164_10)
  (some true)
  (some false))
  (some false))
  (some false))
  (some false))
  (some false))
  (some false))
  (some false))
  (some false))
  (some false))
  (some false))
  (some false))
  (some false))
  (some false))
  (some false))
  (some false))
  (some false))
  (some false))
  (some false))
  (some false))
  (some false)

def m_w26_Own_l0 (p0 : (List GChange)) : Nat → (List GChange) → Int → Option (List GChange)
  | 0, _, _ => none
  | fu_0 + 1, y3_0, y4_0 =>
    cond (decide (y4_0 < ((List.length p0 : Nat) : Int)))
    (Option.bind (geti p0 y4_0) fun x14_2 =>
    Option.bind (app y3_0 ([x14_2] : List GChange)) fun a17_2 =>
    m_w26_Own_l0 p0 fu_0 a17_2 (IntKind.i64.wrap (y4_0 + 1)))
    (some y3_0)
def m_w26_Own (p0 : (List GChange)) : Option (List GChange) :=
  m_w26_Own_l0 p0 1152921504606846976 ([] : List GChange) 0

def m_r26_At_l0 (p0 : (List GChange)) (p1 : Int) (p2 : Int) : Nat → Int → Int → Option Int
  | 0, _, _ => none
  | fu_0 + 1, y7_0, y8_0 =>
    cond (decide (y8_0 < ((List.length p0 : Nat) : Int)))
    (Option.bind (geti p0 y8_0) fun x17_2 =>
    cond (decide (x17_2.Loc = p1))
    (Option.bind (geti p0 y8_0) fun x25_2 =>
    cond (decide (x25_2.Time = p2))
    (Option.bind (geti p0 y8_0) fun x34_3 =>
    m_r26_At_l0 p0 p1 p2 fu_0 (IntKind.i64.wrap (y7_0 + x34_3.N)) (IntKind.i64.wrap (y8_0 + 1)))
    (m_r26_At_l0 p0 p1 p2 fu_0 y7_0 (IntKind.i64.wrap (y8_0 + 1))))
    (m_r26_At_l0 p0 p1 p2 fu_0 y7_0 (IntKind.i64.wrap (y8_0 + 1))))
    (some y7_0)
def m_r26_At (p0 : (List GChange)) (p1 : Int) (p2 : Int) : Option Int :=
  m_r26_At_l0 p0 p1 p2 1152921504606846976 0 0

def m_r26_before (p0 : GChange) (p1 : GChange) : Option Bool :=
  cond (decide (p0.Loc < p1.Loc))
  (some true)
  (cond (decide (p0.Loc = p1.Loc))
  (some (decide (p0.Time < p1.Time)))
  (some false))

def m_r26_Normal_j8 (r36_2 : Int) (x17_2 : GChange) (x22_2 : GChange) (y3_0 : List GChange) (y4_0 : Int) (k_m_r26_Normal_l0 : (List GChange) → Int → Option (List GChange)) (y6_8 : Int) : Option (List GChange) :=
  cond (decide (y6_8 < ((List.length y3_0 : Nat) : Int)))
  (Option.bind (geti y3_0 y6_8) fun x60_5 =>
  Option.bind (m_r26_before (GChange.mk x17_2.Loc x22_2.Time r36_2) x60_5) fun r62_5 =>
  cond (!(!r62_5))
  (cond (decide (r36_2 ≠ 0))
  (Option.bind (cut y3_0 0 y6_8) fun s75_6 =>
  Option.bind (app ([] : List GChange) s75_6) fun a76_6 =>
  Option.bind (app a76_6 ([(GChange.mk x17_2.Loc x22_2.Time r36_2)] : List GChange)) fun a79_6 =>
  Option.bind (cut y3_0 y6_8 ((List.length y3_0 : Nat) : Int)) fun s83_7 =>
  Option.bind (app a79_6 s83_7) fun a84_7 =>
  k_m_r26_Normal_l0 a84_7 (IntKind.i64.wrap (y4_0 + 1)))
  (k_m_r26_Normal_l0 y3_0 (IntKind.i64.wrap (y4_0 + 1))))
  (k_m_r26_Normal_l0 y3_0 (IntKind.i64.wrap (y4_0 + 1))))
  (cond (decide (r36_2 ≠ 0))
  (Option.bind (cut y3_0 0 y6_8) fun s75_10 =>
  Option.bind (app ([] : List GChange) s75_10) fun a76_10 =>
  Option.bind (app a76_10 ([(GChange.mk x17_2.Loc x22_2.Time r36_2)] : List GChange)) fun a79_10 =>
  Option.bind (cut y3_0 y6_8 ((List.length y3_0 : Nat) : Int)) fun s83_11 =>
  Option.bind (app a79_10 s83_11) fun a84_11 =>
  k_m_r26_Normal_l0 a84_11 (IntKind.i64.wrap (y4_0 + 1)))
  (k_m_r26_Normal_l0 y3_0 (IntKind.i64.wrap (y4_0 + 1))))
def m_r26_Normal_l3 (r36_2 : Int) (x17_2 : GChange) (x22_2 : GChange) (y3_0 : List GChange) (y4_0 : Int) (k_m_r26_Normal_l0 : (List GChange) → Int → Option (List GChange)) : Nat → Int → Option (List GChange)
  | 0, _ => none
  | fu_3 + 1, y6_3 =>
    cond (decide (y6_3 < ((List.length y3_0 : Nat) : Int)))
    (Option.bind (geti y3_0 y6_3) fun x45_4 =>
    Option.bind (m_r26_before x45_4 (GChange.mk x17_2.Loc x22_2.Time r36_2)) fun r48_4 =>
    cond r48_4
    (m_r26_Normal_l3 r36_2 x17_2 x22_2 y3_0 y4_0 k_m_r26_Normal_l0 fu_3 (IntKind.i64.wrap (y6_3 + 1)))
    (m_r26_Normal_j8 r36_2 x17_2 x22_2 y3_0 y4_0 k_m_r26_Normal_l0 y6_3))
    (m_r26_Normal_j8 r36_2 x17_2 x22_2 y3_0 y4_0 k_m_r26_Normal_l0 y6_3)
def m_r26_Normal_l0 (p0 : (List GChange)) : Nat → (List GChange) → Int → Option (List GChange)
  | 0, _, _ => none
  | fu_0 + 1, y3_0, y4_0 =>
    cond (decide (y4_0 < ((List.length p0 : Nat) : Int)))
    (Option.bind (geti p0 y4_0) fun x17_2 =>
    Option.bind (geti p0 y4_0) fun x22_2 =>
    Option.bind (geti p0 y4_0) fun x28_2 =>
    Option.bind (geti p0 y4_0) fun x33_2 =>
    Option.bind (m_r26_At p0 x28_2.Loc x33_2.Time) fun r36_2 =>
    m_r26_Normal_l3 r36_2 x17_2 x22_2 y3_0 y4_0 (fun y3_0 y4_0 => m_r26_Normal_l0 p0 fu_0 y3_0 y4_0) 1152921504606846976 0)
    (some y3_0)
def m_r26_Normal (p0 : (List GChange)) : Option (List GChange) :=
  m_r26_Normal_l0 p0 1152921504606846976 ([] : List GChange) 0

def m_r29_New_j1 : Option (GNet_ × Int) :=
  some ((GNet_.mk 0 ([] : List (List GChange)) ([] : List (List GChange)) ([] : List GBatch)), 2)
def m_r29_New_l2 (p0 : Int) (p1 : Int) (p2 : (List GChange)) : Nat → (List (List GChange)) → (List (List GChange)) → Int → Option (GNet_ × Int)
  | 0, _, _, _ => none
  | fu_2 + 1, y8_d_1_2, y8_d_2_2, y9_2 =>
    cond (decide (y9_2 < p0))
    (Option.bind (m_r26_Normal p2) fun r35_3 =>
    Option.bind (app y8_d_1_2 ([r35_3] : List (List GChange))) fun a37_3 =>
    Option.bind (app y8_d_2_2 ([([] : List GChange)] : List (List GChange))) fun a42_4 =>
    m_r29_New_l2 p0 p1 p2 fu_2 a37_3 a42_4 (IntKind.i64.wrap (y9_2 + 1)))
    (some ((GNet_.mk p1 y8_d_1_2 y8_d_2_2 ([] : List GBatch)), 0))
def m_r29_New (p0 : Int) (p1 : Int) (p2 : (List GChange)) : Option (GNet_ × Int) :=
  cond (decide (p0 < 1))
  (m_r29_New_j1 )
  (cond (decide ((16 : Int) < p0))
  (m_r29_New_j1 )
  (cond (decide (p1 < 1))
  (m_r29_New_j1 )
  (cond (decide ((4096 : Int) < p1))
  (some ((GNet_.mk 0 ([] : List (List GChange)) ([] : List (List GChange)) ([] : List GBatch)), 2))
  (m_r29_New_l2 p0 p1 p2 1152921504606846976 ([] : List (List GChange)) ([] : List (List GChange)) 0))))

def m_r29_there (p0 : GNet_) (p1 : Int) : Option Bool :=
  cond (decide ((0 : Int) ≤ p1))
  (some (decide (p1 < ((List.length p0.Views : Nat) : Int))))
  (some false)

def m_r26_Merge (p0 : (List GChange)) (p1 : (List GChange)) : Option (List GChange) :=
  Option.bind (app ([] : List GChange) p0) fun a7_0 =>
  Option.bind (app a7_0 p1) fun a9_0 =>
  Option.bind (m_r26_Normal a9_0) fun r10_0 =>
  some r10_0

def m_r29_set (p0 : (List (List GChange))) (p1 : Int) (p2 : (List GChange)) : Option (List (List GChange)) :=
  Option.bind (app ([] : List (List GChange)) p0) fun a10_0 =>
  Option.bind (geti a10_0 p1) fun x14_1 =>
  some (List.set a10_0 (Int.toNat p1) p2)

def m_r29_Note (p0 : GNet_) (p1 : Int) (p2 : (List GChange)) : Option (GNet_ × Int) :=
  Option.bind (m_r29_there p0 p1) fun r10_0 =>
  cond (!r10_0)
  (some (p0, 6))
  (Option.bind (geti p0.Pending p1) fun x19_1 =>
  Option.bind (m_r26_Merge x19_1 p2) fun r22_1 =>
  Option.bind (m_r29_set p0.Pending p1 r22_1) fun r23_1 =>
  some ((GNet_.mk p0.Cap p0.Views r23_1 p0.On), 0))

def m_r29_Waits_l0 (p0 : GNet_) (p1 : Int) (p2 : Int) : Nat → Int → Int → Option Int
  | 0, _, _ => none
  | fu_0 + 1, y7_0, y8_0 =>
    cond (decide (y8_0 < ((List.length p0.On : Nat) : Int)))
    (Option.bind (geti p0.On y8_0) fun x19_2 =>
    cond (decide (x19_2.From = p1))
    (Option.bind (geti p0.On y8_0) fun x28_2 =>
    cond (decide (x28_2.To = p2))
    (m_r29_Waits_l0 p0 p1 p2 fu_0 (IntKind.i64.wrap (y7_0 + 1)) (IntKind.i64.wrap (y8_0 + 1)))
    (m_r29_Waits_l0 p0 p1 p2 fu_0 y7_0 (IntKind.i64.wrap (y8_0 + 1))))
    (m_r29_Waits_l0 p0 p1 p2 fu_0 y7_0 (IntKind.i64.wrap (y8_0 + 1))))
    (some y7_0)
def m_r29_Waits (p0 : GNet_) (p1 : Int) (p2 : Int) : Option Int :=
  m_r29_Waits_l0 p0 p1 p2 1152921504606846976 0 0

def m_r29_Flush_l3 (p0 : GNet_) (p1 : Int) : Nat → (List GBatch) → Int → Option (GNet_ × Int)
  | 0, _, _ => none
  | fu_3 + 1, y6_3, y7_3 =>
    cond (decide (y7_3 < ((List.length p0.Views : Nat) : Int)))
    (Option.bind (m_r29_Waits p0 p1 y7_3) fun r35_5 =>
    cond (decide (p0.Cap ≤ r35_5))
    (some (p0, 7))
    (Option.bind (geti p0.Pending p1) fun x46_6 =>
    Option.bind (app y6_3 ([(GBatch.mk p1 y7_3 x46_6)] : List GBatch)) fun a50_6 =>
    m_r29_Flush_l3 p0 p1 fu_3 a50_6 (IntKind.i64.wrap (y7_3 + 1))))
    (Option.bind (m_r29_set p0.Pending p1 ([] : List GChange)) fun r56_7 =>
    some ((GNet_.mk p0.Cap p0.Views r56_7 y6_3), 0))
def m_r29_Flush (p0 : GNet_) (p1 : Int) : Option (GNet_ × Int) :=
  Option.bind (m_r29_there p0 p1) fun r10_0 =>
  cond (!r10_0)
  (some (p0, 6))
  (Option.bind (geti p0.Pending p1) fun x16_1 =>
  cond (decide (((List.length x16_1 : Nat) : Int) = 0))
  (some (p0, 16))
  (Option.bind (app ([] : List GBatch) p0.On) fun a24_2 =>
  m_r29_Flush_l3 p0 p1 1152921504606846976 a24_2 0))

def m_r29_Deliver_l1 (p0 : GNet_) (p1 : Int) (p2 : Int) : Nat → Int → Option (GNet_ × Int)
  | 0, _ => none
  | fu_1 + 1, y8_1 =>
    cond (decide (y8_1 < ((List.length p0.On : Nat) : Int)))
    (Option.bind (geti p0.On y8_1) fun x30_3 =>
    cond (decide (x30_3.From = p1))
    (Option.bind (geti p0.On y8_1) fun x39_3 =>
    cond (decide (x39_3.To = p2))
    (Option.bind (geti p0.Views p2) fun x51_4 =>
    Option.bind (geti p0.On y8_1) fun x56_4 =>
    Option.bind (m_r26_Merge x51_4 x56_4.L) fun r59_4 =>
    Option.bind (m_r29_set p0.Views p2 r59_4) fun r60_4 =>
    Option.bind (cut p0.On 0 y8_1) fun s66_5 =>
    Option.bind (app ([] : List GBatch) s66_5) fun a67_5 =>
    Option.bind (cut p0.On (IntKind.i64.wrap (y8_1 + 1)) ((List.length p0.On : Nat) : Int)) fun s72_5 =>
    Option.bind (app a67_5 s72_5) fun a73_5 =>
    some ((GNet_.mk p0.Cap r60_4 p0.Pending a73_5), 0))
    (m_r29_Deliver_l1 p0 p1 p2 fu_1 (IntKind.i64.wrap (y8_1 + 1))))
    (m_r29_Deliver_l1 p0 p1 p2 fu_1 (IntKind.i64.wrap (y8_1 + 1))))
    (some (p0, 16))
def m_r29_Deliver (p0 : GNet_) (p1 : Int) (p2 : Int) : Option (GNet_ × Int) :=
  Option.bind (m_r29_there p0 p1) fun r11_0 =>
  cond (!r11_0)
  (some (p0, 6))
  (Option.bind (m_r29_there p0 p2) fun r16_0 =>
  cond (!r16_0)
  (some (p0, 6))
  (m_r29_Deliver_l1 p0 p1 p2 1152921504606846976 0))

def m_w26_Back_l0 (p0 : (List GChange)) : Nat → (List GChange) → Int → Option (List GChange)
  | 0, _, _ => none
  | fu_0 + 1, y3_0, y4_0 =>
    cond (decide (y4_0 < ((List.length p0 : Nat) : Int)))
    (Option.bind (geti p0 y4_0) fun x14_2 =>
    Option.bind (app y3_0 ([x14_2] : List GChange)) fun a17_2 =>
    m_w26_Back_l0 p0 fu_0 a17_2 (IntKind.i64.wrap (y4_0 + 1)))
    (some y3_0)
def m_w26_Back (p0 : (List GChange)) : Option (List GChange) :=
  m_w26_Back_l0 p0 1152921504606846976 ([] : List GChange) 0

def m_w29_Back_l5 (p0 : GNet) (y4_0 : Int) (y5_3 : Int) (k_m_w29_Back_l3 : (List GBatch) → Int → Option GNet_) : Nat → (List GBatch) → Int → Option GNet_
  | 0, _, _ => none
  | fu_5 + 1, y3_d_3_5, y7_5 =>
    Option.bind (some (((List.length (Option.getD (mlook (ml p0.Links) (GArr2_Int.mk y4_0 y5_3)) ([] : List (List GChange))) : Nat) : Int))) fun v45_8 =>
    cond (decide (y7_5 < v45_8))
    (Option.bind (geti (Option.getD (mlook (ml p0.Links) (GArr2_Int.mk y4_0 y5_3)) ([] : List (List GChange))) y7_5) fun x55_7 =>
    Option.bind (m_w26_Back x55_7) fun r57_7 =>
    Option.bind (app y3_d_3_5 ([(GBatch.mk y4_0 y5_3 r57_7)] : List GBatch)) fun a60_7 =>
    m_w29_Back_l5 p0 y4_0 y5_3 k_m_w29_Back_l3 fu_5 a60_7 (IntKind.i64.wrap (y7_5 + 1)))
    (k_m_w29_Back_l3 y3_d_3_5 (IntKind.i64.wrap (y5_3 + 1)))
def m_w29_Back_l3 (p0 : GNet) (a28_2 : List (List GChange)) (y4_0 : Int) (k_m_w29_Back_l0 : (List (List GChange)) → (List GBatch) → Int → Option GNet_) : Nat → (List GBatch) → Int → Option GNet_
  | 0, _, _ => none
  | fu_3 + 1, y3_d_3_3, y5_3 =>
    cond (decide (y5_3 < ((List.length p0.Views : Nat) : Int)))
    (m_w29_Back_l5 p0 y4_0 y5_3 (fun y3_d_3_3 y5_3 => m_w29_Back_l3 p0 a28_2 y4_0 k_m_w29_Back_l0 fu_3 y3_d_3_3 y5_3) 1152921504606846976 y3_d_3_3 0)
    (k_m_w29_Back_l0 a28_2 y3_d_3_3 (IntKind.i64.wrap (y4_0 + 1)))
def m_w29_Back_l9 (p0 : GNet) (y3_d_1_0 : List (List GChange)) (y3_d_3_0 : List GBatch) : Nat → (List (List GChange)) → Int → Option GNet_
  | 0, _, _ => none
  | fu_9 + 1, y3_d_2_9, y8_9 =>
    cond (decide (y8_9 < ((List.length p0.Pending : Nat) : Int)))
    (Option.bind (geti p0.Pending y8_9) fun x74_11 =>
    Option.bind (m_w26_Back x74_11) fun r76_11 =>
    Option.bind (app y3_d_2_9 ([r76_11] : List (List GChange))) fun a78_11 =>
    m_w29_Back_l9 p0 y3_d_1_0 y3_d_3_0 fu_9 a78_11 (IntKind.i64.wrap (y8_9 + 1)))
    (some (GNet_.mk p0.Cap y3_d_1_0 y3_d_2_9 y3_d_3_0))
def m_w29_Back_l0 (p0 : GNet) : Nat → (List (List GChange)) → (List GBatch) → Int → Option GNet_
  | 0, _, _, _ => none
  | fu_0 + 1, y3_d_1_0, y3_d_3_0, y4_0 =>
    cond (decide (y4_0 < ((List.length p0.Views : Nat) : Int)))
    (Option.bind (geti p0.Views y4_0) fun x24_2 =>
    Option.bind (m_w26_Back x24_2) fun r26_2 =>
    Option.bind (app y3_d_1_0 ([r26_2] : List (List GChange))) fun a28_2 =>
    m_w29_Back_l3 p0 a28_2 y4_0 (fun y3_d_1_0 y3_d_3_0 y4_0 => m_w29_Back_l0 p0 fu_0 y3_d_1_0 y3_d_3_0 y4_0) 1152921504606846976 y3_d_3_0 0)
    (m_w29_Back_l9 p0 y3_d_1_0 y3_d_3_0 1152921504606846976 ([] : List (List GChange)) 0)
def m_w29_Back (p0 : GNet) : Option GNet_ :=
  m_w29_Back_l0 p0 1152921504606846976 ([] : List (List GChange)) ([] : List GBatch) 0

def m_r26_Same_l1 (p0 : (List GChange)) (p1 : (List GChange)) : Nat → Int → Option Bool
  | 0, _ => none
  | fu_1 + 1, y5_1 =>
    cond (decide (y5_1 < ((List.length p0 : Nat) : Int)))
    (Option.bind (geti p0 y5_1) fun x19_3 =>
    Option.bind (geti p1 y5_1) fun x23_3 =>
    Option.bind (some ((!(decide (x19_3.Loc = x23_3.Loc) && (decide (x19_3.Time = x23_3.Time) && (decide (x19_3.N = x23_3.N) && true)))))) fun v25_3 =>
    cond v25_3
    (some false)
    (m_r26_Same_l1 p0 p1 fu_1 (IntKind.i64.wrap (y5_1 + 1))))
    (some true)
def m_r26_Same (p0 : (List GChange)) (p1 : (List GChange)) : Option Bool :=
  cond (decide (((List.length p0 : Nat) : Int) ≠ ((List.length p1 : Nat) : Int)))
  (some false)
  (m_r26_Same_l1 p0 p1 1152921504606846976 0)

def m_r29_link_l0 (p0 : GNet_) (p1 : Int) (p2 : Int) : Nat → (List (List GChange)) → Int → Option (List (List GChange))
  | 0, _, _ => none
  | fu_0 + 1, y7_0, y8_0 =>
    cond (decide (y8_0 < ((List.length p0.On : Nat) : Int)))
    (Option.bind (geti p0.On y8_0) fun x19_2 =>
    cond (decide (x19_2.From = p1))
    (Option.bind (geti p0.On y8_0) fun x28_2 =>
    cond (decide (x28_2.To = p2))
    (Option.bind (geti p0.On y8_0) fun x38_3 =>
    Option.bind (app y7_0 ([x38_3.L] : List (List GChange))) fun a42_3 =>
    m_r29_link_l0 p0 p1 p2 fu_0 a42_3 (IntKind.i64.wrap (y8_0 + 1)))
    (m_r29_link_l0 p0 p1 p2 fu_0 y7_0 (IntKind.i64.wrap (y8_0 + 1))))
    (m_r29_link_l0 p0 p1 p2 fu_0 y7_0 (IntKind.i64.wrap (y8_0 + 1))))
    (some y7_0)
def m_r29_link (p0 : GNet_) (p1 : Int) (p2 : Int) : Option (List (List GChange)) :=
  m_r29_link_l0 p0 p1 p2 1152921504606846976 ([] : List (List GChange)) 0

def m_r29_sameBatches_l1 (p0 : (List (List GChange))) (p1 : (List (List GChange))) : Nat → Int → Option Bool
  | 0, _ => none
  | fu_1 + 1, y5_1 =>
    cond (decide (y5_1 < ((List.length p0 : Nat) : Int)))
    (Option.bind (geti p0 y5_1) fun x19_3 =>
    Option.bind (geti p1 y5_1) fun x23_3 =>
    Option.bind (m_r26_Same x19_3 x23_3) fun r25_3 =>
    cond (!r25_3)
    (some false)
    (m_r29_sameBatches_l1 p0 p1 fu_1 (IntKind.i64.wrap (y5_1 + 1))))
    (some true)
def m_r29_sameBatches (p0 : (List (List GChange))) (p1 : (List (List GChange))) : Option Bool :=
  cond (decide (((List.length p0 : Nat) : Int) ≠ ((List.length p1 : Nat) : Int)))
  (some false)
  (m_r29_sameBatches_l1 p0 p1 1152921504606846976 0)

def m_r29_Same_j1 : Option Bool :=
  some false
def m_r29_Same_l5 (p0 : GNet_) (p1 : GNet_) (y5_2 : Int) (k_m_r29_Same_l2 : Int → Option Bool) : Nat → Int → Option Bool
  | 0, _ => none
  | fu_5 + 1, y6_5 =>
    cond (decide (y6_5 < ((List.length p0.Views : Nat) : Int)))
    (Option.bind (m_r29_link p0 y5_2 y6_5) fun r82_7 =>
    Option.bind (m_r29_link p1 y5_2 y6_5) fun r86_7 =>
    Option.bind (m_r29_sameBatches r82_7 r86_7) fun r87_7 =>
    cond (!r87_7)
    (some false)
    (m_r29_Same_l5 p0 p1 y5_2 k_m_r29_Same_l2 fu_5 (IntKind.i64.wrap (y6_5 + 1))))
    (k_m_r29_Same_l2 (IntKind.i64.wrap (y5_2 + 1)))
def m_r29_Same_l2 (p0 : GNet_) (p1 : GNet_) : Nat → Int → Option Bool
  | 0, _ => none
  | fu_2 + 1, y5_2 =>
    cond (decide (y5_2 < ((List.length p0.Views : Nat) : Int)))
    (Option.bind (geti p0.Views y5_2) fun x49_4 =>
    Option.bind (geti p1.Views y5_2) fun x54_4 =>
    Option.bind (m_r26_Same x49_4 x54_4) fun r56_4 =>
    cond (!r56_4)
    (some false)
    (Option.bind (geti p0.Pending y5_2) fun x62_4 =>
    Option.bind (geti p1.Pending y5_2) fun x67_4 =>
    Option.bind (m_r26_Same x62_4 x67_4) fun r69_4 =>
    cond (!r69_4)
    (some false)
    (m_r29_Same_l5 p0 p1 y5_2 (fun y5_2 => m_r29_Same_l2 p0 p1 fu_2 y5_2) 1152921504606846976 0)))
    (some true)
def m_r29_Same (p0 : GNet_) (p1 : GNet_) : Option Bool :=
  cond (decide (p0.Cap ≠ p1.Cap))
  (m_r29_Same_j1 )
  (cond (decide (((List.length p0.Views : Nat) : Int) ≠ ((List.length p1.Views : Nat) : Int)))
  (m_r29_Same_j1 )
  (cond (decide (((List.length p0.Pending : Nat) : Int) ≠ ((List.length p1.Pending : Nat) : Int)))
  (m_r29_Same_j1 )
  (cond (decide (((List.length p0.On : Nat) : Int) ≠ ((List.length p1.On : Nat) : Int)))
  (some false)
  (m_r29_Same_l2 p0 p1 1152921504606846976 0))))

def m_r29_Idle_l0 (p0 : GNet_) : Nat → Int → Option Bool
  | 0, _ => none
  | fu_0 + 1, y3_0 =>
    cond (decide (y3_0 < ((List.length p0.Pending : Nat) : Int)))
    (Option.bind (geti p0.Pending y3_0) fun x14_2 =>
    cond (decide ((0 : Int) < ((List.length x14_2 : Nat) : Int)))
    (some false)
    (m_r29_Idle_l0 p0 fu_0 (IntKind.i64.wrap (y3_0 + 1))))
    (some (decide (((List.length p0.On : Nat) : Int) = 0)))
def m_r29_Idle (p0 : GNet_) : Option Bool :=
  m_r29_Idle_l0 p0 1152921504606846976 0

def m_r27_Leads (p0 : Int) (p1 : Int) : Option Bool :=
  cond (decide ((0 : Int) ≤ p0))
  (cond (decide (p0 ≤ p1))
  (some (decide (p1 ≤ 3)))
  (some false))
  (some false)

def m_r27_Of_l0 (p0 : (List GChange)) (p1 : Int) : Nat → Int → Int → Option Int
  | 0, _, _ => none
  | fu_0 + 1, y5_0, y6_0 =>
    cond (decide (y6_0 < ((List.length p0 : Nat) : Int)))
    (Option.bind (geti p0 y6_0) fun x15_2 =>
    Option.bind (m_r27_Leads x15_2.Loc p1) fun r19_2 =>
    cond r19_2
    (Option.bind (geti p0 y6_0) fun x24_2 =>
    Option.bind (geti p0 y6_0) fun x29_2 =>
    Option.bind (m_r26_At p0 x24_2.Loc x29_2.Time) fun r32_2 =>
    cond (decide ((0 : Int) < r32_2))
    (Option.bind (geti p0 y6_0) fun x38_3 =>
    m_r27_Of_l0 p0 p1 fu_0 (min y5_0 x38_3.Time) (IntKind.i64.wrap (y6_0 + 1)))
    (m_r27_Of_l0 p0 p1 fu_0 y5_0 (IntKind.i64.wrap (y6_0 + 1))))
    (m_r27_Of_l0 p0 p1 fu_0 y5_0 (IntKind.i64.wrap (y6_0 + 1))))
    (some (max 0 y5_0))
def m_r27_Of (p0 : (List GChange)) (p1 : Int) : Option Int :=
  m_r27_Of_l0 p0 p1 1152921504606846976 1099511627777 0

def m_r29_Front (p0 : GNet_) (p1 : Int) (p2 : Int) : Option Int :=
  Option.bind (m_r29_there p0 p1) fun r9_0 =>
  cond (!r9_0)
  (some 0)
  (Option.bind (geti p0.Views p1) fun x14_1 =>
  Option.bind (m_r27_Of x14_1 p2) fun r17_1 =>
  some r17_1)

def m_r29_Truth_l6 (p0 : GNet_) : Nat → (List GChange) → Int → Option (List GChange)
  | 0, _, _ => none
  | fu_6 + 1, y5_6, y7_6 =>
    cond (decide (y7_6 < ((List.length p0.Pending : Nat) : Int)))
    (Option.bind (geti p0.Pending y7_6) fun x51_8 =>
    Option.bind (m_r26_Merge y5_6 x51_8) fun r53_8 =>
    m_r29_Truth_l6 p0 fu_6 r53_8 (IntKind.i64.wrap (y7_6 + 1)))
    (some y5_6)
def m_r29_Truth_l2 (p0 : GNet_) (p1 : Int) : Nat → (List GChange) → Int → Option (List GChange)
  | 0, _, _ => none
  | fu_2 + 1, y5_2, y6_2 =>
    cond (decide (y6_2 < ((List.length p0.On : Nat) : Int)))
    (Option.bind (geti p0.On y6_2) fun x27_4 =>
    cond (decide (x27_4.To = p1))
    (Option.bind (geti p0.On y6_2) fun x36_5 =>
    Option.bind (m_r26_Merge y5_2 x36_5.L) fun r39_5 =>
    m_r29_Truth_l2 p0 p1 fu_2 r39_5 (IntKind.i64.wrap (y6_2 + 1)))
    (m_r29_Truth_l2 p0 p1 fu_2 y5_2 (IntKind.i64.wrap (y6_2 + 1))))
    (m_r29_Truth_l6 p0 1152921504606846976 y5_2 0)
def m_r29_Truth (p0 : GNet_) (p1 : Int) : Option (List GChange) :=
  Option.bind (m_r29_there p0 p1) fun r10_0 =>
  cond (!r10_0)
  (some ([] : List GChange))
  (Option.bind (geti p0.Views p1) fun x15_1 =>
  m_r29_Truth_l2 p0 p1 1152921504606846976 x15_1 0)

def m_w29_ViewDoes_j19 : Option Bool :=
  some false
def m_w29_ViewDoes_j17 (p2 : (List GOp_)) (y11_5 : Int) (k_m_w29_ViewDoes_l5 : Int → (List (List GChange)) → (List (List GChange)) → (Option (List (GArr2_Int × (List (List GChange))))) → Int → (List (List GChange)) → (List (List GChange)) → (List GBatch) → Int → Option Bool) (y7_d_17 : GNet) (y8_17 : Int) (y9_d_17 : GNet_) (y10_17 : Int) : Option Bool :=
  cond (decide (y8_17 ≠ y10_17))
  (m_w29_ViewDoes_j19 )
  (Option.bind (m_w29_Back y7_d_17) fun r155_18 =>
  Option.bind (m_r29_Same r155_18 y9_d_17) fun r157_18 =>
  cond (!r157_18)
  (m_w29_ViewDoes_j19 )
  (Option.bind (geti p2 y11_5) fun x164_18 =>
  Option.bind (geti p2 y11_5) fun x169_18 =>
  Option.bind (m_view_Net_Waits y7_d_17 x164_18.A x169_18.B) fun r172_18 =>
  Option.bind (geti p2 y11_5) fun x176_18 =>
  Option.bind (geti p2 y11_5) fun x181_18 =>
  Option.bind (m_r29_Waits y9_d_17 x176_18.A x181_18.B) fun r184_18 =>
  cond (decide (r172_18 ≠ r184_18))
  (m_w29_ViewDoes_j19 )
  (Option.bind (m_view_Net_Idle y7_d_17) fun r189_18 =>
  Option.bind (m_r29_Idle y9_d_17) fun r191_18 =>
  cond (decide (r189_18 ≠ r191_18))
  (m_w29_ViewDoes_j19 )
  (Option.bind (geti p2 y11_5) fun x198_18 =>
  Option.bind (geti p2 y11_5) fun x203_18 =>
  Option.bind (m_view_Net_Front y7_d_17 x198_18.A x203_18.B) fun r206_18 =>
  Option.bind (geti p2 y11_5) fun x210_18 =>
  Option.bind (geti p2 y11_5) fun x215_18 =>
  Option.bind (m_r29_Front y9_d_17 x210_18.A x215_18.B) fun r218_18 =>
  cond (decide (r206_18 ≠ r218_18))
  (some false)
  (Option.bind (geti p2 y11_5) fun x224_20 =>
  Option.bind (m_view_Net_Truth y7_d_17 x224_20.A) fun r227_20 =>
  Option.bind (m_w26_Back r227_20) fun r228_20 =>
  Option.bind (geti p2 y11_5) fun x232_20 =>
  Option.bind (m_r29_Truth y9_d_17 x232_20.A) fun r235_20 =>
  Option.bind (m_r26_Same r228_20 r235_20) fun r236_20 =>
  cond (!r236_20)
  (some false)
  (Option.bind (m_view_Same y7_d_17 y7_d_17) fun r241_20 =>
  cond (!r241_20)
  (some false)
  (k_m_w29_ViewDoes_l5 y7_d_17.Cap y7_d_17.Views y7_d_17.Pending y7_d_17.Links y9_d_17.Cap y9_d_17.Views y9_d_17.Pending y9_d_17.On (IntKind.i64.wrap (y11_5 + 1)))))))))
def m_w29_ViewDoes_l5 (p2 : (List GOp_)) : Nat → Int → (List (List GChange)) → (List (List GChange)) → (Option (List (GArr2_Int × (List (List GChange))))) → Int → (List (List GChange)) → (List (List GChange)) → (List GBatch) → Int → Option Bool
  | 0, _, _, _, _, _, _, _, _, _ => none
  | fu_5 + 1, y7_d_0_5, y7_d_1_5, y7_d_2_5, y7_d_3_5, y9_d_0_5, y9_d_1_5, y9_d_2_5, y9_d_3_5, y11_5 =>
    cond (decide (y11_5 < ((List.length p2 : Nat) : Int)))
    (Option.bind (geti p2 y11_5) fun x51_7 =>
    Option.bind (m_w26_Over x51_7.L) fun r54_7 =>
    cond (decide ((0 : Int) < r54_7))
    (Option.bind m_w29_awake fun r56_8 =>
    some r56_8)
    (Option.bind (geti p2 y11_5) fun x59_9 =>
    cond (decide (((x59_9.Kind.toNat : Nat) : Int) = 0))
    (Option.bind (geti p2 y11_5) fun x67_10 =>
    Option.bind (geti p2 y11_5) fun x72_10 =>
    Option.bind (m_w26_Own x72_10.L) fun r75_10 =>
    Option.bind (m_view_Net_Note (GNet.mk y7_d_0_5 y7_d_1_5 y7_d_2_5 y7_d_3_5) x67_10.A r75_10) fun r76_10 =>
    Option.bind (geti p2 y11_5) fun x83_11 =>
    Option.bind (geti p2 y11_5) fun x88_11 =>
    Option.bind (m_r29_Note (GNet_.mk y9_d_0_5 y9_d_1_5 y9_d_2_5 y9_d_3_5) x83_11.A x88_11.L) fun r91_11 =>
    m_w29_ViewDoes_j17 p2 y11_5 (fun y7_d_0_5 y7_d_1_5 y7_d_2_5 y7_d_3_5 y9_d_0_5 y9_d_1_5 y9_d_2_5 y9_d_3_5 y11_5 => m_w29_ViewDoes_l5 p2 fu_5 y7_d_0_5 y7_d_1_5 y7_d_2_5 y7_d_3_5 y9_d_0_5 y9_d_1_5 y9_d_2_5 y9_d_3_5 y11_5) r76_10.1 r76_10.2 r91_11.1 r91_11.2)
    (Option.bind (geti p2 y11_5) fun x96_12 =>
    cond (decide (((x96_12.Kind.toNat : Nat) : Int) = 1))
    (Option.bind (geti p2 y11_5) fun x104_13 =>
    Option.bind (m_view_Net_Flush (GNet.mk y7_d_0_5 y7_d_1_5 y7_d_2_5 y7_d_3_5) x104_13.A) fun r107_13 =>
    Option.bind (geti p2 y11_5) fun x114_14 =>
    Option.bind (m_r29_Flush (GNet_.mk y9_d_0_5 y9_d_1_5 y9_d_2_5 y9_d_3_5) x114_14.A) fun r117_14 =>
    m_w29_ViewDoes_j17 p2 y11_5 (fun y7_d_0_5 y7_d_1_5 y7_d_2_5 y7_d_3_5 y9_d_0_5 y9_d_1_5 y9_d_2_5 y9_d_3_5 y11_5 => m_w29_ViewDoes_l5 p2 fu_5 y7_d_0_5 y7_d_1_5 y7_d_2_5 y7_d_3_5 y9_d_0_5 y9_d_1_5 y9_d_2_5 y9_d_3_5 y11_5) r107_13.1 r107_13.2 r117_14.1 r117_14.2)
    (Option.bind (geti p2 y11_5) fun x124_15 =>
    Option.bind (geti p2 y11_5) fun x129_15 =>
    Option.bind (m_view_Net_Deliver (GNet.mk y7_d_0_5 y7_d_1_5 y7_d_2_5 y7_d_3_5) x124_15.A x129_15.B) fun r132_15 =>
    Option.bind (geti p2 y11_5) fun x139_16 =>
    Option.bind (geti p2 y11_5) fun x144_16 =>
    Option.bind (m_r29_Deliver (GNet_.mk y9_d_0_5 y9_d_1_5 y9_d_2_5 y9_d_3_5) x139_16.A x144_16.B) fun r147_16 =>
    m_w29_ViewDoes_j17 p2 y11_5 (fun y7_d_0_5 y7_d_1_5 y7_d_2_5 y7_d_3_5 y9_d_0_5 y9_d_1_5 y9_d_2_5 y9_d_3_5 y11_5 => m_w29_ViewDoes_l5 p2 fu_5 y7_d_0_5 y7_d_1_5 y7_d_2_5 y7_d_3_5 y9_d_0_5 y9_d_1_5 y9_d_2_5 y9_d_3_5 y11_5) r132_15.1 r132_15.2 r147_16.1 r147_16.2))))
    (Option.bind m_w29_awake fun r244_21 =>
    some r244_21)
def m_w29_ViewDoes (p0 : GArr2_Int) (p1 : (List GChange)) (p2 : (List GOp_)) : Option Bool :=
  Option.bind (m_w26_Over p1) fun r13_0 =>
  cond (decide ((0 : Int) < r13_0))
  (Option.bind m_w29_awake fun r20_1 =>
  some r20_1)
  (cond (decide ((14 : Int) < ((List.length p2 : Nat) : Int)))
  (Option.bind m_w29_awake fun r20_2 =>
  some r20_2)
  (Option.bind (m_w26_Own p1) fun r27_3 =>
  Option.bind (m_view_New p0.a0 p0.a1 r27_3) fun r28_3 =>
  Option.bind (m_r29_New p0.a0 p0.a1 p1) fun r37_4 =>
  cond (decide (r28_3.2 ≠ r37_4.2))
  (some false)
  (m_w29_ViewDoes_l5 p2 1152921504606846976 r28_3.1.Cap r28_3.1.Views r28_3.1.Pending r28_3.1.Links r37_4.1.Cap r37_4.1.Views r37_4.1.Pending r37_4.1.On 0)))

end Go.Proofs.Ytcpageegmpjkiaa.K
