/- models of the program's functions -/
import Derived.Test.YthcilaomjkaciaaLT
namespace Go.Proofs.Ythcilaomjkaciaa.K
open Go.RowKit Go.Lib
set_option linter.unusedVariables false
set_option linter.unusedSimpArgs false

def m_telltalelaw26_Over_l1 (p0 : (List GChange)) : Nat → Int → Option Int
  | 0, _ => none
  | fu_1 + 1, y3_1 =>
    cond (decide (y3_1 < ((List.length p0 : Nat) : Int)))
    (Option.bind (geti p0 y3_1) fun x15_3 =>
    cond (decide (x15_3.N < (-1099511627776)))
    (some 1)
    (Option.bind (geti p0 y3_1) fun x22_3 =>
    cond (decide ((1099511627776 : Int) < x22_3.N))
    (some 1)
    (m_telltalelaw26_Over_l1 p0 fu_1 (IntKind.i64.wrap (y3_1 + 1)))))
    (some 0)
def m_telltalelaw26_Over (p0 : (List GChange)) : Option Int :=
  cond (decide ((40 : Int) < ((List.length p0 : Nat) : Int)))
  (some 1)
  (m_telltalelaw26_Over_l1 p0 1152921504606846976 0)

def m_cmp_isNaN_int (p0 : Int) : Option Bool :=
  some (decide (p0 ≠ p0))

def m_cmp_Compare_int (p0 : Int) (p1 : Int) : Option Int :=
  Option.bind (m_cmp_isNaN_int p0) fun r8_0 =>
  Option.bind (m_cmp_isNaN_int p1) fun r10_1 =>
  cond r8_0
  (cond r10_1
  (some 0)
  (some (-1)))
  (cond r10_1
  (some 1)
  (cond (decide (p0 < p1))
  (some (-1))
  (cond (decide (p1 < p0))
  (some 1)
  (some 0))))

def m_cmp_Or_int_l1 (p0 : (List Int)) : Nat → Int → Option Int
  | 0, _ => none
  | fu_1 + 1, y8_1 =>
    cond (decide (y8_1 < ((List.length p0 : Nat) : Int)))
    (Option.bind (geti p0 y8_1) fun x10_2 =>
    cond (decide (x10_2 ≠ 0))
    (some x10_2)
    (m_cmp_Or_int_l1 p0 fu_1 (IntKind.i64.wrap (y8_1 + 1))))
    (some 0)
def m_cmp_Or_int (p0 : (List Int)) : Option Int :=
  m_cmp_Or_int_l1 p0 1152921504606846976 0

def m_tally_order (p0 : GChange) (p1 : GChange) : Option Int :=
  Option.bind (m_cmp_Compare_int p0.Loc p1.Loc) fun r9_0 =>
  Option.bind (m_cmp_Compare_int p0.Time p1.Time) fun r14_0 =>
  Option.bind (m_cmp_Or_int ([r9_0, r14_0] : List Int)) fun r16_0 =>
  some r16_0

def m_slices_insertionSortCmpFunc_tally_Change__tally_order_l1 (p1 : Int) (y8_0 : Int) (k_m_slices_insertionSortCmpFunc_tally_Change__tally_order_l0 : (List GChange) → Int → Option (List GChange)) : Nat → (List GChange) → Int → Option (List GChange)
  | 0, _, _ => none
  | fu_1 + 1, y0_1, y9_1 =>
    cond (decide (p1 < y9_1))
    (Option.bind (geti y0_1 y9_1) fun x25_2 =>
    Option.bind (geti y0_1 (IntKind.i64.wrap (y9_1 - 1))) fun x30_2 =>
    Option.bind (m_tally_order x25_2 x30_2) fun r32_2 =>
    cond (decide (r32_2 < 0))
    (Option.bind (geti y0_1 (IntKind.i64.wrap (y9_1 - 1))) fun x45_3 =>
    Option.bind (geti y0_1 y9_1) fun x49_3 =>
    Option.bind (geti y0_1 y9_1) fun x51_3 =>
    Option.bind (geti (List.set y0_1 (Int.toNat y9_1) x45_3) (IntKind.i64.wrap (y9_1 - 1))) fun x52_3 =>
    m_slices_insertionSortCmpFunc_tally_Change__tally_order_l1 p1 y8_0 k_m_slices_insertionSortCmpFunc_tally_Change__tally_order_l0 fu_1 (List.set (List.set y0_1 (Int.toNat y9_1) x45_3) (Int.toNat (IntKind.i64.wrap (y9_1 - 1))) x49_3) (IntKind.i64.wrap (y9_1 - 1)))
    (k_m_slices_insertionSortCmpFunc_tally_Change__tally_order_l0 y0_1 (IntKind.i64.wrap (y8_0 + 1))))
    (k_m_slices_insertionSortCmpFunc_tally_Change__tally_order_l0 y0_1 (IntKind.i64.wrap (y8_0 + 1)))
def m_slices_insertionSortCmpFunc_tally_Change__tally_order_l0 (p1 : Int) (p2 : Int) : Nat → (List GChange) → Int → Option (List GChange)
  | 0, _, _ => none
  | fu_0 + 1, y0_0, y8_0 =>
    cond (decide (y8_0 < p2))
    (m_slices_insertionSortCmpFunc_tally_Change__tally_order_l1 p1 y8_0 (fun y0_0 y8_0 => m_slices_insertionSortCmpFunc_tally_Change__tally_order_l0 p1 p2 fu_0 y0_0 y8_0) 1152921504606846976 y0_0 y8_0)
    (some y0_0)
def m_slices_insertionSortCmpFunc_tally_Change__tally_order (p0 : (List GChange)) (p1 : Int) (p2 : Int) : Option (List GChange) :=
  m_slices_insertionSortCmpFunc_tally_Change__tally_order_l0 p1 p2 1152921504606846976 p0 (IntKind.i64.wrap (p1 + 1))

def m_slices_swapRangeCmpFunc_tally_Change__tally_order_l0 (p1 : Int) (p2 : Int) (p3 : Int) : Nat → (List GChange) → Int → Option (List GChange)
  | 0, _, _ => none
  | fu_0 + 1, y0_0, y10_0 =>
    cond (decide (y10_0 < p3))
    (Option.bind (geti y0_0 (IntKind.i64.wrap (p2 + y10_0))) fun x28_1 =>
    Option.bind (geti y0_0 (IntKind.i64.wrap (p1 + y10_0))) fun x34_1 =>
    Option.bind (geti y0_0 (IntKind.i64.wrap (p1 + y10_0))) fun x36_1 =>
    Option.bind (geti (List.set y0_0 (Int.toNat (IntKind.i64.wrap (p1 + y10_0))) x28_1) (IntKind.i64.wrap (p2 + y10_0))) fun x37_1 =>
    m_slices_swapRangeCmpFunc_tally_Change__tally_order_l0 p1 p2 p3 fu_0 (List.set (List.set y0_0 (Int.toNat (IntKind.i64.wrap (p1 + y10_0))) x28_1) (Int.toNat (IntKind.i64.wrap (p2 + y10_0))) x34_1) (IntKind.i64.wrap (y10_0 + 1)))
    (some y0_0)
def m_slices_swapRangeCmpFunc_tally_Change__tally_order (p0 : (List GChange)) (p1 : Int) (p2 : Int) (p3 : Int) : Option (List GChange) :=
  m_slices_swapRangeCmpFunc_tally_Change__tally_order_l0 p1 p2 p3 1152921504606846976 p0 0

def m_slices_rotateCmpFunc_tally_Change__tally_order_l0 (p2 : Int) : Nat → (List GChange) → Int → Int → Option (List GChange)
  | 0, _, _, _ => none
  | fu_0 + 1, y0_0, y10_0, y11_0 =>
    cond (decide (y10_0 ≠ y11_0))
    (cond (decide (y11_0 < y10_0))
    (Option.bind (m_slices_swapRangeCmpFunc_tally_Change__tally_order y0_0 (IntKind.i64.wrap (p2 - y10_0)) p2 y11_0) fun r31_1 =>
    m_slices_rotateCmpFunc_tally_Change__tally_order_l0 p2 fu_0 r31_1 (IntKind.i64.wrap (y10_0 - y11_0)) y11_0)
    (Option.bind (m_slices_swapRangeCmpFunc_tally_Change__tally_order y0_0 (IntKind.i64.wrap (p2 - y10_0)) (IntKind.i64.wrap ((IntKind.i64.wrap (p2 + y11_0)) - y10_0)) y10_0) fun r46_2 =>
    m_slices_rotateCmpFunc_tally_Change__tally_order_l0 p2 fu_0 r46_2 y10_0 (IntKind.i64.wrap (y11_0 - y10_0))))
    (Option.bind (m_slices_swapRangeCmpFunc_tally_Change__tally_order y0_0 (IntKind.i64.wrap (p2 - y10_0)) p2 y10_0) fun r57_3 =>
    some r57_3)
def m_slices_rotateCmpFunc_tally_Change__tally_order (p0 : (List GChange)) (p1 : Int) (p2 : Int) (p3 : Int) : Option (List GChange) :=
  m_slices_rotateCmpFunc_tally_Change__tally_order_l0 p2 1152921504606846976 p0 (IntKind.i64.wrap (p2 - p1)) (IntKind.i64.wrap (p3 - p2))

def m_slices_symMergeCmpFunc_tally_Change__tally_order_l4 (y10_0 : Int) : Nat → (List GChange) → Int → Option (List GChange)
  | 0, _, _ => none
  | fu_4 + 1, y0_4, y13_4 =>
    cond (decide (y13_4 < (IntKind.i64.wrap (y10_0 - 1))))
    (Option.bind (geti y0_4 (IntKind.i64.wrap (y13_4 + 1))) fun x69_5 =>
    Option.bind (geti y0_4 y13_4) fun x73_5 =>
    Option.bind (geti y0_4 y13_4) fun x75_5 =>
    Option.bind (geti (List.set y0_4 (Int.toNat y13_4) x69_5) (IntKind.i64.wrap (y13_4 + 1))) fun x76_5 =>
    m_slices_symMergeCmpFunc_tally_Change__tally_order_l4 y10_0 fu_4 (List.set (List.set y0_4 (Int.toNat y13_4) x69_5) (Int.toNat (IntKind.i64.wrap (y13_4 + 1))) x73_5) (IntKind.i64.wrap (y13_4 + 1)))
    (some y0_4)
def m_slices_symMergeCmpFunc_tally_Change__tally_order_l0 (p0 : (List GChange)) (p1 : Int) : Nat → Int → Int → Option (List GChange)
  | 0, _, _ => none
  | fu_0 + 1, y10_0, y11_0 =>
    cond (decide (y10_0 < y11_0))
    (Option.bind (geti p0 (IntKind.i64.wrap (Int.fdiv (IntKind.u64.wrap (IntKind.i64.wrap (y10_0 + y11_0))) (2 ^ 1)))) fun x43_2 =>
    Option.bind (geti p0 p1) fun x47_2 =>
    Option.bind (m_tally_order x43_2 x47_2) fun r49_2 =>
    cond (decide (r49_2 < 0))
    (Option.bind (some ((IntKind.i64.wrap ((IntKind.i64.wrap (Int.fdiv (IntKind.u64.wrap (IntKind.i64.wrap (y10_0 + y11_0))) (2 ^ 1))) + 1)))) fun v52_3 =>
    m_slices_symMergeCmpFunc_tally_Change__tally_order_l0 p0 p1 fu_0 v52_3 y11_0)
    (m_slices_symMergeCmpFunc_tally_Change__tally_order_l0 p0 p1 fu_0 y10_0 (IntKind.i64.wrap (Int.fdiv (IntKind.u64.wrap (IntKind.i64.wrap (y10_0 + y11_0))) (2 ^ 1)))))
    (m_slices_symMergeCmpFunc_tally_Change__tally_order_l4 y10_0 1152921504606846976 p0 p1)
def m_slices_symMergeCmpFunc_tally_Change__tally_order_l10 (y14_6 : Int) : Nat → (List GChange) → Int → Option (List GChange)
  | 0, _, _ => none
  | fu_10 + 1, y0_10, y17_10 =>
    cond (decide (y14_6 < y17_10))
    (Option.bind (geti y0_10 (IntKind.i64.wrap (y17_10 - 1))) fun x121_11 =>
    Option.bind (geti y0_10 y17_10) fun x125_11 =>
    Option.bind (geti y0_10 y17_10) fun x127_11 =>
    Option.bind (geti (List.set y0_10 (Int.toNat y17_10) x121_11) (IntKind.i64.wrap (y17_10 - 1))) fun x128_11 =>
    m_slices_symMergeCmpFunc_tally_Change__tally_order_l10 y14_6 fu_10 (List.set (List.set y0_10 (Int.toNat y17_10) x121_11) (Int.toNat (IntKind.i64.wrap (y17_10 - 1))) x125_11) (IntKind.i64.wrap (y17_10 - 1)))
    (some y0_10)
def m_slices_symMergeCmpFunc_tally_Change__tally_order_l6 (p0 : (List GChange)) (p2 : Int) : Nat → Int → Int → Option (List GChange)
  | 0, _, _ => none
  | fu_6 + 1, y14_6, y15_6 =>
    cond (decide (y14_6 < y15_6))
    (Option.bind (geti p0 p2) fun x95_8 =>
    Option.bind (geti p0 (IntKind.i64.wrap (Int.fdiv (IntKind.u64.wrap (IntKind.i64.wrap (y14_6 + y15_6))) (2 ^ 1)))) fun x99_8 =>
    Option.bind (m_tally_order x95_8 x99_8) fun r101_8 =>
    cond (!decide (r101_8 < 0))
    (Option.bind (some ((IntKind.i64.wrap ((IntKind.i64.wrap (Int.fdiv (IntKind.u64.wrap (IntKind.i64.wrap (y14_6 + y15_6))) (2 ^ 1))) + 1)))) fun v105_9 =>
    m_slices_symMergeCmpFunc_tally_Change__tally_order_l6 p0 p2 fu_6 v105_9 y15_6)
    (m_slices_symMergeCmpFunc_tally_Change__tally_order_l6 p0 p2 fu_6 y14_6 (IntKind.i64.wrap (Int.fdiv (IntKind.u64.wrap (IntKind.i64.wrap (y14_6 + y15_6))) (2 ^ 1)))))
    (m_slices_symMergeCmpFunc_tally_Change__tally_order_l10 y14_6 1152921504606846976 p0 p2)
def m_slices_symMergeCmpFunc_tally_Change__tally_order_j24 (p1 : Int) (p3 : Int) (v137_13 : Int) (y20_15 : Int) (k_rec : (List GChange) → Int → Int → Int → Option (List GChange)) (y0_24 : List GChange) : Option (List GChange) :=
  Option.bind (some (decide ((IntKind.i64.wrap (Int.fdiv (IntKind.u64.wrap (IntKind.i64.wrap (p1 + p3))) (2 ^ 1))) < (IntKind.i64.wrap (v137_13 - y20_15))))) fun v208_25 =>
  cond v208_25
  (cond (decide ((IntKind.i64.wrap (v137_13 - y20_15)) < p3))
  (Option.bind (k_rec y0_24 (IntKind.i64.wrap (Int.fdiv (IntKind.u64.wrap (IntKind.i64.wrap (p1 + p3))) (2 ^ 1))) (IntKind.i64.wrap (v137_13 - y20_15)) p3) fun r219_26 =>
  some r219_26)
  (some y0_24))
  (some y0_24)
def m_slices_symMergeCmpFunc_tally_Change__tally_order_j21 (p1 : Int) (p3 : Int) (v137_13 : Int) (y20_15 : Int) (k_rec : (List GChange) → Int → Int → Int → Option (List GChange)) (y0_21 : List GChange) : Option (List GChange) :=
  cond (decide (p1 < y20_15))
  (cond (decide (y20_15 < (IntKind.i64.wrap (Int.fdiv (IntKind.u64.wrap (IntKind.i64.wrap (p1 + p3))) (2 ^ 1)))))
  (Option.bind (k_rec y0_21 p1 y20_15 (IntKind.i64.wrap (Int.fdiv (IntKind.u64.wrap (IntKind.i64.wrap (p1 + p3))) (2 ^ 1)))) fun r205_23 =>
  m_slices_symMergeCmpFunc_tally_Change__tally_order_j24 p1 p3 v137_13 y20_15 k_rec r205_23)
  (m_slices_symMergeCmpFunc_tally_Change__tally_order_j24 p1 p3 v137_13 y20_15 k_rec y0_21))
  (m_slices_symMergeCmpFunc_tally_Change__tally_order_j24 p1 p3 v137_13 y20_15 k_rec y0_21)
def m_slices_symMergeCmpFunc_tally_Change__tally_order_l15 (p0 : (List GChange)) (p1 : Int) (p2 : Int) (p3 : Int) (v137_13 : Int) (k_rec : (List GChange) → Int → Int → Int → Option (List GChange)) : Nat → Int → Int → Option (List GChange)
  | 0, _, _ => none
  | fu_15 + 1, y20_15, y21_15 =>
    cond (decide (y20_15 < y21_15))
    (Option.bind (some ((IntKind.i64.wrap ((IntKind.i64.wrap (v137_13 - 1)) - (IntKind.i64.wrap (Int.fdiv (IntKind.u64.wrap (IntKind.i64.wrap (y20_15 + y21_15))) (2 ^ 1))))))) fun v162_17 =>
    Option.bind (geti p0 v162_17) fun x163_17 =>
    Option.bind (geti p0 (IntKind.i64.wrap (Int.fdiv (IntKind.u64.wrap (IntKind.i64.wrap (y20_15 + y21_15))) (2 ^ 1)))) fun x167_17 =>
    Option.bind (m_tally_order x163_17 x167_17) fun r169_17 =>
    cond (!decide (r169_17 < 0))
    (Option.bind (some ((IntKind.i64.wrap ((IntKind.i64.wrap (Int.fdiv (IntKind.u64.wrap (IntKind.i64.wrap (y20_15 + y21_15))) (2 ^ 1))) + 1)))) fun v173_18 =>
    m_slices_symMergeCmpFunc_tally_Change__tally_order_l15 p0 p1 p2 p3 v137_13 k_rec fu_15 v173_18 y21_15)
    (m_slices_symMergeCmpFunc_tally_Change__tally_order_l15 p0 p1 p2 p3 v137_13 k_rec fu_15 y20_15 (IntKind.i64.wrap (Int.fdiv (IntKind.u64.wrap (IntKind.i64.wrap (y20_15 + y21_15))) (2 ^ 1)))))
    (cond (decide (y20_15 < p2))
    (cond (decide (p2 < (IntKind.i64.wrap (v137_13 - y20_15))))
    (Option.bind (m_slices_rotateCmpFunc_tally_Change__tally_order p0 y20_15 p2 (IntKind.i64.wrap (v137_13 - y20_15))) fun r191_20 =>
    m_slices_symMergeCmpFunc_tally_Change__tally_order_j21 p1 p3 v137_13 y20_15 k_rec r191_20)
    (m_slices_symMergeCmpFunc_tally_Change__tally_order_j21 p1 p3 v137_13 y20_15 k_rec p0))
    (m_slices_symMergeCmpFunc_tally_Change__tally_order_j21 p1 p3 v137_13 y20_15 k_rec p0))
def m_slices_symMergeCmpFunc_tally_Change__tally_order_j14 (p0 : (List GChange)) (p1 : Int) (p2 : Int) (p3 : Int) (v137_13 : Int) (k_rec : (List GChange) → Int → Int → Int → Option (List GChange)) (y20_14 : Int) (y21_14 : Int) : Option (List GChange) :=
  m_slices_symMergeCmpFunc_tally_Change__tally_order_l15 p0 p1 p2 p3 v137_13 k_rec 1152921504606846976 y20_14 y21_14
def m_slices_symMergeCmpFunc_tally_Change__tally_order : Nat → (List GChange) → Int → Int → Int → Option (List GChange)
  | 0, _, _, _, _ => none
  | fuR + 1, p0, p1, p2, p3 =>
    cond (decide ((IntKind.i64.wrap (p2 - p1)) = 1))
    (m_slices_symMergeCmpFunc_tally_Change__tally_order_l0 p0 p1 1152921504606846976 p2 p3)
    (cond (decide ((IntKind.i64.wrap (p3 - p2)) = 1))
    (m_slices_symMergeCmpFunc_tally_Change__tally_order_l6 p0 p2 1152921504606846976 p1 p2)
    (Option.bind (some ((IntKind.i64.wrap ((IntKind.i64.wrap (Int.fdiv (IntKind.u64.wrap (IntKind.i64.wrap (p1 + p3))) (2 ^ 1))) + p2)))) fun v137_13 =>
    cond (decide ((IntKind.i64.wrap (Int.fdiv (IntKind.u64.wrap (IntKind.i64.wrap (p1 + p3))) (2 ^ 1))) < p2))
    (m_slices_symMergeCmpFunc_tally_Change__tally_order_j14 p0 p1 p2 p3 v137_13 (fun p0 p1 p2 p3 => m_slices_symMergeCmpFunc_tally_Change__tally_order fuR p0 p1 p2 p3) (IntKind.i64.wrap (v137_13 - p3)) (IntKind.i64.wrap (Int.fdiv (IntKind.u64.wrap (IntKind.i64.wrap (p1 + p3))) (2 ^ 1))))
    (m_slices_symMergeCmpFunc_tally_Change__tally_order_j14 p0 p1 p2 p3 v137_13 (fun p0 p1 p2 p3 => m_slices_symMergeCmpFunc_tally_Change__tally_order fuR p0 p1 p2 p3) p1 p2)))

def m_slices_stableCmpFunc_tally_Change__tally_order_l4 (p1 : Int) (y6_3 : Int) (k_m_slices_stableCmpFunc_tally_Change__tally_order_l3 : (List GChange) → Int → Option (List GChange)) : Nat → (List GChange) → Int → Int → Option (List GChange)
  | 0, _, _, _ => none
  | fu_4 + 1, y0_4, y7_4, y8_4 =>
    cond (decide (y8_4 ≤ p1))
    (Option.bind (m_slices_symMergeCmpFunc_tally_Change__tally_order 1152921504606846976 y0_4 y7_4 (IntKind.i64.wrap (y7_4 + y6_3)) y8_4) fun r43_5 =>
    m_slices_stableCmpFunc_tally_Change__tally_order_l4 p1 y6_3 k_m_slices_stableCmpFunc_tally_Change__tally_order_l3 fu_4 r43_5 y8_4 (IntKind.i64.wrap (y8_4 + (IntKind.i64.wrap (2 * y6_3)))))
    (cond (decide ((IntKind.i64.wrap (y7_4 + y6_3)) < p1))
    (Option.bind (m_slices_symMergeCmpFunc_tally_Change__tally_order 1152921504606846976 y0_4 y7_4 (IntKind.i64.wrap (y7_4 + y6_3)) p1) fun r60_6 =>
    k_m_slices_stableCmpFunc_tally_Change__tally_order_l3 r60_6 (IntKind.i64.wrap (y6_3 * 2)))
    (k_m_slices_stableCmpFunc_tally_Change__tally_order_l3 y0_4 (IntKind.i64.wrap (y6_3 * 2))))
def m_slices_stableCmpFunc_tally_Change__tally_order_l3 (p1 : Int) : Nat → (List GChange) → Int → Option (List GChange)
  | 0, _, _ => none
  | fu_3 + 1, y0_3, y6_3 =>
    cond (decide (y6_3 < p1))
    (m_slices_stableCmpFunc_tally_Change__tally_order_l4 p1 y6_3 (fun y0_3 y6_3 => m_slices_stableCmpFunc_tally_Change__tally_order_l3 p1 fu_3 y0_3 y6_3) 1152921504606846976 y0_3 0 (IntKind.i64.wrap (2 * y6_3)))
    (some y0_3)
def m_slices_stableCmpFunc_tally_Change__tally_order_l0 (p1 : Int) : Nat → (List GChange) → Int → Int → Option (List GChange)
  | 0, _, _, _ => none
  | fu_0 + 1, y0_0, y7_0, y8_0 =>
    cond (decide (y8_0 ≤ p1))
    (Option.bind (m_slices_insertionSortCmpFunc_tally_Change__tally_order y0_0 y7_0 y8_0) fun r18_1 =>
    m_slices_stableCmpFunc_tally_Change__tally_order_l0 p1 fu_0 r18_1 y8_0 (IntKind.i64.wrap (y8_0 + 20)))
    (Option.bind (m_slices_insertionSortCmpFunc_tally_Change__tally_order y0_0 y7_0 p1) fun r27_2 =>
    m_slices_stableCmpFunc_tally_Change__tally_order_l3 p1 1152921504606846976 r27_2 20)
def m_slices_stableCmpFunc_tally_Change__tally_order (p0 : (List GChange)) (p1 : Int) : Option (List GChange) :=
  m_slices_stableCmpFunc_tally_Change__tally_order_l0 p1 1152921504606846976 p0 0 20

def m_slices_SortStableFunc_Change__tally_order (p0 : (List GChange)) : Option (List GChange) :=
  Option.bind (m_slices_stableCmpFunc_tally_Change__tally_order p0 ((List.length p0 : Nat) : Int)) fun r8_0 =>
  some r8_0

def m_tally_Normal_1 (p0 : GChange) : Option Bool :=
  some (decide (p0.N = 0))

def m_slices_IndexFunc_Change__tally_Normal_1_l1 (p0 : (List GChange)) : Nat → Int → Option Int
  | 0, _ => none
  | fu_1 + 1, y8_1 =>
    cond (decide (y8_1 < ((List.length p0 : Nat) : Int)))
    (Option.bind (geti p0 y8_1) fun x14_2 =>
    Option.bind (m_tally_Normal_1 x14_2) fun r16_2 =>
    cond r16_2
    (some y8_1)
    (m_slices_IndexFunc_Change__tally_Normal_1_l1 p0 fu_1 (IntKind.i64.wrap (y8_1 + 1))))
    (some (-1))
def m_slices_IndexFunc_Change__tally_Normal_1 (p0 : (List GChange)) : Option Int :=
  m_slices_IndexFunc_Change__tally_Normal_1_l1 p0 1152921504606846976 0

def m_slices_DeleteFunc_Change__tally_Normal_1_l1 : Nat → (List GChange) → Int → Int → Option (List GChange)
  | 0, _, _, _ => none
  | fu_1 + 1, y0_1, y5_1, y6_1 =>
    cond (decide (y6_1 < ((List.length y0_1 : Nat) : Int)))
    (Option.bind (geti y0_1 y6_1) fun x24_3 =>
    Option.bind (m_tally_Normal_1 x24_3) fun r28_4 =>
    cond (!r28_4)
    (Option.bind (geti y0_1 y5_1) fun x33_5 =>
    m_slices_DeleteFunc_Change__tally_Normal_1_l1 fu_1 (List.set y0_1 (Int.toNat y5_1) x24_3) (IntKind.i64.wrap (y5_1 + 1)) (IntKind.i64.wrap (y6_1 + 1)))
    (m_slices_DeleteFunc_Change__tally_Normal_1_l1 fu_1 y0_1 y5_1 (IntKind.i64.wrap (y6_1 + 1))))
    (chk (0 ≤ y5_1 ∧ y5_1 < ((List.length y0_1 : Nat) : Int)) (
    Option.bind (cut (clr y0_1 (Int.toNat y5_1) ((GChange.mk 0 0 0) : GChange)) 0 y5_1) fun s41_7 =>
    some s41_7))
def m_slices_DeleteFunc_Change__tally_Normal_1 (p0 : (List GChange)) : Option (List GChange) :=
  Option.bind (m_slices_IndexFunc_Change__tally_Normal_1 p0) fun r10_0 =>
  cond (decide (r10_0 = (-1)))
  (some p0)
  (m_slices_DeleteFunc_Change__tally_Normal_1_l1  1152921504606846976 p0 r10_0 (IntKind.i64.wrap (r10_0 + 1)))

def m_tally_Normal_l4 (r14_2 : (List GChange)) : Nat → (List GChange) → Int → Option (List GChange)
  | 0, _, _ => none
  | fu_4 + 1, y4_4, y17_4 =>
    cond (decide (y17_4 < ((List.length r14_2 : Nat) : Int)))
    (Option.bind (geti r14_2 y17_4) fun x20_5 =>
    cond (decide ((0 : Int) < y17_4))
    (Option.bind (geti r14_2 (IntKind.i64.wrap (y17_4 - 1))) fun x28_7 =>
    Option.bind (m_tally_order x28_7 x20_5) fun r31_7 =>
    cond (decide (r31_7 = 0))
    (Option.bind (geti y4_4 (IntKind.i64.wrap (((List.length y4_4 : Nat) : Int) - 1))) fun x38_8 =>
    Option.bind (geti y4_4 (IntKind.i64.wrap (((List.length y4_4 : Nat) : Int) - 1))) fun x44_8 =>
    m_tally_Normal_l4 r14_2 fu_4 (List.set y4_4 (Int.toNat (IntKind.i64.wrap (((List.length y4_4 : Nat) : Int) - 1))) (GChange.mk x44_8.Loc x44_8.Time (IntKind.i64.wrap (x38_8.N + x20_5.N)))) (IntKind.i64.wrap (y17_4 + 1)))
    (Option.bind (app y4_4 ([x20_5] : List GChange)) fun a49_6 =>
    m_tally_Normal_l4 r14_2 fu_4 a49_6 (IntKind.i64.wrap (y17_4 + 1))))
    (Option.bind (app y4_4 ([x20_5] : List GChange)) fun a49_9 =>
    m_tally_Normal_l4 r14_2 fu_4 a49_9 (IntKind.i64.wrap (y17_4 + 1))))
    (Option.bind (m_slices_DeleteFunc_Change__tally_Normal_1 y4_4) fun r52_10 =>
    some r52_10)
def m_tally_Normal (p0 : (List GChange)) : Option (List GChange) :=
  Option.bind (mkl ((List.length p0 : Nat) : Int) ((GChange.mk 0 0 0) : GChange)) fun m9_0 =>
  Option.bind (cpy m9_0 p0) fun c12_1 =>
  Option.bind (m_slices_SortStableFunc_Change__tally_order c12_1) fun r14_2 =>
  m_tally_Normal_l4 r14_2 1152921504606846976 ([] : List GChange) 0

def m_front_Leads (p0 : Int) (p1 : Int) : Option Bool :=
  cond (decide ((0 : Int) ≤ p0))
  (cond (decide (p0 ≤ p1))
  (some (decide (p1 < 4)))
  (some false))
  (some false)

def m_front_Of_j4 (y11_1 : Int) (y5_1 : Int) (k_m_front_Of_l1 : Int → Int → Option Int) : Option Int :=
  k_m_front_Of_l1 y5_1 (IntKind.i64.wrap (y11_1 + 1))
def m_front_Of_l1 (p1 : Int) (r9_0 : (List GChange)) : Nat → Int → Int → Option Int
  | 0, _, _ => none
  | fu_1 + 1, y5_1, y11_1 =>
    cond (decide (y11_1 < ((List.length r9_0 : Nat) : Int)))
    (Option.bind (geti r9_0 y11_1) fun x13_2 =>
    cond (decide ((0 : Int) < x13_2.N))
    (Option.bind (m_front_Leads x13_2.Loc p1) fun r22_3 =>
    cond r22_3
    (cond (decide (x13_2.Time < y5_1))
    (m_front_Of_l1 p1 r9_0 fu_1 x13_2.Time (IntKind.i64.wrap (y11_1 + 1)))
    (m_front_Of_l1 p1 r9_0 fu_1 y5_1 (IntKind.i64.wrap (y11_1 + 1))))
    (m_front_Of_j4 y11_1 y5_1 (fun y5_1 y11_1 => m_front_Of_l1 p1 r9_0 fu_1 y5_1 y11_1)))
    (m_front_Of_j4 y11_1 y5_1 (fun y5_1 y11_1 => m_front_Of_l1 p1 r9_0 fu_1 y5_1 y11_1)))
    (some (max y5_1 0))
def m_front_Of (p0 : (List GChange)) (p1 : Int) : Option Int :=
  Option.bind (m_tally_Normal p0) fun r9_0 =>
  m_front_Of_l1 p1 r9_0 1152921504606846976 1099511627777 0

def m_front_All_l0 (p0 : (List GChange)) : Nat → GArr4_Int → Int → Option GArr4_Int
  | 0, _, _ => none
  | fu_0 + 1, y3_d_0, y5_0 =>
    cond (decide (y5_0 < 4))
    (Option.bind (m_front_Of p0 y5_0) fun r11_1 =>
    cond (decide (y5_0 = 0))
    (m_front_All_l0 p0 fu_0 (GArr4_Int.mk r11_1 y3_d_0.a1 y3_d_0.a2 y3_d_0.a3) (IntKind.i64.wrap (y5_0 + 1)))
    (cond (decide (y5_0 = 1))
    (m_front_All_l0 p0 fu_0 (GArr4_Int.mk y3_d_0.a0 r11_1 y3_d_0.a2 y3_d_0.a3) (IntKind.i64.wrap (y5_0 + 1)))
    (cond (decide (y5_0 = 2))
    (m_front_All_l0 p0 fu_0 (GArr4_Int.mk y3_d_0.a0 y3_d_0.a1 r11_1 y3_d_0.a3) (IntKind.i64.wrap (y5_0 + 1)))
    (cond (decide (y5_0 = 3))
    (m_front_All_l0 p0 fu_0 (GArr4_Int.mk y3_d_0.a0 y3_d_0.a1 y3_d_0.a2 r11_1) (IntKind.i64.wrap (y5_0 + 1)))
    (none)))))
    (some y3_d_0)
def m_front_All (p0 : (List GChange)) : Option GArr4_Int :=
  m_front_All_l0 p0 1152921504606846976 (GArr4_Int.mk 0 0 0 0) 0

def m_front_Passed (p0 : (List GChange)) (p1 : Int) (p2 : Int) : Option Bool :=
  Option.bind (m_front_Of p0 p1) fun r9_0 =>
  some (decide (p2 < r9_0))

def m_front_Drops_l1 (r11_0 : GArr4_Int) (r9_0 : GArr4_Int) : Nat → Int → Option Bool
  | 0, _ => none
  | fu_1 + 1, y12_1 =>
    cond (decide (y12_1 < 4))
    (Option.bind (geti ([r11_0.a0, r11_0.a1, r11_0.a2, r11_0.a3] : List Int) y12_1) fun x16_2 =>
    Option.bind (geti ([r9_0.a0, r9_0.a1, r9_0.a2, r9_0.a3] : List Int) y12_1) fun x19_2 =>
    cond (decide (x16_2 < x19_2))
    (some true)
    (m_front_Drops_l1 r11_0 r9_0 fu_1 (IntKind.i64.wrap (y12_1 + 1))))
    (some false)
def m_front_Drops (p0 : (List GChange)) (p1 : (List GChange)) : Option Bool :=
  Option.bind (m_front_All p0) fun r9_0 =>
  Option.bind (m_front_All p1) fun r11_0 =>
  m_front_Drops_l1 r11_0 r9_0 1152921504606846976 0

def m_telltalelaw27_awake : Option Bool :=
  Option.bind (m_front_All ([(GChange.mk 1 5 1), (GChange.mk 2 3 2), (GChange.mk 0 1 (-1))] : List GChange)) fun r7_0 =>
  Option.bind (some ((decide (r7_0.a0 = 1099511627777) && (decide (r7_0.a1 = 5) && (decide (r7_0.a2 = 3) && (decide (r7_0.a3 = 3) && true)))))) fun v9_0 =>
  cond v9_0
  (Option.bind (m_front_Of ([] : List GChange) 0) fun r11_0 =>
  cond (decide (r11_0 = 1099511627777))
  (Option.bind (m_front_Of ([(GChange.mk 1 5 1), (GChange.mk 2 3 2), (GChange.mk 0 1 (-1))] : List GChange) 4) fun r16_0 =>
  cond (decide (r16_0 = 1099511627777))
  (Option.bind (m_front_Leads 1 3) fun r20_0 =>
  cond r20_0
  (Option.bind (m_front_Leads 3 1) fun r23_0 =>
  cond (!r23_0)
  (Option.bind (m_front_Passed ([(GChange.mk 1 5 1), (GChange.mk 2 3 2), (GChange.mk 0 1 (-1))] : List GChange) 1 4) fun r28_0 =>
  cond r28_0
  (Option.bind (m_front_Passed ([(GChange.mk 1 5 1), (GChange.mk 2 3 2), (GChange.mk 0 1 (-1))] : List GChange) 1 5) fun r32_0 =>
  cond (!r32_0)
  (Option.bind (cut ([(GChange.mk 1 5 1), (GChange.mk 2 3 2), (GChange.mk 0 1 (-1))] : List GChange) 0 1) fun s37_0 =>
  Option.bind (m_front_Drops s37_0 ([(GChange.mk 1 5 1), (GChange.mk 2 3 2), (GChange.mk 0 1 (-1))] : List GChange)) fun r39_0 =>
  cond r39_0
  (Option.bind (cut ([(GChange.mk 1 5 1), (GChange.mk 2 3 2), (GChange.mk 0 1 (-1))] : List GChange) 0 1) fun s44_0 =>
  Option.bind (m_front_Drops ([(GChange.mk 1 5 1), (GChange.mk 2 3 2), (GChange.mk 0 1 (-1))] : List GChange) s44_0) fun r45_0 =>
  cond (!r45_0)
  (some true)
  (some false))
  (some false))
  (some false))
  (some false))
  (some false))
  (some false))
  (some false))
  (some false))
  (some false)

def m_telltalelaw26_Own_l0 (p0 : (List GChange)) : Nat → (List GChange) → Int → Option (List GChange)
  | 0, _, _ => none
  | fu_0 + 1, y3_0, y4_0 =>
    cond (decide (y4_0 < ((List.length p0 : Nat) : Int)))
    (Option.bind (geti p0 y4_0) fun x14_2 =>
    Option.bind (app y3_0 ([x14_2] : List GChange)) fun a17_2 =>
    m_telltalelaw26_Own_l0 p0 fu_0 a17_2 (IntKind.i64.wrap (y4_0 + 1)))
    (some y3_0)
def m_telltalelaw26_Own (p0 : (List GChange)) : Option (List GChange) :=
  m_telltalelaw26_Own_l0 p0 1152921504606846976 ([] : List GChange) 0

def m_telltaleref27_Leads (p0 : Int) (p1 : Int) : Option Bool :=
  cond (decide ((0 : Int) ≤ p0))
  (cond (decide (p0 ≤ p1))
  (some (decide (p1 ≤ 3)))
  (some false))
  (some false)

def m_telltaleref26_At_l0 (p0 : (List GChange)) (p1 : Int) (p2 : Int) : Nat → Int → Int → Option Int
  | 0, _, _ => none
  | fu_0 + 1, y7_0, y8_0 =>
    cond (decide (y8_0 < ((List.length p0 : Nat) : Int)))
    (Option.bind (geti p0 y8_0) fun x17_2 =>
    cond (decide (x17_2.Loc = p1))
    (Option.bind (geti p0 y8_0) fun x25_2 =>
    cond (decide (x25_2.Time = p2))
    (Option.bind (geti p0 y8_0) fun x34_3 =>
    m_telltaleref26_At_l0 p0 p1 p2 fu_0 (IntKind.i64.wrap (y7_0 + x34_3.N)) (IntKind.i64.wrap (y8_0 + 1)))
    (m_telltaleref26_At_l0 p0 p1 p2 fu_0 y7_0 (IntKind.i64.wrap (y8_0 + 1))))
    (m_telltaleref26_At_l0 p0 p1 p2 fu_0 y7_0 (IntKind.i64.wrap (y8_0 + 1))))
    (some y7_0)
def m_telltaleref26_At (p0 : (List GChange)) (p1 : Int) (p2 : Int) : Option Int :=
  m_telltaleref26_At_l0 p0 p1 p2 1152921504606846976 0 0

def m_telltaleref27_Of_l0 (p0 : (List GChange)) (p1 : Int) : Nat → Int → Int → Option Int
  | 0, _, _ => none
  | fu_0 + 1, y5_0, y6_0 =>
    cond (decide (y6_0 < ((List.length p0 : Nat) : Int)))
    (Option.bind (geti p0 y6_0) fun x15_2 =>
    Option.bind (m_telltaleref27_Leads x15_2.Loc p1) fun r19_2 =>
    cond r19_2
    (Option.bind (geti p0 y6_0) fun x24_2 =>
    Option.bind (geti p0 y6_0) fun x29_2 =>
    Option.bind (m_telltaleref26_At p0 x24_2.Loc x29_2.Time) fun r32_2 =>
    cond (decide ((0 : Int) < r32_2))
    (Option.bind (geti p0 y6_0) fun x38_3 =>
    m_telltaleref27_Of_l0 p0 p1 fu_0 (min y5_0 x38_3.Time) (IntKind.i64.wrap (y6_0 + 1)))
    (m_telltaleref27_Of_l0 p0 p1 fu_0 y5_0 (IntKind.i64.wrap (y6_0 + 1))))
    (m_telltaleref27_Of_l0 p0 p1 fu_0 y5_0 (IntKind.i64.wrap (y6_0 + 1))))
    (some (max 0 y5_0))
def m_telltaleref27_Of (p0 : (List GChange)) (p1 : Int) : Option Int :=
  m_telltaleref27_Of_l0 p0 p1 1152921504606846976 1099511627777 0

def m_telltaleref27_All_l0 (p0 : (List GChange)) : Nat → GArr4_Int → Int → Option GArr4_Int
  | 0, _, _ => none
  | fu_0 + 1, y3_d_0, y4_0 =>
    cond (decide (y4_0 < 4))
    (Option.bind (m_telltaleref27_Of p0 y4_0) fun r12_1 =>
    cond (decide (y4_0 = 0))
    (m_telltaleref27_All_l0 p0 fu_0 (GArr4_Int.mk r12_1 y3_d_0.a1 y3_d_0.a2 y3_d_0.a3) (IntKind.i64.wrap (y4_0 + 1)))
    (cond (decide (y4_0 = 1))
    (m_telltaleref27_All_l0 p0 fu_0 (GArr4_Int.mk y3_d_0.a0 r12_1 y3_d_0.a2 y3_d_0.a3) (IntKind.i64.wrap (y4_0 + 1)))
    (cond (decide (y4_0 = 2))
    (m_telltaleref27_All_l0 p0 fu_0 (GArr4_Int.mk y3_d_0.a0 y3_d_0.a1 r12_1 y3_d_0.a3) (IntKind.i64.wrap (y4_0 + 1)))
    (cond (decide (y4_0 = 3))
    (m_telltaleref27_All_l0 p0 fu_0 (GArr4_Int.mk y3_d_0.a0 y3_d_0.a1 y3_d_0.a2 r12_1) (IntKind.i64.wrap (y4_0 + 1)))
    (none)))))
    (some y3_d_0)
def m_telltaleref27_All (p0 : (List GChange)) : Option GArr4_Int :=
  m_telltaleref27_All_l0 p0 1152921504606846976 (GArr4_Int.mk 0 0 0 0) 0

def m_telltaleref27_Drops_l0 (p0 : (List GChange)) (p1 : (List GChange)) : Nat → Int → Option Bool
  | 0, _ => none
  | fu_0 + 1, y5_0 =>
    cond (decide (y5_0 < 4))
    (Option.bind (m_telltaleref27_Of p1 y5_0) fun r12_1 =>
    Option.bind (m_telltaleref27_Of p0 y5_0) fun r15_1 =>
    cond (decide (r12_1 < r15_1))
    (some true)
    (m_telltaleref27_Drops_l0 p0 p1 fu_0 (IntKind.i64.wrap (y5_0 + 1))))
    (some false)
def m_telltaleref27_Drops (p0 : (List GChange)) (p1 : (List GChange)) : Option Bool :=
  m_telltaleref27_Drops_l0 p0 p1 1152921504606846976 0

def m_telltalelaw27_FrontTells (p0 : GArr2_List_GChange) (p1 : GArr2_Int) (p2 : Int) : Option Bool :=
  Option.bind (m_telltalelaw26_Over p0.a0) fun r11_0 =>
  cond (decide ((0 : Int) < r11_0))
  (Option.bind m_telltalelaw27_awake fun r19_1 =>
  some r19_1)
  (Option.bind (m_telltalelaw26_Over p0.a1) fun r16_0 =>
  cond (decide ((0 : Int) < r16_0))
  (Option.bind m_telltalelaw27_awake fun r19_2 =>
  some r19_2)
  (Option.bind (m_telltalelaw26_Own p0.a0) fun r22_3 =>
  Option.bind (m_telltalelaw26_Own p0.a1) fun r25_3 =>
  Option.bind (m_front_Of r22_3 p1.a0) fun r29_4 =>
  Option.bind (m_telltaleref27_Of p0.a0 p1.a0) fun r34_4 =>
  cond (decide (r29_4 = r34_4))
  (Option.bind (m_front_All r22_3) fun r38_4 =>
  Option.bind (m_telltaleref27_All p0.a0) fun r41_4 =>
  Option.bind (some ((decide (r38_4.a0 = r41_4.a0) && (decide (r38_4.a1 = r41_4.a1) && (decide (r38_4.a2 = r41_4.a2) && (decide (r38_4.a3 = r41_4.a3) && true)))))) fun v42_4 =>
  cond v42_4
  (Option.bind (m_front_Passed r22_3 p1.a0 p2) fun r49_4 =>
  Option.bind (m_telltaleref27_Of p0.a0 p1.a0) fun r54_4 =>
  cond (decide (r49_4 = decide (p2 < r54_4)))
  (Option.bind (m_front_Drops r22_3 r25_3) fun r62_4 =>
  Option.bind (m_telltaleref27_Drops p0.a0 p0.a1) fun r67_4 =>
  cond (decide (r62_4 = r67_4))
  (Option.bind (m_front_Leads p1.a0 p1.a1) fun r75_4 =>
  Option.bind (m_telltaleref27_Leads p1.a0 p1.a1) fun r80_4 =>
  cond (decide (r75_4 = r80_4))
  (Option.bind m_telltalelaw27_awake fun r84_4 =>
  some r84_4)
  (some false))
  (some false))
  (some false))
  (some false))
  (some false)))

def m_slices_Grow_Change (p1 : Int) : Option (List GChange) :=
  cond (decide (p1 < 0))
  (none)
  (cond (decide ((0 : Int) < (IntKind.i64.wrap (p1 - 0))))
  (Option.bind (mkl (IntKind.i64.wrap (p1 - 0)) ((GChange.mk 0 0 0) : GChange)) fun a22_1 =>
  chk (0 < Int.toNat (IntKind.i64.wrap (p1 - 0))) (
  Option.bind (cut a22_1 0 0) fun s25_1 =>
  some s25_1))
  (some ([] : List GChange)))

def m_slices_Concat_Change_l6 (p0 : (List (List GChange))) : Nat → (List GChange) → Int → Option (List GChange)
  | 0, _, _ => none
  | fu_6 + 1, y6_6, y27_6 =>
    cond (decide (y27_6 < ((List.length p0 : Nat) : Int)))
    (Option.bind (geti p0 y27_6) fun x29_7 =>
    Option.bind (app y6_6 x29_7) fun a33_8 =>
    m_slices_Concat_Change_l6 p0 fu_6 a33_8 (IntKind.i64.wrap (y27_6 + 1)))
    (some y6_6)
def m_slices_Concat_Change_l1 (p0 : (List (List GChange))) : Nat → Int → Int → Option (List GChange)
  | 0, _, _ => none
  | fu_1 + 1, y3_1, y11_1 =>
    cond (decide (y11_1 < ((List.length p0 : Nat) : Int)))
    (Option.bind (geti p0 y11_1) fun x13_2 =>
    cond (decide ((IntKind.i64.wrap (y3_1 + ((List.length x13_2 : Nat) : Int))) < 0))
    (none)
    (m_slices_Concat_Change_l1 p0 fu_1 (IntKind.i64.wrap (y3_1 + ((List.length x13_2 : Nat) : Int))) (IntKind.i64.wrap (y11_1 + 1))))
    (Option.bind (m_slices_Grow_Change y3_1) fun r24_4 =>
    m_slices_Concat_Change_l6 p0 1152921504606846976 r24_4 0)
def m_slices_Concat_Change (p0 : (List (List GChange))) : Option (List GChange) :=
  m_slices_Concat_Change_l1 p0 1152921504606846976 0 0

def m_tally_Merge (p0 : (List GChange)) (p1 : (List GChange)) : Option (List GChange) :=
  Option.bind (m_slices_Concat_Change ([p0, p1] : List (List GChange))) fun r8_0 =>
  Option.bind (m_tally_Normal r8_0) fun r9_0 =>
  some r9_0

def m_tally_Add (p0 : (List GChange)) (p1 : GChange) : Option (List GChange) :=
  Option.bind (m_tally_Merge p0 ([p1] : List GChange)) fun r8_0 =>
  some r8_0

def m_tally_Neg_l1 (p0 : (List GChange)) : Nat → (List GChange) → Int → Option (List GChange)
  | 0, _, _ => none
  | fu_1 + 1, y3_1, y8_1 =>
    cond (decide (y8_1 < ((List.length p0 : Nat) : Int)))
    (Option.bind (geti p0 y8_1) fun x10_2 =>
    Option.bind (app y3_1 ([(GChange.mk x10_2.Loc x10_2.Time (IntKind.i64.wrap (0 - x10_2.N)))] : List GChange)) fun a19_3 =>
    m_tally_Neg_l1 p0 fu_1 a19_3 (IntKind.i64.wrap (y8_1 + 1)))
    (Option.bind (m_tally_Normal y3_1) fun r22_4 =>
    some r22_4)
def m_tally_Neg (p0 : (List GChange)) : Option (List GChange) :=
  m_tally_Neg_l1 p0 1152921504606846976 ([] : List GChange) 0

def m_telltalelaw27_FrontMeets_j1 : Option Bool :=
  Option.bind m_telltalelaw27_awake fun r45_2 =>
  some r45_2
def m_telltalelaw27_FrontMeets_l5 (p0 : GArr2_List_GChange) (y5_4 : Int) (k_m_telltalelaw27_FrontMeets_l4 : Int → Option Bool) : Nat → Int → Option Bool
  | 0, _ => none
  | fu_5 + 1, y6_5 =>
    Option.bind (geti ([p0.a0, p0.a1] : List (List GChange)) y5_4) fun x52_6 =>
    cond (decide (y6_5 < ((List.length x52_6 : Nat) : Int)))
    (Option.bind (geti ([p0.a0, p0.a1] : List (List GChange)) y5_4) fun x59_7 =>
    Option.bind (geti x59_7 y6_5) fun x62_7 =>
    cond (decide (x62_7.N < 0))
    (Option.bind m_telltalelaw27_awake fun r66_8 =>
    some r66_8)
    (m_telltalelaw27_FrontMeets_l5 p0 y5_4 k_m_telltalelaw27_FrontMeets_l4 fu_5 (IntKind.i64.wrap (y6_5 + 1))))
    (k_m_telltalelaw27_FrontMeets_l4 (IntKind.i64.wrap (y5_4 + 1)))
def m_telltalelaw27_FrontMeets_j17 (p1 : GChange) (r69_9 : (List GChange)) (r74_10 : GArr4_Int) (r88_11 : GArr4_Int) (y13_12 : Int) (k_m_telltalelaw27_FrontMeets_l12 : Int → Option Bool) (y14_17 : Int) : Option Bool :=
  Option.bind (geti ([r88_11.a0, r88_11.a1, r88_11.a2, r88_11.a3] : List Int) y13_12) fun x142_18 =>
  cond (decide (x142_18 ≠ y14_17))
  (some false)
  (Option.bind (m_front_Passed r69_9 y13_12 p1.Time) fun r151_18 =>
  Option.bind (geti ([r74_10.a0, r74_10.a1, r74_10.a2, r74_10.a3] : List Int) y13_12) fun x153_18 =>
  cond (decide (r151_18 ≠ decide (p1.Time < x153_18)))
  (some false)
  (k_m_telltalelaw27_FrontMeets_l12 (IntKind.i64.wrap (y13_12 + 1))))
def m_telltalelaw27_FrontMeets_j19 (p1 : GChange) (r69_9 : (List GChange)) (r74_10 : GArr4_Int) (r88_11 : GArr4_Int) (y13_12 : Int) (k_m_telltalelaw27_FrontMeets_l12 : Int → Option Bool) : Option Bool :=
  Option.bind (geti ([r74_10.a0, r74_10.a1, r74_10.a2, r74_10.a3] : List Int) y13_12) fun x131_20 =>
  Option.bind (m_front_Leads p1.Loc y13_12) fun r136_15 =>
  cond r136_15
  (m_telltalelaw27_FrontMeets_j17 p1 r69_9 r74_10 r88_11 y13_12 k_m_telltalelaw27_FrontMeets_l12 (min x131_20 p1.Time))
  (m_telltalelaw27_FrontMeets_j17 p1 r69_9 r74_10 r88_11 y13_12 k_m_telltalelaw27_FrontMeets_l12 x131_20)
def m_telltalelaw27_FrontMeets_j14 : Option Bool :=
  some false
def m_telltalelaw27_FrontMeets_l12 (p1 : GChange) (r69_9 : (List GChange)) (r72_9 : (List GChange)) (r74_10 : GArr4_Int) (r76_10 : GArr4_Int) (r80_10 : GArr4_Int) (r88_11 : GArr4_Int) : Nat → Int → Option Bool
  | 0, _ => none
  | fu_12 + 1, y13_12 =>
    cond (decide (y13_12 < 4))
    (Option.bind (geti ([r80_10.a0, r80_10.a1, r80_10.a2, r80_10.a3] : List Int) y13_12) fun x94_13 =>
    Option.bind (geti ([r74_10.a0, r74_10.a1, r74_10.a2, r74_10.a3] : List Int) y13_12) fun x97_13 =>
    Option.bind (geti ([r76_10.a0, r76_10.a1, r76_10.a2, r76_10.a3] : List Int) y13_12) fun x100_13 =>
    cond (decide (x94_13 ≠ (min x97_13 x100_13)))
    (m_telltalelaw27_FrontMeets_j14 )
    (Option.bind (geti ([r74_10.a0, r74_10.a1, r74_10.a2, r74_10.a3] : List Int) y13_12) fun x106_13 =>
    cond (decide (x106_13 < 0))
    (m_telltalelaw27_FrontMeets_j14 )
    (Option.bind (geti ([r74_10.a0, r74_10.a1, r74_10.a2, r74_10.a3] : List Int) y13_12) fun x112_13 =>
    cond (decide ((1099511627777 : Int) < x112_13))
    (m_telltalelaw27_FrontMeets_j14 )
    (cond (decide ((0 : Int) < y13_12))
    (Option.bind (geti ([r74_10.a0, r74_10.a1, r74_10.a2, r74_10.a3] : List Int) y13_12) fun x121_13 =>
    Option.bind (geti ([r74_10.a0, r74_10.a1, r74_10.a2, r74_10.a3] : List Int) (IntKind.i64.wrap (y13_12 - 1))) fun x125_13 =>
    cond (decide (x125_13 < x121_13))
    (some false)
    (m_telltalelaw27_FrontMeets_j19 p1 r69_9 r74_10 r88_11 y13_12 (fun y13_12 => m_telltalelaw27_FrontMeets_l12 p1 r69_9 r72_9 r74_10 r76_10 r80_10 r88_11 fu_12 y13_12)))
    (m_telltalelaw27_FrontMeets_j19 p1 r69_9 r74_10 r88_11 y13_12 (fun y13_12 => m_telltalelaw27_FrontMeets_l12 p1 r69_9 r72_9 r74_10 r76_10 r80_10 r88_11 fu_12 y13_12))))))
    (Option.bind (m_tally_Merge r69_9 r72_9) fun r162_21 =>
    Option.bind (m_front_Drops r162_21 r69_9) fun r164_21 =>
    cond (!r164_21)
    (Option.bind (m_tally_Neg r69_9) fun r169_21 =>
    Option.bind (m_tally_Neg r169_21) fun r170_21 =>
    Option.bind (m_front_Drops r69_9 r170_21) fun r171_21 =>
    cond (!r171_21)
    (Option.bind m_telltalelaw27_awake fun r175_21 =>
    some r175_21)
    (some false))
    (some false))
def m_telltalelaw27_FrontMeets_l4 (p0 : GArr2_List_GChange) (p1 : GChange) : Nat → Int → Option Bool
  | 0, _ => none
  | fu_4 + 1, y5_4 =>
    cond (decide (y5_4 < 2))
    (m_telltalelaw27_FrontMeets_l5 p0 y5_4 (fun y5_4 => m_telltalelaw27_FrontMeets_l4 p0 p1 fu_4 y5_4) 1152921504606846976 0)
    (Option.bind (m_telltalelaw26_Own p0.a0) fun r69_9 =>
    Option.bind (m_telltalelaw26_Own p0.a1) fun r72_9 =>
    Option.bind (m_front_All r69_9) fun r74_10 =>
    Option.bind (m_front_All r72_9) fun r76_10 =>
    Option.bind (m_tally_Merge r69_9 r72_9) fun r79_10 =>
    Option.bind (m_front_All r79_10) fun r80_10 =>
    Option.bind (m_tally_Add r69_9 (GChange.mk p1.Loc p1.Time 1)) fun r87_11 =>
    Option.bind (m_front_All r87_11) fun r88_11 =>
    m_telltalelaw27_FrontMeets_l12 p1 r69_9 r72_9 r74_10 r76_10 r80_10 r88_11 1152921504606846976 0)
def m_telltalelaw27_FrontMeets (p0 : GArr2_List_GChange) (p1 : GChange) : Option Bool :=
  Option.bind (m_telltalelaw26_Over p0.a0) fun r17_0 =>
  cond (decide ((0 : Int) < r17_0))
  (m_telltalelaw27_FrontMeets_j1 )
  (Option.bind (m_telltalelaw26_Over p0.a1) fun r22_0 =>
  cond (decide ((0 : Int) < r22_0))
  (m_telltalelaw27_FrontMeets_j1 )
  (cond (decide (p1.Loc < 0))
  (m_telltalelaw27_FrontMeets_j1 )
  (cond (decide ((3 : Int) < p1.Loc))
  (m_telltalelaw27_FrontMeets_j1 )
  (cond (decide (p1.Time < 0))
  (m_telltalelaw27_FrontMeets_j1 )
  (cond (decide ((1099511627777 : Int) < p1.Time))
  (Option.bind m_telltalelaw27_awake fun r45_3 =>
  some r45_3)
  (m_telltalelaw27_FrontMeets_l4 p0 p1 1152921504606846976 0))))))
end Go.Proofs.Ythcilaomjkaciaa.K
