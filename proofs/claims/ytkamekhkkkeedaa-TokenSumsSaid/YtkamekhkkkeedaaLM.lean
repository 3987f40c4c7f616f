/- models of the program's functions -/
import Derived.Test.YtkamekhkkkeedaaLT
namespace Go.Proofs.Ytkamekhkkkeedaa.K
open Go.RowKit Go.Lib
set_option linter.unusedVariables false
set_option linter.unusedSimpArgs false

def m_front_Leads (p0 : Int) (p1 : Int) : Option Bool :=
  cond (decide ((0 : Int) ≤ p0))
  (cond (decide (p0 ≤ p1))
  (some (decide (p1 < 4)))
  (some false))
  (some false)

def m_token_Point_may (p0 : GPoint) : Option Bool :=
  Option.bind (m_front_Leads p0.Loc 3) fun r5_0 =>
  cond r5_0
  (cond (decide ((0 : Int) ≤ p0.Time))
  (some (decide (p0.Time ≤ 1099511627776)))
  (some false))
  (some false)

def m_slices_Clone_Leave (p0 : (List GLeave_)) : Option (List GLeave_) :=
  Option.bind (app ([] : List GLeave_) p0) fun a7_0 =>
  some a7_0

def m_token_Point_change (p0 : GPoint) (p1 : Int) : Option GChange :=
  some (GChange.mk p0.Loc p0.Time p1)

def m_token_Book_Hold (p0 : GBook) (p1 : GPoint) : Option (GBook × Int × (List GChange) × Int) :=
  Option.bind (m_token_Point_may p1) fun r11_0 =>
  cond (!r11_0)
  (some (p0, (-1), ([] : List GChange), 8))
  (cond (decide ((100 : Int) ≤ ((List.length p0.L : Nat) : Int)))
  (some (p0, (-1), ([] : List GChange), 7))
  (Option.bind (m_slices_Clone_Leave p0.L) fun r22_2 =>
  Option.bind (app r22_2 ([(GLeave_.mk p1 true)] : List GLeave_)) fun a26_2 =>
  Option.bind (m_token_Point_change p1 1) fun r33_3 =>
  some ((GBook.mk a26_2), ((List.length p0.L : Nat) : Int), ([r33_3] : List GChange), 0)))

def m_token_Book_Get (p0 : GBook) (p1 : Int) : Option (GLeave_ × Bool) :=
  cond (decide (p1 < 0))
  (some ((GLeave_.mk (GPoint.mk 0 0) false), false))
  (cond (decide (((List.length p0.L : Nat) : Int) ≤ p1))
  (some ((GLeave_.mk (GPoint.mk 0 0) false), false))
  (Option.bind (geti p0.L p1) fun x19_1 =>
  some (x19_1, true)))

def m_token_Book_held (p0 : GBook) (p1 : Int) : Option (GLeave_ × Int) :=
  Option.bind (m_token_Book_Get p0 p1) fun r11_0 =>
  cond (!r11_0.2)
  (some ((GLeave_.mk (GPoint.mk 0 0) false), 6))
  (cond (!r11_0.1.Held)
  (some ((GLeave_.mk (GPoint.mk 0 0) false), 20))
  (some (r11_0.1, 0)))

def m_token_Book_with (p0 : GBook) (p1 : Int) (p2 : GLeave_) : Option GBook :=
  Option.bind (m_slices_Clone_Leave p0.L) fun r10_0 =>
  Option.bind (geti r10_0 p1) fun x14_1 =>
  some (GBook.mk (List.set r10_0 (Int.toNat p1) p2))

def m_cmp_isNaN_int (p0 : Int) : Option Bool :=
  some (decide (p0 ≠ p0))

def m_cmp_Compare_int (p0 : Int) (p1 : Int) : Option Int :=
  Option.bind (m_cmp_isNaN_int p0) fun r8_0 =>
  Option.bind (m_cmp_isNaN_int p1) fun r10_1 =>
  cond r8_0
  (cond r10_1
  (some 0)
  (some (-1)))
  (cond r10_1
  (some 1)
  (cond (decide (p0 < p1))
  (some (-1))
  (cond (decide (p1 < p0))
  (some 1)
  (some 0))))

def m_cmp_Or_int_l1 (p0 : (List Int)) : Nat → Int → Option Int
  | 0, _ => none
  | fu_1 + 1, y8_1 =>
    cond (decide (y8_1 < ((List.length p0 : Nat) : Int)))
    (Option.bind (geti p0 y8_1) fun x10_2 =>
    cond (decide (x10_2 ≠ 0))
    (some x10_2)
    (m_cmp_Or_int_l1 p0 fu_1 (IntKind.i64.wrap (y8_1 + 1))))
    (some 0)
def m_cmp_Or_int (p0 : (List Int)) : Option Int :=
  m_cmp_Or_int_l1 p0 1152921504606846976 0

def m_tally_order (p0 : GChange) (p1 : GChange) : Option Int :=
  Option.bind (m_cmp_Compare_int p0.Loc p1.Loc) fun r9_0 =>
  Option.bind (m_cmp_Compare_int p0.Time p1.Time) fun r14_0 =>
  Option.bind (m_cmp_Or_int ([r9_0, r14_0] : List Int)) fun r16_0 =>
  some r16_0

def m_slices_insertionSortCmpFunc_tally_Change__tally_order_l1 (p1 : Int) (y8_0 : Int) (k_m_slices_insertionSortCmpFunc_tally_Change__tally_order_l0 : (List GChange) → Int → Option (List GChange)) : Nat → (List GChange) → Int → Option (List GChange)
  | 0, _, _ => none
  | fu_1 + 1, y0_1, y9_1 =>
    cond (decide (p1 < y9_1))
    (Option.bind (geti y0_1 y9_1) fun x25_2 =>
    Option.bind (geti y0_1 (IntKind.i64.wrap (y9_1 - 1))) fun x30_2 =>
    Option.bind (m_tally_order x25_2 x30_2) fun r32_2 =>
    cond (decide (r32_2 < 0))
    (Option.bind (geti y0_1 (IntKind.i64.wrap (y9_1 - 1))) fun x45_3 =>
    Option.bind (geti y0_1 y9_1) fun x49_3 =>
    Option.bind (geti y0_1 y9_1) fun x51_3 =>
    Option.bind (geti (List.set y0_1 (Int.toNat y9_1) x45_3) (IntKind.i64.wrap (y9_1 - 1))) fun x52_3 =>
    m_slices_insertionSortCmpFunc_tally_Change__tally_order_l1 p1 y8_0 k_m_slices_insertionSortCmpFunc_tally_Change__tally_order_l0 fu_1 (List.set (List.set y0_1 (Int.toNat y9_1) x45_3) (Int.toNat (IntKind.i64.wrap (y9_1 - 1))) x49_3) (IntKind.i64.wrap (y9_1 - 1)))
    (k_m_slices_insertionSortCmpFunc_tally_Change__tally_order_l0 y0_1 (IntKind.i64.wrap (y8_0 + 1))))
    (k_m_slices_insertionSortCmpFunc_tally_Change__tally_order_l0 y0_1 (IntKind.i64.wrap (y8_0 + 1)))
def m_slices_insertionSortCmpFunc_tally_Change__tally_order_l0 (p1 : Int) (p2 : Int) : Nat → (List GChange) → Int → Option (List GChange)
  | 0, _, _ => none
  | fu_0 + 1, y0_0, y8_0 =>
    cond (decide (y8_0 < p2))
    (m_slices_insertionSortCmpFunc_tally_Change__tally_order_l1 p1 y8_0 (fun y0_0 y8_0 => m_slices_insertionSortCmpFunc_tally_Change__tally_order_l0 p1 p2 fu_0 y0_0 y8_0) 1152921504606846976 y0_0 y8_0)
    (some y0_0)
def m_slices_insertionSortCmpFunc_tally_Change__tally_order (p0 : (List GChange)) (p1 : Int) (p2 : Int) : Option (List GChange) :=
  m_slices_insertionSortCmpFunc_tally_Change__tally_order_l0 p1 p2 1152921504606846976 p0 (IntKind.i64.wrap (p1 + 1))

def m_slices_swapRangeCmpFunc_tally_Change__tally_order_l0 (p1 : Int) (p2 : Int) (p3 : Int) : Nat → (List GChange) → Int → Option (List GChange)
  | 0, _, _ => none
  | fu_0 + 1, y0_0, y10_0 =>
    cond (decide (y10_0 < p3))
    (Option.bind (geti y0_0 (IntKind.i64.wrap (p2 + y10_0))) fun x28_1 =>
    Option.bind (geti y0_0 (IntKind.i64.wrap (p1 + y10_0))) fun x34_1 =>
    Option.bind (geti y0_0 (IntKind.i64.wrap (p1 + y10_0))) fun x36_1 =>
    Option.bind (geti (List.set y0_0 (Int.toNat (IntKind.i64.wrap (p1 + y10_0))) x28_1) (IntKind.i64.wrap (p2 + y10_0))) fun x37_1 =>
    m_slices_swapRangeCmpFunc_tally_Change__tally_order_l0 p1 p2 p3 fu_0 (List.set (List.set y0_0 (Int.toNat (IntKind.i64.wrap (p1 + y10_0))) x28_1) (Int.toNat (IntKind.i64.wrap (p2 + y10_0))) x34_1) (IntKind.i64.wrap (y10_0 + 1)))
    (some y0_0)
def m_slices_swapRangeCmpFunc_tally_Change__tally_order (p0 : (List GChange)) (p1 : Int) (p2 : Int) (p3 : Int) : Option (List GChange) :=
  m_slices_swapRangeCmpFunc_tally_Change__tally_order_l0 p1 p2 p3 1152921504606846976 p0 0

def m_slices_rotateCmpFunc_tally_Change__tally_order_l0 (p2 : Int) : Nat → (List GChange) → Int → Int → Option (List GChange)
  | 0, _, _, _ => none
  | fu_0 + 1, y0_0, y10_0, y11_0 =>
    cond (decide (y10_0 ≠ y11_0))
    (cond (decide (y11_0 < y10_0))
    (Option.bind (m_slices_swapRangeCmpFunc_tally_Change__tally_order y0_0 (IntKind.i64.wrap (p2 - y10_0)) p2 y11_0) fun r31_1 =>
    m_slices_rotateCmpFunc_tally_Change__tally_order_l0 p2 fu_0 r31_1 (IntKind.i64.wrap (y10_0 - y11_0)) y11_0)
    (Option.bind (m_slices_swapRangeCmpFunc_tally_Change__tally_order y0_0 (IntKind.i64.wrap (p2 - y10_0)) (IntKind.i64.wrap ((IntKind.i64.wrap (p2 + y11_0)) - y10_0)) y10_0) fun r46_2 =>
    m_slices_rotateCmpFunc_tally_Change__tally_order_l0 p2 fu_0 r46_2 y10_0 (IntKind.i64.wrap (y11_0 - y10_0))))
    (Option.bind (m_slices_swapRangeCmpFunc_tally_Change__tally_order y0_0 (IntKind.i64.wrap (p2 - y10_0)) p2 y10_0) fun r57_3 =>
    some r57_3)
def m_slices_rotateCmpFunc_tally_Change__tally_order (p0 : (List GChange)) (p1 : Int) (p2 : Int) (p3 : Int) : Option (List GChange) :=
  m_slices_rotateCmpFunc_tally_Change__tally_order_l0 p2 1152921504606846976 p0 (IntKind.i64.wrap (p2 - p1)) (IntKind.i64.wrap (p3 - p2))

def m_slices_symMergeCmpFunc_tally_Change__tally_order_l4 (y10_0 : Int) : Nat → (List GChange) → Int → Option (List GChange)
  | 0, _, _ => none
  | fu_4 + 1, y0_4, y13_4 =>
    cond (decide (y13_4 < (IntKind.i64.wrap (y10_0 - 1))))
    (Option.bind (geti y0_4 (IntKind.i64.wrap (y13_4 + 1))) fun x69_5 =>
    Option.bind (geti y0_4 y13_4) fun x73_5 =>
    Option.bind (geti y0_4 y13_4) fun x75_5 =>
    Option.bind (geti (List.set y0_4 (Int.toNat y13_4) x69_5) (IntKind.i64.wrap (y13_4 + 1))) fun x76_5 =>
    m_slices_symMergeCmpFunc_tally_Change__tally_order_l4 y10_0 fu_4 (List.set (List.set y0_4 (Int.toNat y13_4) x69_5) (Int.toNat (IntKind.i64.wrap (y13_4 + 1))) x73_5) (IntKind.i64.wrap (y13_4 + 1)))
    (some y0_4)
def m_slices_symMergeCmpFunc_tally_Change__tally_order_l0 (p0 : (List GChange)) (p1 : Int) : Nat → Int → Int → Option (List GChange)
  | 0, _, _ => none
  | fu_0 + 1, y10_0, y11_0 =>
    cond (decide (y10_0 < y11_0))
    (Option.bind (geti p0 (IntKind.i64.wrap (Int.fdiv (IntKind.u64.wrap (IntKind.i64.wrap (y10_0 + y11_0))) (2 ^ 1)))) fun x43_2 =>
    Option.bind (geti p0 p1) fun x47_2 =>
    Option.bind (m_tally_order x43_2 x47_2) fun r49_2 =>
    cond (decide (r49_2 < 0))
    (Option.bind (some ((IntKind.i64.wrap ((IntKind.i64.wrap (Int.fdiv (IntKind.u64.wrap (IntKind.i64.wrap (y10_0 + y11_0))) (2 ^ 1))) + 1)))) fun v52_3 =>
    m_slices_symMergeCmpFunc_tally_Change__tally_order_l0 p0 p1 fu_0 v52_3 y11_0)
    (m_slices_symMergeCmpFunc_tally_Change__tally_order_l0 p0 p1 fu_0 y10_0 (IntKind.i64.wrap (Int.fdiv (IntKind.u64.wrap (IntKind.i64.wrap (y10_0 + y11_0))) (2 ^ 1)))))
    (m_slices_symMergeCmpFunc_tally_Change__tally_order_l4 y10_0 1152921504606846976 p0 p1)
def m_slices_symMergeCmpFunc_tally_Change__tally_order_l10 (y14_6 : Int) : Nat → (List GChange) → Int → Option (List GChange)
  | 0, _, _ => none
  | fu_10 + 1, y0_10, y17_10 =>
    cond (decide (y14_6 < y17_10))
    (Option.bind (geti y0_10 (IntKind.i64.wrap (y17_10 - 1))) fun x121_11 =>
    Option.bind (geti y0_10 y17_10) fun x125_11 =>
    Option.bind (geti y0_10 y17_10) fun x127_11 =>
    Option.bind (geti (List.set y0_10 (Int.toNat y17_10) x121_11) (IntKind.i64.wrap (y17_10 - 1))) fun x128_11 =>
    m_slices_symMergeCmpFunc_tally_Change__tally_order_l10 y14_6 fu_10 (List.set (List.set y0_10 (Int.toNat y17_10) x121_11) (Int.toNat (IntKind.i64.wrap (y17_10 - 1))) x125_11) (IntKind.i64.wrap (y17_10 - 1)))
    (some y0_10)
def m_slices_symMergeCmpFunc_tally_Change__tally_order_l6 (p0 : (List GChange)) (p2 : Int) : Nat → Int → Int → Option (List GChange)
  | 0, _, _ => none
  | fu_6 + 1, y14_6, y15_6 =>
    cond (decide (y14_6 < y15_6))
    (Option.bind (geti p0 p2) fun x95_8 =>
    Option.bind (geti p0 (IntKind.i64.wrap (Int.fdiv (IntKind.u64.wrap (IntKind.i64.wrap (y14_6 + y15_6))) (2 ^ 1)))) fun x99_8 =>
    Option.bind (m_tally_order x95_8 x99_8) fun r101_8 =>
    cond (!decide (r101_8 < 0))
    (Option.bind (some ((IntKind.i64.wrap ((IntKind.i64.wrap (Int.fdiv (IntKind.u64.wrap (IntKind.i64.wrap (y14_6 + y15_6))) (2 ^ 1))) + 1)))) fun v105_9 =>
    m_slices_symMergeCmpFunc_tally_Change__tally_order_l6 p0 p2 fu_6 v105_9 y15_6)
    (m_slices_symMergeCmpFunc_tally_Change__tally_order_l6 p0 p2 fu_6 y14_6 (IntKind.i64.wrap (Int.fdiv (IntKind.u64.wrap (IntKind.i64.wrap (y14_6 + y15_6))) (2 ^ 1)))))
    (m_slices_symMergeCmpFunc_tally_Change__tally_order_l10 y14_6 1152921504606846976 p0 p2)
def m_slices_symMergeCmpFunc_tally_Change__tally_order_j24 (p1 : Int) (p3 : Int) (v137_13 : Int) (y20_15 : Int) (k_rec : (List GChange) → Int → Int → Int → Option (List GChange)) (y0_24 : List GChange) : Option (List GChange) :=
  Option.bind (some (decide ((IntKind.i64.wrap (Int.fdiv (IntKind.u64.wrap (IntKind.i64.wrap (p1 + p3))) (2 ^ 1))) < (IntKind.i64.wrap (v137_13 - y20_15))))) fun v208_25 =>
  cond v208_25
  (cond (decide ((IntKind.i64.wrap (v137_13 - y20_15)) < p3))
  (Option.bind (k_rec y0_24 (IntKind.i64.wrap (Int.fdiv (IntKind.u64.wrap (IntKind.i64.wrap (p1 + p3))) (2 ^ 1))) (IntKind.i64.wrap (v137_13 - y20_15)) p3) fun r219_26 =>
  some r219_26)
  (some y0_24))
  (some y0_24)
def m_slices_symMergeCmpFunc_tally_Change__tally_order_j21 (p1 : Int) (p3 : Int) (v137_13 : Int) (y20_15 : Int) (k_rec : (List GChange) → Int → Int → Int → Option (List GChange)) (y0_21 : List GChange) : Option (List GChange) :=
  cond (decide (p1 < y20_15))
  (cond (decide (y20_15 < (IntKind.i64.wrap (Int.fdiv (IntKind.u64.wrap (IntKind.i64.wrap (p1 + p3))) (2 ^ 1)))))
  (Option.bind (k_rec y0_21 p1 y20_15 (IntKind.i64.wrap (Int.fdiv (IntKind.u64.wrap (IntKind.i64.wrap (p1 + p3))) (2 ^ 1)))) fun r205_23 =>
  m_slices_symMergeCmpFunc_tally_Change__tally_order_j24 p1 p3 v137_13 y20_15 k_rec r205_23)
  (m_slices_symMergeCmpFunc_tally_Change__tally_order_j24 p1 p3 v137_13 y20_15 k_rec y0_21))
  (m_slices_symMergeCmpFunc_tally_Change__tally_order_j24 p1 p3 v137_13 y20_15 k_rec y0_21)
def m_slices_symMergeCmpFunc_tally_Change__tally_order_l15 (p0 : (List GChange)) (p1 : Int) (p2 : Int) (p3 : Int) (v137_13 : Int) (k_rec : (List GChange) → Int → Int → Int → Option (List GChange)) : Nat → Int → Int → Option (List GChange)
  | 0, _, _ => none
  | fu_15 + 1, y20_15, y21_15 =>
    cond (decide (y20_15 < y21_15))
    (Option.bind (some ((IntKind.i64.wrap ((IntKind.i64.wrap (v137_13 - 1)) - (IntKind.i64.wrap (Int.fdiv (IntKind.u64.wrap (IntKind.i64.wrap (y20_15 + y21_15))) (2 ^ 1))))))) fun v162_17 =>
    Option.bind (geti p0 v162_17) fun x163_17 =>
    Option.bind (geti p0 (IntKind.i64.wrap (Int.fdiv (IntKind.u64.wrap (IntKind.i64.wrap (y20_15 + y21_15))) (2 ^ 1)))) fun x167_17 =>
    Option.bind (m_tally_order x163_17 x167_17) fun r169_17 =>
    cond (!decide (r169_17 < 0))
    (Option.bind (some ((IntKind.i64.wrap ((IntKind.i64.wrap (Int.fdiv (IntKind.u64.wrap (IntKind.i64.wrap (y20_15 + y21_15))) (2 ^ 1))) + 1)))) fun v173_18 =>
    m_slices_symMergeCmpFunc_tally_Change__tally_order_l15 p0 p1 p2 p3 v137_13 k_rec fu_15 v173_18 y21_15)
    (m_slices_symMergeCmpFunc_tally_Change__tally_order_l15 p0 p1 p2 p3 v137_13 k_rec fu_15 y20_15 (IntKind.i64.wrap (Int.fdiv (IntKind.u64.wrap (IntKind.i64.wrap (y20_15 + y21_15))) (2 ^ 1)))))
    (cond (decide (y20_15 < p2))
    (cond (decide (p2 < (IntKind.i64.wrap (v137_13 - y20_15))))
    (Option.bind (m_slices_rotateCmpFunc_tally_Change__tally_order p0 y20_15 p2 (IntKind.i64.wrap (v137_13 - y20_15))) fun r191_20 =>
    m_slices_symMergeCmpFunc_tally_Change__tally_order_j21 p1 p3 v137_13 y20_15 k_rec r191_20)
    (m_slices_symMergeCmpFunc_tally_Change__tally_order_j21 p1 p3 v137_13 y20_15 k_rec p0))
    (m_slices_symMergeCmpFunc_tally_Change__tally_order_j21 p1 p3 v137_13 y20_15 k_rec p0))
def m_slices_symMergeCmpFunc_tally_Change__tally_order_j14 (p0 : (List GChange)) (p1 : Int) (p2 : Int) (p3 : Int) (v137_13 : Int) (k_rec : (List GChange) → Int → Int → Int → Option (List GChange)) (y20_14 : Int) (y21_14 : Int) : Option (List GChange) :=
  m_slices_symMergeCmpFunc_tally_Change__tally_order_l15 p0 p1 p2 p3 v137_13 k_rec 1152921504606846976 y20_14 y21_14
def m_slices_symMergeCmpFunc_tally_Change__tally_order : Nat → (List GChange) → Int → Int → Int → Option (List GChange)
  | 0, _, _, _, _ => none
  | fuR + 1, p0, p1, p2, p3 =>
    cond (decide ((IntKind.i64.wrap (p2 - p1)) = 1))
    (m_slices_symMergeCmpFunc_tally_Change__tally_order_l0 p0 p1 1152921504606846976 p2 p3)
    (cond (decide ((IntKind.i64.wrap (p3 - p2)) = 1))
    (m_slices_symMergeCmpFunc_tally_Change__tally_order_l6 p0 p2 1152921504606846976 p1 p2)
    (Option.bind (some ((IntKind.i64.wrap ((IntKind.i64.wrap (Int.fdiv (IntKind.u64.wrap (IntKind.i64.wrap (p1 + p3))) (2 ^ 1))) + p2)))) fun v137_13 =>
    cond (decide ((IntKind.i64.wrap (Int.fdiv (IntKind.u64.wrap (IntKind.i64.wrap (p1 + p3))) (2 ^ 1))) < p2))
    (m_slices_symMergeCmpFunc_tally_Change__tally_order_j14 p0 p1 p2 p3 v137_13 (fun p0 p1 p2 p3 => m_slices_symMergeCmpFunc_tally_Change__tally_order fuR p0 p1 p2 p3) (IntKind.i64.wrap (v137_13 - p3)) (IntKind.i64.wrap (Int.fdiv (IntKind.u64.wrap (IntKind.i64.wrap (p1 + p3))) (2 ^ 1))))
    (m_slices_symMergeCmpFunc_tally_Change__tally_order_j14 p0 p1 p2 p3 v137_13 (fun p0 p1 p2 p3 => m_slices_symMergeCmpFunc_tally_Change__tally_order fuR p0 p1 p2 p3) p1 p2)))

def m_slices_stableCmpFunc_tally_Change__tally_order_l4 (p1 : Int) (y6_3 : Int) (k_m_slices_stableCmpFunc_tally_Change__tally_order_l3 : (List GChange) → Int → Option (List GChange)) : Nat → (List GChange) → Int → Int → Option (List GChange)
  | 0, _, _, _ => none
  | fu_4 + 1, y0_4, y7_4, y8_4 =>
    cond (decide (y8_4 ≤ p1))
    (Option.bind (m_slices_symMergeCmpFunc_tally_Change__tally_order 1152921504606846976 y0_4 y7_4 (IntKind.i64.wrap (y7_4 + y6_3)) y8_4) fun r43_5 =>
    m_slices_stableCmpFunc_tally_Change__tally_order_l4 p1 y6_3 k_m_slices_stableCmpFunc_tally_Change__tally_order_l3 fu_4 r43_5 y8_4 (IntKind.i64.wrap (y8_4 + (IntKind.i64.wrap (2 * y6_3)))))
    (cond (decide ((IntKind.i64.wrap (y7_4 + y6_3)) < p1))
    (Option.bind (m_slices_symMergeCmpFunc_tally_Change__tally_order 1152921504606846976 y0_4 y7_4 (IntKind.i64.wrap (y7_4 + y6_3)) p1) fun r60_6 =>
    k_m_slices_stableCmpFunc_tally_Change__tally_order_l3 r60_6 (IntKind.i64.wrap (y6_3 * 2)))
    (k_m_slices_stableCmpFunc_tally_Change__tally_order_l3 y0_4 (IntKind.i64.wrap (y6_3 * 2))))
def m_slices_stableCmpFunc_tally_Change__tally_order_l3 (p1 : Int) : Nat → (List GChange) → Int → Option (List GChange)
  | 0, _, _ => none
  | fu_3 + 1, y0_3, y6_3 =>
    cond (decide (y6_3 < p1))
    (m_slices_stableCmpFunc_tally_Change__tally_order_l4 p1 y6_3 (fun y0_3 y6_3 => m_slices_stableCmpFunc_tally_Change__tally_order_l3 p1 fu_3 y0_3 y6_3) 1152921504606846976 y0_3 0 (IntKind.i64.wrap (2 * y6_3)))
    (some y0_3)
def m_slices_stableCmpFunc_tally_Change__tally_order_l0 (p1 : Int) : Nat → (List GChange) → Int → Int → Option (List GChange)
  | 0, _, _, _ => none
  | fu_0 + 1, y0_0, y7_0, y8_0 =>
    cond (decide (y8_0 ≤ p1))
    (Option.bind (m_slices_insertionSortCmpFunc_tally_Change__tally_order y0_0 y7_0 y8_0) fun r18_1 =>
    m_slices_stableCmpFunc_tally_Change__tally_order_l0 p1 fu_0 r18_1 y8_0 (IntKind.i64.wrap (y8_0 + 20)))
    (Option.bind (m_slices_insertionSortCmpFunc_tally_Change__tally_order y0_0 y7_0 p1) fun r27_2 =>
    m_slices_stableCmpFunc_tally_Change__tally_order_l3 p1 1152921504606846976 r27_2 20)
def m_slices_stableCmpFunc_tally_Change__tally_order (p0 : (List GChange)) (p1 : Int) : Option (List GChange) :=
  m_slices_stableCmpFunc_tally_Change__tally_order_l0 p1 1152921504606846976 p0 0 20

def m_slices_SortStableFunc_Change__tally_order (p0 : (List GChange)) : Option (List GChange) :=
  Option.bind (m_slices_stableCmpFunc_tally_Change__tally_order p0 ((List.length p0 : Nat) : Int)) fun r8_0 =>
  some r8_0

def m_tally_Normal_1 (p0 : GChange) : Option Bool :=
  some (decide (p0.N = 0))

def m_slices_IndexFunc_Change__tally_Normal_1_l1 (p0 : (List GChange)) : Nat → Int → Option Int
  | 0, _ => none
  | fu_1 + 1, y8_1 =>
    cond (decide (y8_1 < ((List.length p0 : Nat) : Int)))
    (Option.bind (geti p0 y8_1) fun x14_2 =>
    Option.bind (m_tally_Normal_1 x14_2) fun r16_2 =>
    cond r16_2
    (some y8_1)
    (m_slices_IndexFunc_Change__tally_Normal_1_l1 p0 fu_1 (IntKind.i64.wrap (y8_1 + 1))))
    (some (-1))
def m_slices_IndexFunc_Change__tally_Normal_1 (p0 : (List GChange)) : Option Int :=
  m_slices_IndexFunc_Change__tally_Normal_1_l1 p0 1152921504606846976 0

def m_slices_DeleteFunc_Change__tally_Normal_1_l1 : Nat → (List GChange) → Int → Int → Option (List GChange)
  | 0, _, _, _ => none
  | fu_1 + 1, y0_1, y5_1, y6_1 =>
    cond (decide (y6_1 < ((List.length y0_1 : Nat) : Int)))
    (Option.bind (geti y0_1 y6_1) fun x24_3 =>
    Option.bind (m_tally_Normal_1 x24_3) fun r28_4 =>
    cond (!r28_4)
    (Option.bind (geti y0_1 y5_1) fun x33_5 =>
    m_slices_DeleteFunc_Change__tally_Normal_1_l1 fu_1 (List.set y0_1 (Int.toNat y5_1) x24_3) (IntKind.i64.wrap (y5_1 + 1)) (IntKind.i64.wrap (y6_1 + 1)))
    (m_slices_DeleteFunc_Change__tally_Normal_1_l1 fu_1 y0_1 y5_1 (IntKind.i64.wrap (y6_1 + 1))))
    (chk (0 ≤ y5_1 ∧ y5_1 < ((List.length y0_1 : Nat) : Int)) (
    Option.bind (cut (clr y0_1 (Int.toNat y5_1) ((GChange.mk 0 0 0) : GChange)) 0 y5_1) fun s41_7 =>
    some s41_7))
def m_slices_DeleteFunc_Change__tally_Normal_1 (p0 : (List GChange)) : Option (List GChange) :=
  Option.bind (m_slices_IndexFunc_Change__tally_Normal_1 p0) fun r10_0 =>
  cond (decide (r10_0 = (-1)))
  (some p0)
  (m_slices_DeleteFunc_Change__tally_Normal_1_l1  1152921504606846976 p0 r10_0 (IntKind.i64.wrap (r10_0 + 1)))

def m_tally_Normal_l4 (r14_2 : (List GChange)) : Nat → (List GChange) → Int → Option (List GChange)
  | 0, _, _ => none
  | fu_4 + 1, y4_4, y17_4 =>
    cond (decide (y17_4 < ((List.length r14_2 : Nat) : Int)))
    (Option.bind (geti r14_2 y17_4) fun x20_5 =>
    cond (decide ((0 : Int) < y17_4))
    (Option.bind (geti r14_2 (IntKind.i64.wrap (y17_4 - 1))) fun x28_7 =>
    Option.bind (m_tally_order x28_7 x20_5) fun r31_7 =>
    cond (decide (r31_7 = 0))
    (Option.bind (geti y4_4 (IntKind.i64.wrap (((List.length y4_4 : Nat) : Int) - 1))) fun x38_8 =>
    Option.bind (geti y4_4 (IntKind.i64.wrap (((List.length y4_4 : Nat) : Int) - 1))) fun x44_8 =>
    m_tally_Normal_l4 r14_2 fu_4 (List.set y4_4 (Int.toNat (IntKind.i64.wrap (((List.length y4_4 : Nat) : Int) - 1))) (GChange.mk x44_8.Loc x44_8.Time (IntKind.i64.wrap (x38_8.N + x20_5.N)))) (IntKind.i64.wrap (y17_4 + 1)))
    (Option.bind (app y4_4 ([x20_5] : List GChange)) fun a49_6 =>
    m_tally_Normal_l4 r14_2 fu_4 a49_6 (IntKind.i64.wrap (y17_4 + 1))))
    (Option.bind (app y4_4 ([x20_5] : List GChange)) fun a49_9 =>
    m_tally_Normal_l4 r14_2 fu_4 a49_9 (IntKind.i64.wrap (y17_4 + 1))))
    (Option.bind (m_slices_DeleteFunc_Change__tally_Normal_1 y4_4) fun r52_10 =>
    some r52_10)
def m_tally_Normal (p0 : (List GChange)) : Option (List GChange) :=
  Option.bind (mkl ((List.length p0 : Nat) : Int) ((GChange.mk 0 0 0) : GChange)) fun m9_0 =>
  Option.bind (cpy m9_0 p0) fun c12_1 =>
  Option.bind (m_slices_SortStableFunc_Change__tally_order c12_1) fun r14_2 =>
  m_tally_Normal_l4 r14_2 1152921504606846976 ([] : List GChange) 0

def m_token_Book_Lower (p0 : GBook) (p1 : Int) (p2 : Int) : Option (GBook × (List GChange) × Int) :=
  Option.bind (m_token_Book_held p0 p1) fun r15_0 =>
  cond (decide (r15_0.2 ≠ 0))
  (some (p0, ([] : List GChange), r15_0.2))
  (cond (decide ((1099511627776 : Int) < p2))
  (some (p0, ([] : List GChange), 8))
  (cond (decide (p2 < r15_0.1.Point.Time))
  (some (p0, ([] : List GChange), 8))
  (Option.bind (m_token_Point_change r15_0.1.Point (-1)) fun r34_2 =>
  Option.bind (m_token_Book_with p0 p1 (GLeave_.mk (GPoint.mk r15_0.1.Point.Loc p2) r15_0.1.Held)) fun r41_3 =>
  Option.bind (m_token_Point_change (GPoint.mk r15_0.1.Point.Loc p2) 1) fun r45_3 =>
  Option.bind (m_tally_Normal ([r34_2, r45_3] : List GChange)) fun r47_3 =>
  some (r41_3, r47_3, 0))))

def m_token_Book_Drop (p0 : GBook) (p1 : Int) : Option (GBook × (List GChange) × Int) :=
  Option.bind (m_token_Book_held p0 p1) fun r12_0 =>
  cond (decide (r12_0.2 ≠ 0))
  (some (p0, ([] : List GChange), r12_0.2))
  (Option.bind (m_token_Book_with p0 p1 (GLeave_.mk r12_0.1.Point false)) fun r23_1 =>
  Option.bind (m_token_Point_change r12_0.1.Point (-1)) fun r26_1 =>
  some (r23_1, ([r26_1] : List GChange), 0))

def m_token_Book_May_1 (p0 : GLeave_) (p1 : Int) (p2 : Int) : Option Bool :=
  cond p0.Held
  (cond (decide (p0.Point.Loc = p1))
  (some (decide (p0.Point.Time ≤ p2)))
  (some false))
  (some false)

def m_slices_IndexFunc_Leave__token_Book_May_1_l1 (p0 : (List GLeave_)) (p1c0 : Int) (p1c1 : Int) : Nat → Int → Option Int
  | 0, _ => none
  | fu_1 + 1, y8_1 =>
    cond (decide (y8_1 < ((List.length p0 : Nat) : Int)))
    (Option.bind (geti p0 y8_1) fun x14_2 =>
    Option.bind (m_token_Book_May_1 x14_2 p1c0 p1c1) fun r16_2 =>
    cond r16_2
    (some y8_1)
    (m_slices_IndexFunc_Leave__token_Book_May_1_l1 p0 p1c0 p1c1 fu_1 (IntKind.i64.wrap (y8_1 + 1))))
    (some (-1))
def m_slices_IndexFunc_Leave__token_Book_May_1 (p0 : (List GLeave_)) (p1c0 : Int) (p1c1 : Int) : Option Int :=
  m_slices_IndexFunc_Leave__token_Book_May_1_l1 p0 p1c0 p1c1 1152921504606846976 0

def m_slices_ContainsFunc_Leave__token_Book_May_1 (p0 : (List GLeave_)) (p1c0 : Int) (p1c1 : Int) : Option Bool :=
  Option.bind (m_slices_IndexFunc_Leave__token_Book_May_1 p0 p1c0 p1c1) fun r7_0 =>
  some (decide ((0 : Int) ≤ r7_0))

def m_token_Book_May (p0 : GBook) (p1 : Int) (p2 : Int) : Option Bool :=
  Option.bind (m_slices_ContainsFunc_Leave__token_Book_May_1 p0.L p1 p2) fun r10_0 =>
  some r10_0

def m_token_Book_Tally_l1 (p0 : GBook) : Nat → (List GChange) → Int → Option (List GChange)
  | 0, _, _ => none
  | fu_1 + 1, y3_1, y9_1 =>
    cond (decide (y9_1 < ((List.length p0.L : Nat) : Int)))
    (Option.bind (geti p0.L y9_1) fun x11_2 =>
    cond x11_2.Held
    (Option.bind (m_token_Point_change x11_2.Point 1) fun r18_3 =>
    Option.bind (app y3_1 ([r18_3] : List GChange)) fun a20_3 =>
    m_token_Book_Tally_l1 p0 fu_1 a20_3 (IntKind.i64.wrap (y9_1 + 1)))
    (m_token_Book_Tally_l1 p0 fu_1 y3_1 (IntKind.i64.wrap (y9_1 + 1))))
    (Option.bind (m_tally_Normal y3_1) fun r23_4 =>
    some r23_4)
def m_token_Book_Tally (p0 : GBook) : Option (List GChange) :=
  m_token_Book_Tally_l1 p0 1152921504606846976 ([] : List GChange) 0

def m_slices_Equal_Leave_l2 (p0 : (List GLeave_)) (p1 : (List GLeave_)) : Nat → Int → Option Bool
  | 0, _ => none
  | fu_2 + 1, y13_2 =>
    cond (decide (y13_2 < ((List.length p0 : Nat) : Int)))
    (Option.bind (geti p0 y13_2) fun x18_3 =>
    Option.bind (geti p1 y13_2) fun x22_3 =>
    Option.bind (some ((!((decide (x18_3.Point.Loc = x22_3.Point.Loc) && (decide (x18_3.Point.Time = x22_3.Point.Time) && true)) && (decide (x18_3.Held = x22_3.Held) && true))))) fun v24_3 =>
    cond v24_3
    (some false)
    (m_slices_Equal_Leave_l2 p0 p1 fu_2 (IntKind.i64.wrap (y13_2 + 1))))
    (some true)
def m_slices_Equal_Leave (p0 : (List GLeave_)) (p1 : (List GLeave_)) : Option Bool :=
  cond (decide (((List.length p0 : Nat) : Int) ≠ ((List.length p1 : Nat) : Int)))
  (some false)
  (m_slices_Equal_Leave_l2 p0 p1 1152921504606846976 0)

def m_token_Same (p0 : GBook) (p1 : GBook) : Option Bool :=
  Option.bind (m_slices_Equal_Leave p0.L p1.L) fun r9_0 =>
  some r9_0

def m_telltalelaw28_awake : Option Bool :=
  Option.bind (m_token_Book_Hold (GBook.mk ([] : List GLeave_)) (GPoint.mk 0 0)) fun r30_0 =>
  Option.bind (m_token_Book_Lower r30_0.1 r30_0.2.1 5) fun r38_1 =>
  Option.bind (m_token_Book_Lower r38_1.1 r30_0.2.1 4) fun r45_2 =>
  Option.bind (m_token_Book_Drop r38_1.1 r30_0.2.1) fun r52_3 =>
  Option.bind (m_token_Book_Drop r52_3.1 r30_0.2.1) fun r59_4 =>
  Option.bind (m_token_Book_Drop r52_3.1 1) fun r65_5 =>
  Option.bind (m_token_Book_Hold (GBook.mk ([] : List GLeave_)) (GPoint.mk 4 0)) fun r72_6 =>
  Option.bind (m_token_Book_Get r38_1.1 0) fun r79_7 =>
  cond (decide (r30_0.2.2.2 = 0))
  (cond (decide (r30_0.2.1 = 0))
  (cond (decide (((List.length r30_0.2.2.1 : Nat) : Int) = 1))
  (Option.bind (geti r30_0.2.2.1 0) fun x95_8 =>
  cond (decide (x95_8.N = 1))
  (cond (decide (r38_1.2.2 = 0))
  (cond (decide (((List.length r38_1.2.1 : Nat) : Int) = 2))
  (Option.bind (geti r38_1.2.1 0) fun x111_8 =>
  cond (decide (x111_8.Loc = 0) && (decide (x111_8.Time = 0) && (decide (x111_8.N = (-1)) && true)))
  (Option.bind (geti r38_1.2.1 1) fun x118_8 =>
  cond (decide (x118_8.Loc = 0) && (decide (x118_8.Time = 5) && (decide (x118_8.N = 1) && true)))
  (cond (decide (r45_2.2.2 = 8))
  (cond (decide (r52_3.2.2 = 0))
  (cond (decide (((List.length r52_3.2.1 : Nat) : Int) = 1))
  (Option.bind (geti r52_3.2.1 0) fun x138_8 =>
  cond (decide (x138_8.N = (-1)))
  (cond (decide (r59_4.2.2 = 20))
  (cond (decide (r65_5.2.2 = 6))
  (cond (decide (r72_6.2.2.2 = 8))
  (cond (decide (r72_6.2.1 = (-1)))
  (Option.bind (m_token_Book_May r38_1.1 0 5) fun r161_8 =>
  cond r161_8
  (Option.bind (m_token_Book_May r38_1.1 0 4) fun r165_8 =>
  cond (!r165_8)
  (cond r79_7.2
  (cond (decide (r79_7.1.Point.Time = 5))
  (cond r79_7.1.Held
  (Option.bind (m_token_Book_Tally r38_1.1) fun r183_8 =>
  cond (decide (((List.length r183_8 : Nat) : Int) = 1))
  (Option.bind (m_token_Book_Tally r52_3.1) fun r189_8 =>
  cond (decide (((List.length r189_8 : Nat) : Int) = 0))
  (Option.bind (m_token_Same r38_1.1 r38_1.1) fun r196_8 =>
  cond r196_8
  (Option.bind (m_token_Same r30_0.1 r38_1.1) fun r201_8 =>
  cond (!r201_8)
  (some true)
  (some false))
  (some false))
  (some false))
  (some false))
  (some false))
  (some false))
  (some false))
  (some false))
  (some false))
  (some false))
  (some false))
  (some false))
  (some false))
  (some false))
  (some false))
  (some false))
  (some false))
  (some false))
  (some false))
  (some false))
  (some false))
  (some false))
  (some false))
  (some false))
  (some false)

def m_telltalelaw28_Own_l0 (p0 : (List GLeave)) : Nat → (List GLeave_) → Int → Option GBook
  | 0, _, _ => none
  | fu_0 + 1, y3_d_0_0, y4_0 =>
    cond (decide (y4_0 < ((List.length p0 : Nat) : Int)))
    (Option.bind (geti p0 y4_0) fun x15_2 =>
    Option.bind (geti p0 y4_0) fun x20_2 =>
    Option.bind (geti p0 y4_0) fun x26_2 =>
    Option.bind (app y3_d_0_0 ([(GLeave_.mk (GPoint.mk x15_2.Loc x20_2.Time) x26_2.Held)] : List GLeave_)) fun a31_2 =>
    m_telltalelaw28_Own_l0 p0 fu_0 a31_2 (IntKind.i64.wrap (y4_0 + 1)))
    (some (GBook.mk y3_d_0_0))
def m_telltalelaw28_Own (p0 : (List GLeave)) : Option GBook :=
  m_telltalelaw28_Own_l0 p0 1152921504606846976 ([] : List GLeave_) 0

def m_telltaleref28_Hold_j1 (p0 : (List GLeave)) : Option ((List GLeave) × Int × (List GChange) × Int) :=
  some (p0, (-1), ([] : List GChange), 8)
def m_telltaleref28_Hold (p0 : (List GLeave)) (p1 : Int) (p2 : Int) : Option ((List GLeave) × Int × (List GChange) × Int) :=
  cond (decide (p1 < 0))
  (m_telltaleref28_Hold_j1 p0)
  (cond (decide ((3 : Int) < p1))
  (m_telltaleref28_Hold_j1 p0)
  (cond (decide (p2 < 0))
  (m_telltaleref28_Hold_j1 p0)
  (cond (decide ((1099511627776 : Int) < p2))
  (some (p0, (-1), ([] : List GChange), 8))
  (cond (decide ((100 : Int) ≤ ((List.length p0 : Nat) : Int)))
  (some (p0, (-1), ([] : List GChange), 7))
  (Option.bind (app ([] : List GLeave) p0) fun a32_3 =>
  Option.bind (app a32_3 ([(GLeave.mk p1 p2 true)] : List GLeave)) fun a37_3 =>
  some (a37_3, ((List.length p0 : Nat) : Int), ([(GChange.mk p1 p2 1)] : List GChange), 0))))))

def m_telltaleref28_why (p0 : (List GLeave)) (p1 : Int) : Option Int :=
  cond (decide (p1 < 0))
  (some 6)
  (cond (decide (((List.length p0 : Nat) : Int) ≤ p1))
  (some 6)
  (Option.bind (geti p0 p1) fun x15_1 =>
  cond (!x15_1.Held)
  (some 20)
  (some 0)))

def m_telltaleref28_with (p0 : (List GLeave)) (p1 : Int) (p2 : GLeave) : Option (List GLeave) :=
  Option.bind (app ([] : List GLeave) p0) fun a10_0 =>
  Option.bind (geti a10_0 p1) fun x14_1 =>
  some (List.set a10_0 (Int.toNat p1) p2)

def m_telltaleref26_At_l0 (p0 : (List GChange)) (p1 : Int) (p2 : Int) : Nat → Int → Int → Option Int
  | 0, _, _ => none
  | fu_0 + 1, y7_0, y8_0 =>
    cond (decide (y8_0 < ((List.length p0 : Nat) : Int)))
    (Option.bind (geti p0 y8_0) fun x17_2 =>
    cond (decide (x17_2.Loc = p1))
    (Option.bind (geti p0 y8_0) fun x25_2 =>
    cond (decide (x25_2.Time = p2))
    (Option.bind (geti p0 y8_0) fun x34_3 =>
    m_telltaleref26_At_l0 p0 p1 p2 fu_0 (IntKind.i64.wrap (y7_0 + x34_3.N)) (IntKind.i64.wrap (y8_0 + 1)))
    (m_telltaleref26_At_l0 p0 p1 p2 fu_0 y7_0 (IntKind.i64.wrap (y8_0 + 1))))
    (m_telltaleref26_At_l0 p0 p1 p2 fu_0 y7_0 (IntKind.i64.wrap (y8_0 + 1))))
    (some y7_0)
def m_telltaleref26_At (p0 : (List GChange)) (p1 : Int) (p2 : Int) : Option Int :=
  m_telltaleref26_At_l0 p0 p1 p2 1152921504606846976 0 0

def m_telltaleref26_before (p0 : GChange) (p1 : GChange) : Option Bool :=
  cond (decide (p0.Loc < p1.Loc))
  (some true)
  (cond (decide (p0.Loc = p1.Loc))
  (some (decide (p0.Time < p1.Time)))
  (some false))

def m_telltaleref26_Normal_j8 (r36_2 : Int) (x17_2 : GChange) (x22_2 : GChange) (y3_0 : List GChange) (y4_0 : Int) (k_m_telltaleref26_Normal_l0 : (List GChange) → Int → Option (List GChange)) (y6_8 : Int) : Option (List GChange) :=
  cond (decide (y6_8 < ((List.length y3_0 : Nat) : Int)))
  (Option.bind (geti y3_0 y6_8) fun x60_5 =>
  Option.bind (m_telltaleref26_before (GChange.mk x17_2.Loc x22_2.Time r36_2) x60_5) fun r62_5 =>
  cond (!(!r62_5))
  (cond (decide (r36_2 ≠ 0))
  (Option.bind (cut y3_0 0 y6_8) fun s75_6 =>
  Option.bind (app ([] : List GChange) s75_6) fun a76_6 =>
  Option.bind (app a76_6 ([(GChange.mk x17_2.Loc x22_2.Time r36_2)] : List GChange)) fun a79_6 =>
  Option.bind (cut y3_0 y6_8 ((List.length y3_0 : Nat) : Int)) fun s83_7 =>
  Option.bind (app a79_6 s83_7) fun a84_7 =>
  k_m_telltaleref26_Normal_l0 a84_7 (IntKind.i64.wrap (y4_0 + 1)))
  (k_m_telltaleref26_Normal_l0 y3_0 (IntKind.i64.wrap (y4_0 + 1))))
  (k_m_telltaleref26_Normal_l0 y3_0 (IntKind.i64.wrap (y4_0 + 1))))
  (cond (decide (r36_2 ≠ 0))
  (Option.bind (cut y3_0 0 y6_8) fun s75_10 =>
  Option.bind (app ([] : List GChange) s75_10) fun a76_10 =>
  Option.bind (app a76_10 ([(GChange.mk x17_2.Loc x22_2.Time r36_2)] : List GChange)) fun a79_10 =>
  Option.bind (cut y3_0 y6_8 ((List.length y3_0 : Nat) : Int)) fun s83_11 =>
  Option.bind (app a79_10 s83_11) fun a84_11 =>
  k_m_telltaleref26_Normal_l0 a84_11 (IntKind.i64.wrap (y4_0 + 1)))
  (k_m_telltaleref26_Normal_l0 y3_0 (IntKind.i64.wrap (y4_0 + 1))))
def m_telltaleref26_Normal_l3 (r36_2 : Int) (x17_2 : GChange) (x22_2 : GChange) (y3_0 : List GChange) (y4_0 : Int) (k_m_telltaleref26_Normal_l0 : (List GChange) → Int → Option (List GChange)) : Nat → Int → Option (List GChange)
  | 0, _ => none
  | fu_3 + 1, y6_3 =>
    cond (decide (y6_3 < ((List.length y3_0 : Nat) : Int)))
    (Option.bind (geti y3_0 y6_3) fun x45_4 =>
    Option.bind (m_telltaleref26_before x45_4 (GChange.mk x17_2.Loc x22_2.Time r36_2)) fun r48_4 =>
    cond r48_4
    (m_telltaleref26_Normal_l3 r36_2 x17_2 x22_2 y3_0 y4_0 k_m_telltaleref26_Normal_l0 fu_3 (IntKind.i64.wrap (y6_3 + 1)))
    (m_telltaleref26_Normal_j8 r36_2 x17_2 x22_2 y3_0 y4_0 k_m_telltaleref26_Normal_l0 y6_3))
    (m_telltaleref26_Normal_j8 r36_2 x17_2 x22_2 y3_0 y4_0 k_m_telltaleref26_Normal_l0 y6_3)
def m_telltaleref26_Normal_l0 (p0 : (List GChange)) : Nat → (List GChange) → Int → Option (List GChange)
  | 0, _, _ => none
  | fu_0 + 1, y3_0, y4_0 =>
    cond (decide (y4_0 < ((List.length p0 : Nat) : Int)))
    (Option.bind (geti p0 y4_0) fun x17_2 =>
    Option.bind (geti p0 y4_0) fun x22_2 =>
    Option.bind (geti p0 y4_0) fun x28_2 =>
    Option.bind (geti p0 y4_0) fun x33_2 =>
    Option.bind (m_telltaleref26_At p0 x28_2.Loc x33_2.Time) fun r36_2 =>
    m_telltaleref26_Normal_l3 r36_2 x17_2 x22_2 y3_0 y4_0 (fun y3_0 y4_0 => m_telltaleref26_Normal_l0 p0 fu_0 y3_0 y4_0) 1152921504606846976 0)
    (some y3_0)
def m_telltaleref26_Normal (p0 : (List GChange)) : Option (List GChange) :=
  m_telltaleref26_Normal_l0 p0 1152921504606846976 ([] : List GChange) 0

def m_telltaleref28_Lower (p0 : (List GLeave)) (p1 : Int) (p2 : Int) : Option ((List GLeave) × (List GChange) × Int) :=
  Option.bind (m_telltaleref28_why p0 p1) fun r14_0 =>
  cond (decide (r14_0 ≠ 0))
  (some (p0, ([] : List GChange), r14_0))
  (Option.bind (geti p0 p1) fun x21_1 =>
  cond (decide ((1099511627776 : Int) < p2))
  (some (p0, ([] : List GChange), 8))
  (cond (decide (p2 < x21_1.Time))
  (some (p0, ([] : List GChange), 8))
  (Option.bind (m_telltaleref28_with p0 p1 (GLeave.mk x21_1.Loc p2 true)) fun r48_3 =>
  Option.bind (m_telltaleref26_Normal ([(GChange.mk x21_1.Loc x21_1.Time (-1)), (GChange.mk x21_1.Loc p2 1)] : List GChange)) fun r50_3 =>
  some (r48_3, r50_3, 0))))

def m_telltaleref28_Drop (p0 : (List GLeave)) (p1 : Int) : Option ((List GLeave) × (List GChange) × Int) :=
  Option.bind (m_telltaleref28_why p0 p1) fun r11_0 =>
  cond (decide (r11_0 ≠ 0))
  (some (p0, ([] : List GChange), r11_0))
  (Option.bind (geti p0 p1) fun x18_1 =>
  Option.bind (m_telltaleref28_with p0 p1 (GLeave.mk x18_1.Loc x18_1.Time false)) fun r27_2 =>
  some (r27_2, ([(GChange.mk x18_1.Loc x18_1.Time (-1))] : List GChange), 0))

def m_telltalelaw28_Back_l0 (p0 : GBook) : Nat → (List GLeave) → Int → Option (List GLeave)
  | 0, _, _ => none
  | fu_0 + 1, y3_0, y4_0 =>
    cond (decide (y4_0 < ((List.length p0.L : Nat) : Int)))
    (Option.bind (geti p0.L y4_0) fun x16_2 =>
    Option.bind (geti p0.L y4_0) fun x23_2 =>
    Option.bind (geti p0.L y4_0) fun x30_2 =>
    Option.bind (app y3_0 ([(GLeave.mk x16_2.Point.Loc x23_2.Point.Time x30_2.Held)] : List GLeave)) fun a35_2 =>
    m_telltalelaw28_Back_l0 p0 fu_0 a35_2 (IntKind.i64.wrap (y4_0 + 1)))
    (some y3_0)
def m_telltalelaw28_Back (p0 : GBook) : Option (List GLeave) :=
  m_telltalelaw28_Back_l0 p0 1152921504606846976 ([] : List GLeave) 0

def m_telltaleref28_Same_l1 (p0 : (List GLeave)) (p1 : (List GLeave)) : Nat → Int → Option Bool
  | 0, _ => none
  | fu_1 + 1, y5_1 =>
    cond (decide (y5_1 < ((List.length p0 : Nat) : Int)))
    (Option.bind (geti p0 y5_1) fun x19_3 =>
    Option.bind (geti p1 y5_1) fun x23_3 =>
    Option.bind (some ((!(decide (x19_3.Loc = x23_3.Loc) && (decide (x19_3.Time = x23_3.Time) && (decide (x19_3.Held = x23_3.Held) && true)))))) fun v25_3 =>
    cond v25_3
    (some false)
    (m_telltaleref28_Same_l1 p0 p1 fu_1 (IntKind.i64.wrap (y5_1 + 1))))
    (some true)
def m_telltaleref28_Same (p0 : (List GLeave)) (p1 : (List GLeave)) : Option Bool :=
  cond (decide (((List.length p0 : Nat) : Int) ≠ ((List.length p1 : Nat) : Int)))
  (some false)
  (m_telltaleref28_Same_l1 p0 p1 1152921504606846976 0)

def m_telltalelaw26_Back_l0 (p0 : (List GChange)) : Nat → (List GChange) → Int → Option (List GChange)
  | 0, _, _ => none
  | fu_0 + 1, y3_0, y4_0 =>
    cond (decide (y4_0 < ((List.length p0 : Nat) : Int)))
    (Option.bind (geti p0 y4_0) fun x14_2 =>
    Option.bind (app y3_0 ([x14_2] : List GChange)) fun a17_2 =>
    m_telltalelaw26_Back_l0 p0 fu_0 a17_2 (IntKind.i64.wrap (y4_0 + 1)))
    (some y3_0)
def m_telltalelaw26_Back (p0 : (List GChange)) : Option (List GChange) :=
  m_telltalelaw26_Back_l0 p0 1152921504606846976 ([] : List GChange) 0

def m_telltaleref26_Same_l1 (p0 : (List GChange)) (p1 : (List GChange)) : Nat → Int → Option Bool
  | 0, _ => none
  | fu_1 + 1, y5_1 =>
    cond (decide (y5_1 < ((List.length p0 : Nat) : Int)))
    (Option.bind (geti p0 y5_1) fun x19_3 =>
    Option.bind (geti p1 y5_1) fun x23_3 =>
    Option.bind (some ((!(decide (x19_3.Loc = x23_3.Loc) && (decide (x19_3.Time = x23_3.Time) && (decide (x19_3.N = x23_3.N) && true)))))) fun v25_3 =>
    cond v25_3
    (some false)
    (m_telltaleref26_Same_l1 p0 p1 fu_1 (IntKind.i64.wrap (y5_1 + 1))))
    (some true)
def m_telltaleref26_Same (p0 : (List GChange)) (p1 : (List GChange)) : Option Bool :=
  cond (decide (((List.length p0 : Nat) : Int) ≠ ((List.length p1 : Nat) : Int)))
  (some false)
  (m_telltaleref26_Same_l1 p0 p1 1152921504606846976 0)

def m_telltaleref28_May_j3 (y7_0 : Int) (k_m_telltaleref28_May_l0 : Int → Option Bool) : Option Bool :=
  k_m_telltaleref28_May_l0 (IntKind.i64.wrap (y7_0 + 1))
def m_telltaleref28_May_l0 (p0 : (List GLeave)) (p1 : Int) (p2 : Int) : Nat → Int → Option Bool
  | 0, _ => none
  | fu_0 + 1, y7_0 =>
    cond (decide (y7_0 < ((List.length p0 : Nat) : Int)))
    (Option.bind (geti p0 y7_0) fun x16_2 =>
    cond x16_2.Held
    (Option.bind (geti p0 y7_0) fun x22_2 =>
    cond (decide (x22_2.Loc = p1))
    (Option.bind (geti p0 y7_0) fun x31_2 =>
    cond (decide (x31_2.Time ≤ p2))
    (some true)
    (m_telltaleref28_May_l0 p0 p1 p2 fu_0 (IntKind.i64.wrap (y7_0 + 1))))
    (m_telltaleref28_May_j3 y7_0 (fun y7_0 => m_telltaleref28_May_l0 p0 p1 p2 fu_0 y7_0)))
    (m_telltaleref28_May_j3 y7_0 (fun y7_0 => m_telltaleref28_May_l0 p0 p1 p2 fu_0 y7_0)))
    (some false)
def m_telltaleref28_May (p0 : (List GLeave)) (p1 : Int) (p2 : Int) : Option Bool :=
  m_telltaleref28_May_l0 p0 p1 p2 1152921504606846976 0

def m_telltaleref28_Tally_l0 (p0 : (List GLeave)) : Nat → (List GChange) → Int → Option (List GChange)
  | 0, _, _ => none
  | fu_0 + 1, y3_0, y4_0 =>
    cond (decide (y4_0 < ((List.length p0 : Nat) : Int)))
    (Option.bind (geti p0 y4_0) fun x13_2 =>
    cond x13_2.Held
    (Option.bind (geti p0 y4_0) fun x19_3 =>
    Option.bind (geti p0 y4_0) fun x24_3 =>
    Option.bind (app y3_0 ([(GChange.mk x19_3.Loc x24_3.Time 1)] : List GChange)) fun a29_3 =>
    m_telltaleref28_Tally_l0 p0 fu_0 a29_3 (IntKind.i64.wrap (y4_0 + 1)))
    (m_telltaleref28_Tally_l0 p0 fu_0 y3_0 (IntKind.i64.wrap (y4_0 + 1))))
    (Option.bind (m_telltaleref26_Normal y3_0) fun r31_4 =>
    some r31_4)
def m_telltaleref28_Tally (p0 : (List GLeave)) : Option (List GChange) :=
  m_telltaleref28_Tally_l0 p0 1152921504606846976 ([] : List GChange) 0

def m_telltalelaw28_TokenTurns_j17 (p0 : GArr2_List_GLeave) (p1 : GTurn) (r30_3 : GBook) (y10_10 : Int) (y11_10 : Int) (y6_d_10 : GBook) (y7_10 : List GLeave) (y8_10 : List GChange) (y9_10 : List GChange) : Option Bool :=
  Option.bind (m_telltalelaw28_Back y6_d_10) fun r146_18 =>
  Option.bind (m_telltaleref28_Same r146_18 y7_10) fun r148_18 =>
  cond r148_18
  (Option.bind (m_telltalelaw26_Back y8_10) fun r151_18 =>
  Option.bind (m_telltaleref26_Same r151_18 y9_10) fun r153_18 =>
  cond r153_18
  (cond (decide (y10_10 = y11_10))
  (Option.bind (m_token_Book_May r30_3 p1.A p1.B) fun r166_18 =>
  Option.bind (m_telltaleref28_May p0.a0 p1.A p1.B) fun r173_18 =>
  cond (decide (r166_18 = r173_18))
  (Option.bind (m_token_Book_Tally r30_3) fun r178_18 =>
  Option.bind (m_telltalelaw26_Back r178_18) fun r179_18 =>
  Option.bind (m_telltaleref28_Tally p0.a0) fun r182_18 =>
  Option.bind (m_telltaleref26_Same r179_18 r182_18) fun r183_18 =>
  cond r183_18
  (Option.bind (m_telltalelaw28_Own p0.a1) fun r189_18 =>
  Option.bind (m_token_Same r30_3 r189_18) fun r190_18 =>
  Option.bind (m_telltaleref28_Same p0.a0 p0.a1) fun r195_18 =>
  cond (decide (r190_18 = r195_18))
  (Option.bind (m_telltalelaw28_Back r30_3) fun r200_18 =>
  Option.bind (m_telltaleref28_Same r200_18 p0.a0) fun r203_18 =>
  cond r203_18
  (Option.bind m_telltalelaw28_awake fun r206_18 =>
  some r206_18)
  (some false))
  (some false))
  (some false))
  (some false))
  (some false))
  (some false))
  (some false)
def m_telltalelaw28_TokenTurns_j14 : Option Bool :=
  some false
def m_telltalelaw28_TokenTurns_j15 (p0 : GArr2_List_GLeave) (p1 : GTurn) (r30_3 : GBook) (y10_10 : Int) (y11_10 : Int) (y6_d_10 : GBook) (y7_10 : List GLeave) (y8_10 : List GChange) (y9_10 : List GChange) (y144_15 : Bool) : Option Bool :=
  cond y144_15
  (some false)
  (m_telltalelaw28_TokenTurns_j17 p0 p1 r30_3 y10_10 y11_10 y6_d_10 y7_10 y8_10 y9_10)
def m_telltalelaw28_TokenTurns_j16 (p0 : GArr2_List_GLeave) (p1 : GTurn) (r30_3 : GBook) (y10_10 : Int) (y11_10 : Int) (y6_d_10 : GBook) (y7_10 : List GLeave) (y8_10 : List GChange) (y9_10 : List GChange) : Option Bool :=
  m_telltalelaw28_TokenTurns_j17 p0 p1 r30_3 y10_10 y11_10 y6_d_10 y7_10 y8_10 y9_10
def m_telltalelaw28_TokenTurns_j10 (p0 : GArr2_List_GLeave) (p1 : GTurn) (r30_3 : GBook) (y6_d_10 : GBook) (y7_10 : List GLeave) (y8_10 : List GChange) (y9_10 : List GChange) (y10_10 : Int) (y11_10 : Int) : Option Bool :=
  Option.bind (m_token_Book_Get r30_3 p1.A) fun r106_11 =>
  cond (decide ((0 : Int) ≤ p1.A))
  (cond (decide (r106_11.2 ≠ decide (p1.A < ((List.length p0.a0 : Nat) : Int))))
  (m_telltalelaw28_TokenTurns_j14 )
  (cond (decide (p1.A < ((List.length p0.a0 : Nat) : Int)))
  (Option.bind (geti r30_3.L p1.A) fun x131_13 =>
  Option.bind (some ((!((decide (r106_11.1.Point.Loc = x131_13.Point.Loc) && (decide (r106_11.1.Point.Time = x131_13.Point.Time) && true)) && (decide (r106_11.1.Held = x131_13.Held) && true))))) fun v133_13 =>
  cond v133_13
  (m_telltalelaw28_TokenTurns_j14 )
  (cond (!decide (p1.A < ((List.length p0.a0 : Nat) : Int)))
  (Option.bind (some ((!((decide (r106_11.1.Point.Loc = 0) && (decide (r106_11.1.Point.Time = 0) && true)) && (decide (r106_11.1.Held = false) && true))))) fun v142_13 =>
  m_telltalelaw28_TokenTurns_j15 p0 p1 r30_3 y10_10 y11_10 y6_d_10 y7_10 y8_10 y9_10 v142_13)
  (m_telltalelaw28_TokenTurns_j16 p0 p1 r30_3 y10_10 y11_10 y6_d_10 y7_10 y8_10 y9_10)))
  (cond (!decide (p1.A < ((List.length p0.a0 : Nat) : Int)))
  (Option.bind (some ((!((decide (r106_11.1.Point.Loc = 0) && (decide (r106_11.1.Point.Time = 0) && true)) && (decide (r106_11.1.Held = false) && true))))) fun v142_13 =>
  m_telltalelaw28_TokenTurns_j15 p0 p1 r30_3 y10_10 y11_10 y6_d_10 y7_10 y8_10 y9_10 v142_13)
  (m_telltalelaw28_TokenTurns_j16 p0 p1 r30_3 y10_10 y11_10 y6_d_10 y7_10 y8_10 y9_10))))
  (cond (decide (r106_11.2 ≠ false))
  (some false)
  (Option.bind (some ((!((decide (r106_11.1.Point.Loc = 0) && (decide (r106_11.1.Point.Time = 0) && true)) && (decide (r106_11.1.Held = false) && true))))) fun v142_19 =>
  cond v142_19
  (some false)
  (Option.bind (m_telltalelaw28_Back y6_d_10) fun r146_20 =>
  Option.bind (m_telltaleref28_Same r146_20 y7_10) fun r148_20 =>
  cond r148_20
  (Option.bind (m_telltalelaw26_Back y8_10) fun r151_20 =>
  Option.bind (m_telltaleref26_Same r151_20 y9_10) fun r153_20 =>
  cond r153_20
  (cond (decide (y10_10 = y11_10))
  (Option.bind (m_token_Book_May r30_3 p1.A p1.B) fun r166_20 =>
  Option.bind (m_telltaleref28_May p0.a0 p1.A p1.B) fun r173_20 =>
  cond (decide (r166_20 = r173_20))
  (Option.bind (m_token_Book_Tally r30_3) fun r178_20 =>
  Option.bind (m_telltalelaw26_Back r178_20) fun r179_20 =>
  Option.bind (m_telltaleref28_Tally p0.a0) fun r182_20 =>
  Option.bind (m_telltaleref26_Same r179_20 r182_20) fun r183_20 =>
  cond r183_20
  (Option.bind (m_telltalelaw28_Own p0.a1) fun r189_20 =>
  Option.bind (m_token_Same r30_3 r189_20) fun r190_20 =>
  Option.bind (m_telltaleref28_Same p0.a0 p0.a1) fun r195_20 =>
  cond (decide (r190_20 = r195_20))
  (Option.bind (m_telltalelaw28_Back r30_3) fun r200_20 =>
  Option.bind (m_telltaleref28_Same r200_20 p0.a0) fun r203_20 =>
  cond r203_20
  (Option.bind m_telltalelaw28_awake fun r206_20 =>
  some r206_20)
  (some false))
  (some false))
  (some false))
  (some false))
  (some false))
  (some false))
  (some false))))
def m_telltalelaw28_TokenTurns (p0 : GArr2_List_GLeave) (p1 : GTurn) : Option Bool :=
  cond (decide ((101 : Int) < ((List.length p0.a0 : Nat) : Int)))
  (Option.bind m_telltalelaw28_awake fun r27_1 =>
  some r27_1)
  (cond (decide ((101 : Int) < ((List.length p0.a1 : Nat) : Int)))
  (Option.bind m_telltalelaw28_awake fun r27_2 =>
  some r27_2)
  (Option.bind (m_telltalelaw28_Own p0.a0) fun r30_3 =>
  cond (decide (((p1.Kind.toNat : Nat) : Int) = 0))
  (Option.bind (m_token_Book_Hold r30_3 (GPoint.mk p1.A p1.B)) fun r41_4 =>
  Option.bind (m_telltaleref28_Hold p0.a0 p1.A p1.B) fun r53_5 =>
  cond (decide (r41_4.2.1 ≠ r53_5.2.1))
  (some false)
  (m_telltalelaw28_TokenTurns_j10 p0 p1 r30_3 r41_4.1 r53_5.1 r41_4.2.2.1 r53_5.2.2.1 r41_4.2.2.2 r53_5.2.2.2))
  (cond (decide (((p1.Kind.toNat : Nat) : Int) = 1))
  (Option.bind (m_token_Book_Lower r30_3 p1.A p1.B) fun r70_6 =>
  Option.bind (m_telltaleref28_Lower p0.a0 p1.A p1.B) fun r81_7 =>
  m_telltalelaw28_TokenTurns_j10 p0 p1 r30_3 r70_6.1 r81_7.1 r70_6.2.1 r81_7.2.1 r70_6.2.2 r81_7.2.2)
  (Option.bind (m_token_Book_Drop r30_3 p1.A) fun r89_8 =>
  Option.bind (m_telltaleref28_Drop p0.a0 p1.A) fun r98_9 =>
  m_telltalelaw28_TokenTurns_j10 p0 p1 r30_3 r89_8.1 r98_9.1 r89_8.2.1 r98_9.2.1 r89_8.2.2 r98_9.2.2))))

def m_slices_Grow_Change (p1 : Int) : Option (List GChange) :=
  cond (decide (p1 < 0))
  (none)
  (cond (decide ((0 : Int) < (IntKind.i64.wrap (p1 - 0))))
  (Option.bind (mkl (IntKind.i64.wrap (p1 - 0)) ((GChange.mk 0 0 0) : GChange)) fun a22_1 =>
  chk (0 < Int.toNat (IntKind.i64.wrap (p1 - 0))) (
  Option.bind (cut a22_1 0 0) fun s25_1 =>
  some s25_1))
  (some ([] : List GChange)))

def m_slices_Concat_Change_l6 (p0 : (List (List GChange))) : Nat → (List GChange) → Int → Option (List GChange)
  | 0, _, _ => none
  | fu_6 + 1, y6_6, y27_6 =>
    cond (decide (y27_6 < ((List.length p0 : Nat) : Int)))
    (Option.bind (geti p0 y27_6) fun x29_7 =>
    Option.bind (app y6_6 x29_7) fun a33_8 =>
    m_slices_Concat_Change_l6 p0 fu_6 a33_8 (IntKind.i64.wrap (y27_6 + 1)))
    (some y6_6)
def m_slices_Concat_Change_l1 (p0 : (List (List GChange))) : Nat → Int → Int → Option (List GChange)
  | 0, _, _ => none
  | fu_1 + 1, y3_1, y11_1 =>
    cond (decide (y11_1 < ((List.length p0 : Nat) : Int)))
    (Option.bind (geti p0 y11_1) fun x13_2 =>
    cond (decide ((IntKind.i64.wrap (y3_1 + ((List.length x13_2 : Nat) : Int))) < 0))
    (none)
    (m_slices_Concat_Change_l1 p0 fu_1 (IntKind.i64.wrap (y3_1 + ((List.length x13_2 : Nat) : Int))) (IntKind.i64.wrap (y11_1 + 1))))
    (Option.bind (m_slices_Grow_Change y3_1) fun r24_4 =>
    m_slices_Concat_Change_l6 p0 1152921504606846976 r24_4 0)
def m_slices_Concat_Change (p0 : (List (List GChange))) : Option (List GChange) :=
  m_slices_Concat_Change_l1 p0 1152921504606846976 0 0

def m_tally_Merge (p0 : (List GChange)) (p1 : (List GChange)) : Option (List GChange) :=
  Option.bind (m_slices_Concat_Change ([p0, p1] : List (List GChange))) fun r8_0 =>
  Option.bind (m_tally_Normal r8_0) fun r9_0 =>
  some r9_0

def m_slices_Equal_Change_l2 (p0 : (List GChange)) (p1 : (List GChange)) : Nat → Int → Option Bool
  | 0, _ => none
  | fu_2 + 1, y13_2 =>
    cond (decide (y13_2 < ((List.length p0 : Nat) : Int)))
    (Option.bind (geti p0 y13_2) fun x18_3 =>
    Option.bind (geti p1 y13_2) fun x22_3 =>
    Option.bind (some ((!(decide (x18_3.Loc = x22_3.Loc) && (decide (x18_3.Time = x22_3.Time) && (decide (x18_3.N = x22_3.N) && true)))))) fun v24_3 =>
    cond v24_3
    (some false)
    (m_slices_Equal_Change_l2 p0 p1 fu_2 (IntKind.i64.wrap (y13_2 + 1))))
    (some true)
def m_slices_Equal_Change (p0 : (List GChange)) (p1 : (List GChange)) : Option Bool :=
  cond (decide (((List.length p0 : Nat) : Int) ≠ ((List.length p1 : Nat) : Int)))
  (some false)
  (m_slices_Equal_Change_l2 p0 p1 1152921504606846976 0)

def m_tally_Same (p0 : (List GChange)) (p1 : (List GChange)) : Option Bool :=
  Option.bind (m_slices_Equal_Change p0 p1) fun r7_0 =>
  some r7_0

def m_front_Of_j4 (y11_1 : Int) (y5_1 : Int) (k_m_front_Of_l1 : Int → Int → Option Int) : Option Int :=
  k_m_front_Of_l1 y5_1 (IntKind.i64.wrap (y11_1 + 1))
def m_front_Of_l1 (p1 : Int) (r9_0 : (List GChange)) : Nat → Int → Int → Option Int
  | 0, _, _ => none
  | fu_1 + 1, y5_1, y11_1 =>
    cond (decide (y11_1 < ((List.length r9_0 : Nat) : Int)))
    (Option.bind (geti r9_0 y11_1) fun x13_2 =>
    cond (decide ((0 : Int) < x13_2.N))
    (Option.bind (m_front_Leads x13_2.Loc p1) fun r22_3 =>
    cond r22_3
    (cond (decide (x13_2.Time < y5_1))
    (m_front_Of_l1 p1 r9_0 fu_1 x13_2.Time (IntKind.i64.wrap (y11_1 + 1)))
    (m_front_Of_l1 p1 r9_0 fu_1 y5_1 (IntKind.i64.wrap (y11_1 + 1))))
    (m_front_Of_j4 y11_1 y5_1 (fun y5_1 y11_1 => m_front_Of_l1 p1 r9_0 fu_1 y5_1 y11_1)))
    (m_front_Of_j4 y11_1 y5_1 (fun y5_1 y11_1 => m_front_Of_l1 p1 r9_0 fu_1 y5_1 y11_1)))
    (some (max y5_1 0))
def m_front_Of (p0 : (List GChange)) (p1 : Int) : Option Int :=
  Option.bind (m_tally_Normal p0) fun r9_0 =>
  m_front_Of_l1 p1 r9_0 1152921504606846976 1099511627777 0

def m_front_All_l0 (p0 : (List GChange)) : Nat → GArr4_Int → Int → Option GArr4_Int
  | 0, _, _ => none
  | fu_0 + 1, y3_d_0, y5_0 =>
    cond (decide (y5_0 < 4))
    (Option.bind (m_front_Of p0 y5_0) fun r11_1 =>
    cond (decide (y5_0 = 0))
    (m_front_All_l0 p0 fu_0 (GArr4_Int.mk r11_1 y3_d_0.a1 y3_d_0.a2 y3_d_0.a3) (IntKind.i64.wrap (y5_0 + 1)))
    (cond (decide (y5_0 = 1))
    (m_front_All_l0 p0 fu_0 (GArr4_Int.mk y3_d_0.a0 r11_1 y3_d_0.a2 y3_d_0.a3) (IntKind.i64.wrap (y5_0 + 1)))
    (cond (decide (y5_0 = 2))
    (m_front_All_l0 p0 fu_0 (GArr4_Int.mk y3_d_0.a0 y3_d_0.a1 r11_1 y3_d_0.a3) (IntKind.i64.wrap (y5_0 + 1)))
    (cond (decide (y5_0 = 3))
    (m_front_All_l0 p0 fu_0 (GArr4_Int.mk y3_d_0.a0 y3_d_0.a1 y3_d_0.a2 r11_1) (IntKind.i64.wrap (y5_0 + 1)))
    (none)))))
    (some y3_d_0)
def m_front_All (p0 : (List GChange)) : Option GArr4_Int :=
  m_front_All_l0 p0 1152921504606846976 (GArr4_Int.mk 0 0 0 0) 0

def m_front_Drops_l1 (r11_0 : GArr4_Int) (r9_0 : GArr4_Int) : Nat → Int → Option Bool
  | 0, _ => none
  | fu_1 + 1, y12_1 =>
    cond (decide (y12_1 < 4))
    (Option.bind (geti ([r11_0.a0, r11_0.a1, r11_0.a2, r11_0.a3] : List Int) y12_1) fun x16_2 =>
    Option.bind (geti ([r9_0.a0, r9_0.a1, r9_0.a2, r9_0.a3] : List Int) y12_1) fun x19_2 =>
    cond (decide (x16_2 < x19_2))
    (some true)
    (m_front_Drops_l1 r11_0 r9_0 fu_1 (IntKind.i64.wrap (y12_1 + 1))))
    (some false)
def m_front_Drops (p0 : (List GChange)) (p1 : (List GChange)) : Option Bool :=
  Option.bind (m_front_All p0) fun r9_0 =>
  Option.bind (m_front_All p1) fun r11_0 =>
  m_front_Drops_l1 r11_0 r9_0 1152921504606846976 0

def m_telltalelaw28_TokenSums_j17 (y11_15 : Int) (k_m_telltalelaw28_TokenSums_l15 : Int → Option Bool) : Option Bool :=
  k_m_telltalelaw28_TokenSums_l15 (IntKind.i64.wrap (y11_15 + 1))
def m_telltalelaw28_TokenSums_l23 (r98_12 : (List GChange)) (y5_2 : Int) (y6_d_9 : GBook) (k_m_telltalelaw28_TokenSums_l2 : GBook → (List GChange) → Int → Option Bool) : Nat → Int → Option Bool
  | 0, _ => none
  | fu_23 + 1, y14_23 =>
    cond (decide (y14_23 < ((List.length r98_12 : Nat) : Int)))
    (Option.bind (geti r98_12 y14_23) fun x227_25 =>
    cond (decide (x227_25.N ≤ 0))
    (some false)
    (m_telltalelaw28_TokenSums_l23 r98_12 y5_2 y6_d_9 k_m_telltalelaw28_TokenSums_l2 fu_23 (IntKind.i64.wrap (y14_23 + 1))))
    (k_m_telltalelaw28_TokenSums_l2 y6_d_9 r98_12 (IntKind.i64.wrap (y5_2 + 1)))
def m_telltalelaw28_TokenSums_j22 (r98_12 : (List GChange)) (y5_2 : Int) (y6_d_9 : GBook) (k_m_telltalelaw28_TokenSums_l2 : GBook → (List GChange) → Int → Option Bool) : Option Bool :=
  m_telltalelaw28_TokenSums_l23 r98_12 y5_2 y6_d_9 k_m_telltalelaw28_TokenSums_l2 1152921504606846976 0
def m_telltalelaw28_TokenSums_j20 : Option Bool :=
  some false
def m_telltalelaw28_TokenSums_j21 (r98_12 : (List GChange)) (y5_2 : Int) (y6_d_9 : GBook) (k_m_telltalelaw28_TokenSums_l2 : GBook → (List GChange) → Int → Option Bool) : Option Bool :=
  m_telltalelaw28_TokenSums_j22 r98_12 y5_2 y6_d_9 k_m_telltalelaw28_TokenSums_l2
def m_telltalelaw28_TokenSums_l15 (p0 : (List GTurn)) (r98_12 : (List GChange)) (y4_2 : List GChange) (y5_2 : Int) (y6_d_9 : GBook) (y8_9 : Int) (y9_9 : Int) (k_m_telltalelaw28_TokenSums_l2 : GBook → (List GChange) → Int → Option Bool) : Nat → Int → Option Bool
  | 0, _ => none
  | fu_15 + 1, y11_15 =>
    cond (decide (y11_15 < 4))
    (cond (decide (y8_9 = 0))
    (Option.bind (geti p0 y5_2) fun x126_16 =>
    cond (decide (((x126_16.Kind.toNat : Nat) : Int) = 0))
    (Option.bind (m_front_Of r98_12 y11_15) fun r134_16 =>
    Option.bind (m_front_Of y4_2 y11_15) fun r137_16 =>
    cond (decide (r134_16 < r137_16))
    (Option.bind (m_front_Of r98_12 y11_15) fun r143_16 =>
    Option.bind (geti p0 y5_2) fun x146_16 =>
    cond (decide (r143_16 ≠ x146_16.B))
    (some false)
    (Option.bind (geti p0 y5_2) fun x153_16 =>
    Option.bind (m_front_Leads x153_16.A y11_15) fun r157_16 =>
    cond (!r157_16)
    (some false)
    (m_telltalelaw28_TokenSums_l15 p0 r98_12 y4_2 y5_2 y6_d_9 y8_9 y9_9 k_m_telltalelaw28_TokenSums_l2 fu_15 (IntKind.i64.wrap (y11_15 + 1)))))
    (m_telltalelaw28_TokenSums_j17 y11_15 (fun y11_15 => m_telltalelaw28_TokenSums_l15 p0 r98_12 y4_2 y5_2 y6_d_9 y8_9 y9_9 k_m_telltalelaw28_TokenSums_l2 fu_15 y11_15)))
    (m_telltalelaw28_TokenSums_j17 y11_15 (fun y11_15 => m_telltalelaw28_TokenSums_l15 p0 r98_12 y4_2 y5_2 y6_d_9 y8_9 y9_9 k_m_telltalelaw28_TokenSums_l2 fu_15 y11_15)))
    (m_telltalelaw28_TokenSums_j17 y11_15 (fun y11_15 => m_telltalelaw28_TokenSums_l15 p0 r98_12 y4_2 y5_2 y6_d_9 y8_9 y9_9 k_m_telltalelaw28_TokenSums_l2 fu_15 y11_15)))
    (Option.bind (m_token_Book_Get y6_d_9 y9_9) fun r164_18 =>
    cond (decide (y8_9 = 0))
    (Option.bind (geti p0 y5_2) fun x172_19 =>
    cond (decide (((x172_19.Kind.toNat : Nat) : Int) = 0))
    (cond (!r164_18.2)
    (m_telltalelaw28_TokenSums_j20 )
    (cond (!r164_18.1.Held)
    (m_telltalelaw28_TokenSums_j20 )
    (Option.bind (geti p0 y5_2) fun x191_19 =>
    cond (decide (r164_18.1.Point.Loc ≠ x191_19.A))
    (m_telltalelaw28_TokenSums_j20 )
    (Option.bind (geti p0 y5_2) fun x202_19 =>
    cond (decide (r164_18.1.Point.Time ≠ x202_19.B))
    (m_telltalelaw28_TokenSums_j20 )
    (Option.bind (m_token_Book_May y6_d_9 r164_18.1.Point.Loc r164_18.1.Point.Time) fun r215_19 =>
    cond (!r215_19)
    (some false)
    (m_telltalelaw28_TokenSums_j22 r98_12 y5_2 y6_d_9 k_m_telltalelaw28_TokenSums_l2))))))
    (m_telltalelaw28_TokenSums_j21 r98_12 y5_2 y6_d_9 k_m_telltalelaw28_TokenSums_l2))
    (m_telltalelaw28_TokenSums_j21 r98_12 y5_2 y6_d_9 k_m_telltalelaw28_TokenSums_l2))
def m_telltalelaw28_TokenSums_j14 (p0 : (List GTurn)) (r98_12 : (List GChange)) (y4_2 : List GChange) (y5_2 : Int) (y6_d_9 : GBook) (y8_9 : Int) (y9_9 : Int) (k_m_telltalelaw28_TokenSums_l2 : GBook → (List GChange) → Int → Option Bool) : Option Bool :=
  m_telltalelaw28_TokenSums_l15 p0 r98_12 y4_2 y5_2 y6_d_9 y8_9 y9_9 k_m_telltalelaw28_TokenSums_l2 1152921504606846976 0
def m_telltalelaw28_TokenSums_j11 (p0 : (List GTurn)) (y4_2 : List GChange) (y5_2 : Int) (y6_d_9 : GBook) (y7_9 : List GChange) (y8_9 : Int) (y9_9 : Int) (k_m_telltalelaw28_TokenSums_l2 : GBook → (List GChange) → Int → Option Bool) : Option Bool :=
  Option.bind (m_tally_Merge y4_2 y7_9) fun r98_12 =>
  Option.bind (m_token_Book_Tally y6_d_9) fun r101_13 =>
  Option.bind (m_tally_Same r98_12 r101_13) fun r102_13 =>
  cond (!r102_13)
  (some false)
  (Option.bind (geti p0 y5_2) fun x107_13 =>
  cond (decide (((x107_13.Kind.toNat : Nat) : Int) ≠ 0))
  (Option.bind (m_front_Drops y4_2 r98_12) fun r114_13 =>
  cond r114_13
  (some false)
  (m_telltalelaw28_TokenSums_j14 p0 r98_12 y4_2 y5_2 y6_d_9 y8_9 y9_9 k_m_telltalelaw28_TokenSums_l2))
  (m_telltalelaw28_TokenSums_j14 p0 r98_12 y4_2 y5_2 y6_d_9 y8_9 y9_9 k_m_telltalelaw28_TokenSums_l2))
def m_telltalelaw28_TokenSums_j9 (p0 : (List GTurn)) (y3_d_2 : GBook) (y4_2 : List GChange) (y5_2 : Int) (k_m_telltalelaw28_TokenSums_l2 : GBook → (List GChange) → Int → Option Bool) (y6_d_9 : GBook) (y7_9 : List GChange) (y8_9 : Int) (y9_9 : Int) : Option Bool :=
  cond (decide (y8_9 ≠ 0))
  (Option.bind (m_token_Same y6_d_9 y3_d_2) fun r88_10 =>
  cond (!r88_10)
  (some false)
  (cond (decide (((List.length y7_9 : Nat) : Int) ≠ 0))
  (some false)
  (m_telltalelaw28_TokenSums_j11 p0 y4_2 y5_2 y6_d_9 y7_9 y8_9 y9_9 k_m_telltalelaw28_TokenSums_l2)))
  (m_telltalelaw28_TokenSums_j11 p0 y4_2 y5_2 y6_d_9 y7_9 y8_9 y9_9 k_m_telltalelaw28_TokenSums_l2)
def m_telltalelaw28_TokenSums_l2 (p0 : (List GTurn)) : Nat → GBook → (List GChange) → Int → Option Bool
  | 0, _, _, _ => none
  | fu_2 + 1, y3_d_2, y4_2, y5_2 =>
    cond (decide (y5_2 < ((List.length p0 : Nat) : Int)))
    (Option.bind (geti p0 y5_2) fun x28_4 =>
    cond (decide (((x28_4.Kind.toNat : Nat) : Int) = 0))
    (Option.bind (geti p0 y5_2) fun x36_5 =>
    Option.bind (geti p0 y5_2) fun x41_5 =>
    Option.bind (m_token_Book_Hold y3_d_2 (GPoint.mk x36_5.A x41_5.B)) fun r45_5 =>
    m_telltalelaw28_TokenSums_j9 p0 y3_d_2 y4_2 y5_2 (fun y3_d_2 y4_2 y5_2 => m_telltalelaw28_TokenSums_l2 p0 fu_2 y3_d_2 y4_2 y5_2) r45_5.1 r45_5.2.2.1 r45_5.2.2.2 r45_5.2.1)
    (Option.bind (geti p0 y5_2) fun x52_6 =>
    cond (decide (((x52_6.Kind.toNat : Nat) : Int) = 1))
    (Option.bind (geti p0 y5_2) fun x60_7 =>
    Option.bind (geti p0 y5_2) fun x65_7 =>
    Option.bind (m_token_Book_Lower y3_d_2 x60_7.A x65_7.B) fun r68_7 =>
    m_telltalelaw28_TokenSums_j9 p0 y3_d_2 y4_2 y5_2 (fun y3_d_2 y4_2 y5_2 => m_telltalelaw28_TokenSums_l2 p0 fu_2 y3_d_2 y4_2 y5_2) r68_7.1 r68_7.2.1 r68_7.2.2 0)
    (Option.bind (geti p0 y5_2) fun x76_8 =>
    Option.bind (m_token_Book_Drop y3_d_2 x76_8.A) fun r79_8 =>
    m_telltalelaw28_TokenSums_j9 p0 y3_d_2 y4_2 y5_2 (fun y3_d_2 y4_2 y5_2 => m_telltalelaw28_TokenSums_l2 p0 fu_2 y3_d_2 y4_2 y5_2) r79_8.1 r79_8.2.1 r79_8.2.2 0)))
    (Option.bind m_telltalelaw28_awake fun r233_26 =>
    some r233_26)
def m_telltalelaw28_TokenSums (p0 : (List GTurn)) : Option Bool :=
  cond (decide ((40 : Int) < ((List.length p0 : Nat) : Int)))
  (Option.bind m_telltalelaw28_awake fun r18_1 =>
  some r18_1)
  (m_telltalelaw28_TokenSums_l2 p0 1152921504606846976 (GBook.mk ([] : List GLeave_)) ([] : List GChange) 0)
end Go.Proofs.Ytkamekhkkkeedaa.K
