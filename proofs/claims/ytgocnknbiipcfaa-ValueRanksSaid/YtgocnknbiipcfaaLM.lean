/- models of the program's functions -/
import Derived.Test.YtgocnknbiipcfaaLT
namespace Go.Proofs.Ytgocnknbiipcfaa.K
open Go.RowKit Go.Lib
set_option linter.unusedVariables false
set_option linter.unusedSimpArgs false

def m_value_OfText_j2 (y0_2 : List UInt8) : Option GValue :=
  some (GValue.mk 4 0 0 y0_2)
def m_value_OfText (p0 : (List UInt8)) : Option GValue :=
  cond (decide ((24 : Int) < ((List.length p0 : Nat) : Int)))
  (Option.bind (cut p0 0 24) fun s7_1 =>
  m_value_OfText_j2  s7_1)
  (m_value_OfText_j2  p0)

def m_value_core (p0 : GValue) : Option Value :=
  cond (decide (((p0.Kind.toNat : Nat) : Int) = 1))
  (some (Value.iface 62 (.int .i64 p0.N)))
  (cond (decide (((p0.Kind.toNat : Nat) : Int) = 2))
  (some (Value.iface 63 (.int .i64 p0.N)))
  (cond (decide (((p0.Kind.toNat : Nat) : Int) = 3))
  (some (Value.iface 64 (.int .u64 p0.Bits)))
  (cond (decide (((p0.Kind.toNat : Nat) : Int) = 4))
  (some (Value.iface 66 (.string (toS p0.Text))))
  (some Value.nilIface))))

def m_real_of (p0 : Int) : Option Nat :=
  some (Int.toNat p0)

def m_real_Clean (p0 : Int) : Option Int :=
  Option.bind (m_real_of p0) fun r5_0 =>
  cond (fne r5_0 r5_0)
  (some 9221120237041090560)
  (some p0)

def m_value_number_whole (p0 : Int) : Option GValue :=
  some (GValue.mk 1 p0 0 ([] : List UInt8))

def m_value_flag_whole (p0 : Int) : Option GValue :=
  some (GValue.mk 2 p0 0 ([] : List UInt8))

def m_value_double_whole (p0 : Int) : Option GValue :=
  some (GValue.mk 3 0 p0 ([] : List UInt8))

def m_value_words_whole (p0 : (List UInt8)) : Option GValue :=
  some (GValue.mk 4 0 0 p0)

def m_value_Check_j11 (y46_11 : Bool) : Option Int :=
  cond y46_11
  (some 2)
  (some 0)
def m_value_Check_j9 (p0 : GValue) (r10_0 : Value) : Option Int :=
  cond (isT 62 r10_0)
  (Option.bind (inI .i64 r10_0) fun n44_10_62 =>
  Option.bind (m_value_number_whole n44_10_62) fun r44_10_62 =>
  Option.bind (some ((!(decide (((r44_10_62.Kind.toNat : Nat) : Int) = ((p0.Kind.toNat : Nat) : Int)) && (decide (r44_10_62.N = p0.N) && (decide (r44_10_62.Bits = p0.Bits) && (decide (r44_10_62.Text = p0.Text) && true))))))) fun v46_10 =>
  m_value_Check_j11  v46_10)
  (cond (isT 63 r10_0)
  (Option.bind (inI .i64 r10_0) fun n44_10_63 =>
  Option.bind (m_value_flag_whole n44_10_63) fun r44_10_63 =>
  Option.bind (some ((!(decide (((r44_10_63.Kind.toNat : Nat) : Int) = ((p0.Kind.toNat : Nat) : Int)) && (decide (r44_10_63.N = p0.N) && (decide (r44_10_63.Bits = p0.Bits) && (decide (r44_10_63.Text = p0.Text) && true))))))) fun v46_10 =>
  m_value_Check_j11  v46_10)
  (cond (isT 64 r10_0)
  (Option.bind (inI .u64 r10_0) fun n44_10_64 =>
  Option.bind (m_value_double_whole n44_10_64) fun r44_10_64 =>
  Option.bind (some ((!(decide (((r44_10_64.Kind.toNat : Nat) : Int) = ((p0.Kind.toNat : Nat) : Int)) && (decide (r44_10_64.N = p0.N) && (decide (r44_10_64.Bits = p0.Bits) && (decide (r44_10_64.Text = p0.Text) && true))))))) fun v46_10 =>
  m_value_Check_j11  v46_10)
  (cond (isT 66 r10_0)
  (Option.bind (inS r10_0) fun n44_10_66 =>
  Option.bind (m_value_words_whole n44_10_66) fun r44_10_66 =>
  Option.bind (some ((!(decide (((r44_10_66.Kind.toNat : Nat) : Int) = ((p0.Kind.toNat : Nat) : Int)) && (decide (r44_10_66.N = p0.N) && (decide (r44_10_66.Bits = p0.Bits) && (decide (r44_10_66.Text = p0.Text) && true))))))) fun v46_10 =>
  m_value_Check_j11  v46_10)
  (none))))
def m_value_Check (p0 : GValue) : Option Int :=
  Option.bind (m_value_core p0) fun r10_0 =>
  Option.bind (tasI .i64 62 r10_0) fun z12_1 =>
  cond z12_1.2
  (cond (decide (z12_1.1 < (-4611686018427387904)))
  (some 8)
  (cond (decide ((4611686018427387904 : Int) < z12_1.1))
  (some 8)
  (m_value_Check_j9 p0 r10_0)))
  (Option.bind (tasI .i64 63 r10_0) fun z21_3 =>
  cond z21_3.2
  (cond (decide (z21_3.1 ≠ 0))
  (cond (decide (z21_3.1 ≠ 1))
  (some 8)
  (m_value_Check_j9 p0 r10_0))
  (m_value_Check_j9 p0 r10_0))
  (Option.bind (tasI .u64 64 r10_0) fun z30_5 =>
  cond z30_5.2
  (Option.bind (m_real_Clean z30_5.1) fun r34_6 =>
  cond (decide (r34_6 ≠ z30_5.1))
  (some 4)
  (m_value_Check_j9 p0 r10_0))
  (Option.bind (tasS 66 r10_0) fun z37_7 =>
  cond z37_7.2
  (cond (decide ((24 : Int) < ((List.length z37_7.1 : Nat) : Int)))
  (some 5)
  (m_value_Check_j9 p0 r10_0))
  (some 11))))

def m_zig_Fold (p0 : Int) : Option Int :=
  Option.bind (some ((IntKind.u64.wrap (((BitVec.ofInt 64 (IntKind.u64.wrap ((IntKind.u64.wrap p0) * 2 ^ 1)) ^^^ BitVec.ofInt 64 (IntKind.u64.wrap (Int.fdiv p0 (2 ^ 63)))).toNat : Int))))) fun v9_0 =>
  some v9_0

def m_math_bits_Len64_j2 (y0_2 : Int) (y2_2 : Int) : Option Int :=
  Option.bind (geti ([0, 1, 2, 2, 3, 3, 3, 3, 4, 4, 4, 4, 4, 4, 4, 4, 5, 5, 5, 5, 5, 5, 5, 5, 5, 5, 5, 5, 5, 5, 5, 5, 6, 6, 6, 6, 6, 6, 6, 6, 6, 6, 6, 6, 6, 6, 6, 6, 6, 6, 6, 6, 6, 6, 6, 6, 6, 6, 6, 6, 6, 6, 6, 6, 7, 7, 7, 7, 7, 7, 7, 7, 7, 7, 7, 7, 7, 7, 7, 7, 7, 7, 7, 7, 7, 7, 7, 7, 7, 7, 7, 7, 7, 7, 7, 7, 7, 7, 7, 7, 7, 7, 7, 7, 7, 7, 7, 7, 7, 7, 7, 7, 7, 7, 7, 7, 7, 7, 7, 7, 7, 7, 7, 7, 7, 7, 7, 7, 8, 8, 8, 8, 8, 8, 8, 8, 8, 8, 8, 8, 8, 8, 8, 8, 8, 8, 8, 8, 8, 8, 8, 8, 8, 8, 8, 8, 8, 8, 8, 8, 8, 8, 8, 8, 8, 8, 8, 8, 8, 8, 8, 8, 8, 8, 8, 8, 8, 8, 8, 8, 8, 8, 8, 8, 8, 8, 8, 8, 8, 8, 8, 8, 8, 8, 8, 8, 8, 8, 8, 8, 8, 8, 8, 8, 8, 8, 8, 8, 8, 8, 8, 8, 8, 8, 8, 8, 8, 8, 8, 8, 8, 8, 8, 8, 8, 8, 8, 8, 8, 8, 8, 8, 8, 8, 8, 8, 8, 8, 8, 8, 8, 8, 8, 8, 8, 8, 8, 8, 8, 8, 8, 8, 8, 8, 8, 8] : List UInt8) (((toU8 y0_2).toNat : Nat) : Int)) fun x22_3 =>
  some (IntKind.i64.wrap (y2_2 + ((x22_3.toNat : Nat) : Int)))
def m_math_bits_Len64_j1 (y0_1 : Int) (y2_1 : Int) : Option Int :=
  cond (decide ((256 : Int) ≤ y0_1))
  (m_math_bits_Len64_j2  (Int.fdiv y0_1 (2 ^ 8)) (IntKind.i64.wrap (y2_1 + 8)))
  (m_math_bits_Len64_j2  y0_1 y2_1)
def m_math_bits_Len64_j0 (y0_0 : Int) (y2_0 : Int) : Option Int :=
  cond (decide ((65536 : Int) ≤ y0_0))
  (m_math_bits_Len64_j1  (Int.fdiv y0_0 (2 ^ 16)) (IntKind.i64.wrap (y2_0 + 16)))
  (m_math_bits_Len64_j1  y0_0 y2_0)
def m_math_bits_Len64 (p0 : Int) : Option Int :=
  cond (decide ((4294967296 : Int) ≤ p0))
  (m_math_bits_Len64_j0  (Int.fdiv p0 (2 ^ 32)) 32)
  (m_math_bits_Len64_j0  p0 0)

def m_zig_Size (p0 : Int) : Option Int :=
  Option.bind (m_math_bits_Len64 p0) fun r4_0 =>
  some (max 1 (IntKind.i64.wrap (Int.tdiv (IntKind.i64.wrap ((IntKind.i64.wrap (r4_0 + 7)) - 1)) 7)))

def m_zig_Put_j5 (y20_3 : Int) (y6_3 : List UInt8) (k_m_zig_Put_l3 : (List UInt8) → Int → Option (List UInt8)) (y8_5 : UInt8) : Option (List UInt8) :=
  Option.bind (app y6_3 ([y8_5] : List UInt8)) fun a38_5 =>
  k_m_zig_Put_l3 a38_5 (IntKind.i64.wrap (y20_3 + 1))
def m_zig_Put_l3 (p1 : Int) (r10_0 : Int) : Nat → (List UInt8) → Int → Option (List UInt8)
  | 0, _, _ => none
  | fu_3 + 1, y6_3, y20_3 =>
    cond (decide (y20_3 < r10_0))
    (chk (0 ≤ (IntKind.i64.wrap (7 * y20_3)) ∧ (IntKind.i64.wrap (7 * y20_3)) ≤ 64) (
    Option.bind (some ((toU8 (((BitVec.ofInt 8 (((toU8 (Int.fdiv p1 (2 ^ (Int.toNat (IntKind.i64.wrap (7 * y20_3)))))).toNat : Nat) : Int) ||| BitVec.ofInt 8 128).toNat : Int))))) fun v28_4 =>
    cond (decide (y20_3 = (IntKind.i64.wrap (r10_0 - 1))))
    (m_zig_Put_j5 y20_3 y6_3 (fun y6_3 y20_3 => m_zig_Put_l3 p1 r10_0 fu_3 y6_3 y20_3) (toU8 (((BitVec.ofInt 8 ((v28_4.toNat : Nat) : Int) &&& ~~~ BitVec.ofInt 8 128).toNat : Int))))
    (m_zig_Put_j5 y20_3 y6_3 (fun y6_3 y20_3 => m_zig_Put_l3 p1 r10_0 fu_3 y6_3 y20_3) v28_4)))
    (some y6_3)
def m_zig_Put (p0 : (List UInt8)) (p1 : Int) : Option (List UInt8) :=
  Option.bind (m_zig_Size p1) fun r10_0 =>
  Option.bind (mkc 0 (IntKind.i64.wrap (((List.length p0 : Nat) : Int) + r10_0)) (0 : UInt8)) fun m15_1 =>
  Option.bind (app m15_1 p0) fun a18_2 =>
  m_zig_Put_l3 p1 r10_0 1152921504606846976 a18_2 0

def m_zig_PutInt (p0 : (List UInt8)) (p1 : Int) : Option (List UInt8) :=
  Option.bind (m_zig_Fold p1) fun r7_0 =>
  Option.bind (m_zig_Put p0 r7_0) fun r8_0 =>
  some r8_0

def m_octet_grown (p0 : (List UInt8)) (p1 : Int) : Option (List UInt8) :=
  Option.bind (mkl (IntKind.i64.wrap (((List.length p0 : Nat) : Int) + p1)) (0 : UInt8)) fun m10_0 =>
  Option.bind (cpy m10_0 p0) fun c13_1 =>
  some c13_1

def m_octet_lay_l1 (p1 : Int) : Nat → (List UInt8) → Int → Int → Option (List UInt8)
  | 0, _, _, _ => none
  | fu_1 + 1, y0_1, y2_1, y6_1 =>
    cond (decide ((IntKind.i64.wrap (((List.length y0_1 : Nat) : Int) - p1)) ≤ y6_1))
    (Option.bind (geti y0_1 y6_1) fun x22_3 =>
    m_octet_lay_l1 p1 fu_1 (List.set y0_1 (Int.toNat y6_1) (toU8 y2_1)) (Int.fdiv y2_1 (2 ^ 8)) (IntKind.i64.wrap (y6_1 - 1)))
    (some y0_1)
def m_octet_lay (p0 : (List UInt8)) (p1 : Int) (p2 : Int) : Option (List UInt8) :=
  m_octet_lay_l1 p1 1152921504606846976 p0 p2 (IntKind.i64.wrap (((List.length p0 : Nat) : Int) - 1))

def m_octet_Word (p0 : (List UInt8)) (p1 : Int) : Option (List UInt8) :=
  Option.bind (m_octet_grown p0 8) fun r7_0 =>
  Option.bind (m_octet_lay r7_0 8 p1) fun r10_1 =>
  some r10_1

def m_value_Put (p0 : (List UInt8)) (p1 : GValue) : Option ((List UInt8) × Int) :=
  Option.bind (m_value_Check p1) fun r9_0 =>
  cond (decide (r9_0 ≠ 0))
  (some (([] : List UInt8), r9_0))
  (Option.bind (mkc ((List.length p0 : Nat) : Int) (IntKind.i64.wrap (((List.length p0 : Nat) : Int) + 1)) (0 : UInt8)) fun m18_1 =>
  Option.bind (cpy m18_1 p0) fun c21_2 =>
  Option.bind (app c21_2 ([p1.Kind] : List UInt8)) fun a26_3 =>
  cond (decide (((p1.Kind.toNat : Nat) : Int) = 1))
  (Option.bind (m_zig_PutInt a26_3 p1.N) fun r34_4 =>
  some (r34_4, 0))
  (cond (decide (((p1.Kind.toNat : Nat) : Int) = 2))
  (Option.bind (app a26_3 ([(toU8 p1.N)] : List UInt8)) fun a42_5 =>
  some (a42_5, 0))
  (cond (decide (((p1.Kind.toNat : Nat) : Int) = 3))
  (Option.bind (m_octet_Word a26_3 p1.Bits) fun r48_6 =>
  some (r48_6, 0))
  (Option.bind (m_zig_Put a26_3 (IntKind.u64.wrap ((List.length p1.Text : Nat) : Int))) fun r54_7 =>
  Option.bind (app r54_7 p1.Text) fun a57_7 =>
  some (a57_7, 0)))))

def m_zig_Take_j8 (p1 : Int) (x30_3 : UInt8) (y17_1 : Int) (y4_1 : Int) (k_m_zig_Take_l1 : Int → Int → Option (Int × Int × Int)) : Option (Int × Int × Int) :=
  Option.bind (some ((((toU8 (((BitVec.ofInt 8 ((x30_3.toNat : Nat) : Int) &&& ~~~ BitVec.ofInt 8 128).toNat : Int))).toNat : Nat) : Int))) fun v46_4 =>
  chk (0 ≤ (IntKind.i64.wrap (7 * y17_1)) ∧ (IntKind.i64.wrap (7 * y17_1)) ≤ 64) (
  Option.bind (some ((IntKind.u64.wrap (((BitVec.ofInt 64 y4_1 ||| BitVec.ofInt 64 (IntKind.u64.wrap (v46_4 * 2 ^ (Int.toNat (IntKind.i64.wrap (7 * y17_1)))))).toNat : Int))))) fun v50_4 =>
  cond (decide (((x30_3.toNat : Nat) : Int) < 128))
  (some (v50_4, (IntKind.i64.wrap ((IntKind.i64.wrap (p1 + y17_1)) + 1)), 0))
  (k_m_zig_Take_l1 v50_4 (IntKind.i64.wrap (y17_1 + 1))))
def m_zig_Take_j6 (p1 : Int) (x30_3 : UInt8) (y17_1 : Int) (y4_1 : Int) (k_m_zig_Take_l1 : Int → Int → Option (Int × Int × Int)) : Option (Int × Int × Int) :=
  cond (decide ((0 : Int) < y17_1))
  (cond (decide (((x30_3.toNat : Nat) : Int) = 0))
  (some (0, 0, 4))
  (m_zig_Take_j8 p1 x30_3 y17_1 y4_1 k_m_zig_Take_l1))
  (m_zig_Take_j8 p1 x30_3 y17_1 y4_1 k_m_zig_Take_l1)
def m_zig_Take_l1 (p0 : (List UInt8)) (p1 : Int) : Nat → Int → Int → Option (Int × Int × Int)
  | 0, _, _ => none
  | fu_1 + 1, y4_1, y17_1 =>
    cond (decide (y17_1 < 10))
    (cond (decide (((List.length p0 : Nat) : Int) ≤ (IntKind.i64.wrap (p1 + y17_1))))
    (some (0, 0, 3))
    (Option.bind (geti p0 (IntKind.i64.wrap (p1 + y17_1))) fun x30_3 =>
    cond (decide (y17_1 = 9))
    (cond (decide ((1 : Int) < ((x30_3.toNat : Nat) : Int)))
    (some (0, 0, 8))
    (m_zig_Take_j6 p1 x30_3 y17_1 y4_1 (fun y4_1 y17_1 => m_zig_Take_l1 p0 p1 fu_1 y4_1 y17_1)))
    (m_zig_Take_j6 p1 x30_3 y17_1 y4_1 (fun y4_1 y17_1 => m_zig_Take_l1 p0 p1 fu_1 y4_1 y17_1))))
    (some (0, 0, 8))
def m_zig_Take (p0 : (List UInt8)) (p1 : Int) : Option (Int × Int × Int) :=
  cond (decide (p1 < 0))
  (some (0, 0, 2))
  (cond (decide (((List.length p0 : Nat) : Int) < p1))
  (some (0, 0, 2))
  (m_zig_Take_l1 p0 p1 1152921504606846976 0 0))

def m_zig_Back (p0 : Int) : Option Int :=
  Option.bind (some ((IntKind.i64.wrap (0 - (IntKind.i64.wrap (IntKind.u64.wrap (((BitVec.ofInt 64 p0 &&& BitVec.ofInt 64 1).toNat : Int)))))))) fun v9_0 =>
  Option.bind (some ((IntKind.i64.wrap (((BitVec.ofInt 64 (IntKind.i64.wrap (Int.fdiv p0 (2 ^ 1))) ^^^ BitVec.ofInt 64 v9_0).toNat : Int))))) fun v10_0 =>
  some v10_0

def m_zig_TakeInt (p0 : (List UInt8)) (p1 : Int) : Option (Int × Int × Int) :=
  Option.bind (m_zig_Take p0 p1) fun r11_0 =>
  Option.bind (m_zig_Back r11_0.1) fun r16_1 =>
  some (r16_1, r11_0.2.1, r11_0.2.2)

def m_octet_Open (p0 : (List UInt8)) : Option GReader :=
  some (GReader.mk p0 0 0)

def m_octet_Reader_Left (p0 : GReader) : Option Int :=
  cond (decide (p0.At < 0))
  (some 0)
  (cond (decide (((List.length p0.Text : Nat) : Int) < p0.At))
  (some 0)
  (some (IntKind.i64.wrap (((List.length p0.Text : Nat) : Int) - p0.At))))

def m_octet_Reader_fail (p0 : GReader) (p1 : Int) : Option GReader :=
  cond (decide (p0.E = 0))
  (some (GReader.mk p0.Text p0.At p1))
  (some p0)

def m_octet_Reader_take_l4 (p0 : GReader) (p1 : Int) (s28_3 : List UInt8) : Nat → Int → Int → Option (GReader × Int)
  | 0, _, _ => none
  | fu_4 + 1, y6_4, y31_4 =>
    cond (decide (y31_4 < ((List.length s28_3 : Nat) : Int)))
    (Option.bind (geti s28_3 y31_4) fun x33_5 =>
    Option.bind (some ((IntKind.u64.wrap (((BitVec.ofInt 64 (IntKind.u64.wrap (y6_4 * 2 ^ 8)) ||| BitVec.ofInt 64 ((x33_5.toNat : Nat) : Int)).toNat : Int))))) fun v39_6 =>
    m_octet_Reader_take_l4 p0 p1 s28_3 fu_4 v39_6 (IntKind.i64.wrap (y31_4 + 1)))
    (some ((GReader.mk p0.Text (IntKind.i64.wrap (p0.At + p1)) p0.E), y6_4))
def m_octet_Reader_take (p0 : GReader) (p1 : Int) : Option (GReader × Int) :=
  cond (decide (p0.E ≠ 0))
  (Option.bind (m_octet_Reader_fail p0 3) fun r19_1 =>
  some (r19_1, 0))
  (Option.bind (m_octet_Reader_Left p0) fun r14_0 =>
  cond (decide (r14_0 < p1))
  (Option.bind (m_octet_Reader_fail p0 3) fun r19_2 =>
  some (r19_2, 0))
  (Option.bind (cut p0.Text p0.At (IntKind.i64.wrap (p0.At + p1))) fun s28_3 =>
  chk (List.length s28_3 ≤ 1000000000) (
  m_octet_Reader_take_l4 p0 p1 s28_3 1152921504606846976 0 0)))

def m_octet_Reader_Word (p0 : GReader) : Option (GReader × Int) :=
  Option.bind (m_octet_Reader_take p0 8) fun r5_0 =>
  some (r5_0.1, r5_0.2)

def m_value_body (p0 : UInt8) (p1 : (List UInt8)) (p2 : Int) : Option (GValue × Int × Int) :=
  cond (decide (((p0.toNat : Nat) : Int) = 1))
  (Option.bind (m_zig_TakeInt p1 p2) fun r26_0 =>
  some ((GValue.mk p0 r26_0.1 0 ([] : List UInt8)), r26_0.2.1, r26_0.2.2))
  (cond (decide (((p0.toNat : Nat) : Int) = 2))
  (cond (decide (p2 = ((List.length p1 : Nat) : Int)))
  (some ((GValue.mk p0 0 0 ([] : List UInt8)), 0, 3))
  (Option.bind (geti p1 p2) fun x44_2 =>
  some ((GValue.mk p0 ((x44_2.toNat : Nat) : Int) 0 ([] : List UInt8)), (IntKind.i64.wrap (p2 + 1)), 0)))
  (cond (decide (((p0.toNat : Nat) : Int) = 3))
  (Option.bind (cut p1 p2 ((List.length p1 : Nat) : Int)) fun s55_3 =>
  Option.bind (m_octet_Open s55_3) fun r56_3 =>
  Option.bind (m_octet_Reader_Word r56_3) fun r57_3 =>
  some ((GValue.mk p0 0 r57_3.2 ([] : List UInt8)), (IntKind.i64.wrap (p2 + r57_3.1.At)), r57_3.1.E))
  (cond (decide (((p0.toNat : Nat) : Int) = 4))
  (Option.bind (m_zig_Take p1 p2) fun r74_4 =>
  cond (decide (r74_4.2.2 ≠ 0))
  (some ((GValue.mk p0 0 0 ([] : List UInt8)), 0, r74_4.2.2))
  (cond (decide ((24 : Int) < r74_4.1))
  (some ((GValue.mk p0 0 0 ([] : List UInt8)), 0, 5))
  (cond (decide ((IntKind.i64.wrap (((List.length p1 : Nat) : Int) - r74_4.2.1)) < (IntKind.i64.wrap r74_4.1)))
  (some ((GValue.mk p0 0 0 ([] : List UInt8)), 0, 3))
  (Option.bind (cut p1 r74_4.2.1 (IntKind.i64.wrap (r74_4.2.1 + (IntKind.i64.wrap r74_4.1)))) fun s99_6 =>
  some ((GValue.mk p0 0 0 s99_6), (IntKind.i64.wrap (r74_4.2.1 + (IntKind.i64.wrap r74_4.1))), 0)))))
  (some ((GValue.mk p0 0 0 ([] : List UInt8)), 0, 11)))))

def m_value_Take_j4 (r28_2 : (GValue × Int × Int)) (y6_4 : Int) : Option (GValue × Int × Int) :=
  cond (decide (y6_4 ≠ 0))
  (some ((GValue.mk 0 0 0 ([] : List UInt8)), 0, y6_4))
  (some (r28_2.1, r28_2.2.1, 0))
def m_value_Take (p0 : (List UInt8)) (p1 : Int) : Option (GValue × Int × Int) :=
  cond (decide (p1 < 0))
  (some ((GValue.mk 0 0 0 ([] : List UInt8)), 0, 2))
  (cond (decide (((List.length p0 : Nat) : Int) < p1))
  (some ((GValue.mk 0 0 0 ([] : List UInt8)), 0, 2))
  (cond (decide (p1 = ((List.length p0 : Nat) : Int)))
  (some ((GValue.mk 0 0 0 ([] : List UInt8)), 0, 3))
  (Option.bind (geti p0 p1) fun x24_2 =>
  Option.bind (m_value_body x24_2 p0 (IntKind.i64.wrap (p1 + 1))) fun r28_2 =>
  cond (decide (r28_2.2.2 = 0))
  (Option.bind (m_value_Check r28_2.1) fun r35_3 =>
  m_value_Take_j4 r28_2 r35_3)
  (m_value_Take_j4 r28_2 r28_2.2.2))))

def m_value_OfFlag (p0 : Bool) : Option GValue :=
  cond p0
  (some (GValue.mk 2 1 0 ([] : List UInt8)))
  (some (GValue.mk 2 0 0 ([] : List UInt8)))

def m_value_OfInt (p0 : Int) : Option GValue :=
  some (GValue.mk 1 (max (-4611686018427387904) (min p0 4611686018427387904)) 0 ([] : List UInt8))

def m_cmp_isNaN_uint8 (p0 : UInt8) : Option Bool :=
  some (decide (((p0.toNat : Nat) : Int) ≠ ((p0.toNat : Nat) : Int)))

def m_cmp_Compare_uint8 (p0 : UInt8) (p1 : UInt8) : Option Int :=
  Option.bind (m_cmp_isNaN_uint8 p0) fun r8_0 =>
  Option.bind (m_cmp_isNaN_uint8 p1) fun r10_1 =>
  cond r8_0
  (cond r10_1
  (some 0)
  (some (-1)))
  (cond r10_1
  (some 1)
  (cond (decide (((p0.toNat : Nat) : Int) < ((p1.toNat : Nat) : Int)))
  (some (-1))
  (cond (decide (((p1.toNat : Nat) : Int) < ((p0.toNat : Nat) : Int)))
  (some 1)
  (some 0))))

def m_cmp_isNaN_int (p0 : Int) : Option Bool :=
  some (decide (p0 ≠ p0))

def m_cmp_Compare_int (p0 : Int) (p1 : Int) : Option Int :=
  Option.bind (m_cmp_isNaN_int p0) fun r8_0 =>
  Option.bind (m_cmp_isNaN_int p1) fun r10_1 =>
  cond r8_0
  (cond r10_1
  (some 0)
  (some (-1)))
  (cond r10_1
  (some 1)
  (cond (decide (p0 < p1))
  (some (-1))
  (cond (decide (p1 < p0))
  (some 1)
  (some 0))))

def m_real_Rank (p0 : Int) : Option Int :=
  Option.bind (m_real_Clean p0) fun r4_0 =>
  cond (decide ((IntKind.u64.wrap (((BitVec.ofInt 64 r4_0 &&& BitVec.ofInt 64 9223372036854775808).toNat : Int))) ≠ 0))
  (some (IntKind.u64.wrap ((BitVec.ofInt 64 18446744073709551615 ^^^ BitVec.ofInt 64 r4_0).toNat : Int)))
  (some (IntKind.u64.wrap (((BitVec.ofInt 64 r4_0 ||| BitVec.ofInt 64 9223372036854775808).toNat : Int))))

def m_cmp_isNaN_uint64 (p0 : Int) : Option Bool :=
  some (decide (p0 ≠ p0))

def m_cmp_Compare_uint64 (p0 : Int) (p1 : Int) : Option Int :=
  Option.bind (m_cmp_isNaN_uint64 p0) fun r8_0 =>
  Option.bind (m_cmp_isNaN_uint64 p1) fun r10_1 =>
  cond r8_0
  (cond r10_1
  (some 0)
  (some (-1)))
  (cond r10_1
  (some 1)
  (cond (decide (p0 < p1))
  (some (-1))
  (cond (decide (p1 < p0))
  (some 1)
  (some 0))))

def m_cmp_isNaN_string (p0 : (List UInt8)) : Option Bool :=
  some (decide (p0 ≠ p0))

def m_cmp_Compare_string (p0 : (List UInt8)) (p1 : (List UInt8)) : Option Int :=
  Option.bind (m_cmp_isNaN_string p0) fun r8_0 =>
  Option.bind (m_cmp_isNaN_string p1) fun r10_1 =>
  cond r8_0
  (cond r10_1
  (some 0)
  (some (-1)))
  (cond r10_1
  (some 1)
  (cond (ltS p0 p1)
  (some (-1))
  (cond (gtS p0 p1)
  (some 1)
  (some 0))))

def m_value_Rank_j1 (p0 : GValue) (p1 : GValue) (y16_1 : Bool) : Option Int :=
  cond y16_1
  (Option.bind (m_cmp_Compare_int p0.N p1.N) fun r23_2 =>
  some r23_2)
  (cond (decide (((p0.Kind.toNat : Nat) : Int) = 3))
  (Option.bind (m_real_Rank p0.Bits) fun r28_3 =>
  Option.bind (m_real_Rank p1.Bits) fun r31_3 =>
  Option.bind (m_cmp_Compare_uint64 r28_3 r31_3) fun r32_3 =>
  some r32_3)
  (cond (decide (((p0.Kind.toNat : Nat) : Int) = 4))
  (Option.bind (m_cmp_Compare_string p0.Text p1.Text) fun r39_4 =>
  some r39_4)
  (some 0)))
def m_value_Rank (p0 : GValue) (p1 : GValue) : Option Int :=
  Option.bind (m_cmp_Compare_uint8 p0.Kind p1.Kind) fun r10_0 =>
  cond (decide (r10_0 ≠ 0))
  (some r10_0)
  (cond (decide (((p0.Kind.toNat : Nat) : Int) = 1))
  (m_value_Rank_j1 p0 p1 (decide (((p0.Kind.toNat : Nat) : Int) = 1)))
  (m_value_Rank_j1 p0 p1 (decide (((p0.Kind.toNat : Nat) : Int) = 2))))

def m_value_OfReal (p0 : Int) : Option GValue :=
  Option.bind (m_real_Clean p0) fun r4_0 =>
  some (GValue.mk 3 0 r4_0 ([] : List UInt8))

def m_value_Word (p0 : UInt8) : Option (List UInt8) :=
  cond (decide (((p0.toNat : Nat) : Int) = 1))
  (some ([105, 110, 116] : List UInt8))
  (cond (decide (((p0.toNat : Nat) : Int) = 2))
  (some ([102, 108, 97, 103] : List UInt8))
  (cond (decide (((p0.toNat : Nat) : Int) = 3))
  (some ([114, 101, 97, 108] : List UInt8))
  (cond (decide (((p0.toNat : Nat) : Int) = 4))
  (some ([116, 101, 120, 116] : List UInt8))
  (some ([] : List UInt8)))))

def m_telltalelaw04_awake : Option Bool :=
  Option.bind (m_value_OfText ([97, 98] : List UInt8)) fun r12_0 =>
  Option.bind (m_value_Put ([] : List UInt8) r12_0) fun r13_0 =>
  Option.bind (m_value_Take ([2, 1] : List UInt8) 0) fun r17_1 =>
  Option.bind (m_value_Put ([] : List UInt8) (GValue.mk 2 2 0 ([] : List UInt8))) fun r23_2 =>
  Option.bind (m_value_Take ([4, 25] : List UInt8) 0) fun r27_3 =>
  cond (decide (r13_0.2 = 0))
  (cond (decide (r13_0.1 = ([4, 2, 97, 98] : List UInt8)))
  (cond (decide (r17_1.2.2 = 0))
  (Option.bind (m_value_OfFlag true) fun r44_4 =>
  Option.bind (some ((decide (((r17_1.1.Kind.toNat : Nat) : Int) = ((r44_4.Kind.toNat : Nat) : Int)) && (decide (r17_1.1.N = r44_4.N) && (decide (r17_1.1.Bits = r44_4.Bits) && (decide (r17_1.1.Text = r44_4.Text) && true)))))) fun v45_4 =>
  cond v45_4
  (cond (decide (r17_1.2.1 = 2))
  (cond (decide (r23_2.2 = 8))
  (cond (decide (r27_3.2.2 = 5))
  (Option.bind (m_value_OfInt 3) fun r60_4 =>
  Option.bind (m_value_OfFlag false) fun r61_4 =>
  Option.bind (m_value_Rank r60_4 r61_4) fun r62_4 =>
  cond (decide (r62_4 = (-1)))
  (Option.bind (m_value_OfReal 9223372036854775808) fun r66_4 =>
  Option.bind (m_value_OfReal 0) fun r67_4 =>
  Option.bind (m_value_Rank r66_4 r67_4) fun r68_4 =>
  cond (decide (r68_4 = (-1)))
  (Option.bind (m_value_Word 3) fun r72_4 =>
  cond (decide (r72_4 = ([114, 101, 97, 108] : List UInt8)))
  (some true)
  (some false))
  (some false))
  (some false))
  (some false))
  (some false))
  (some false))
  (some false))
  (some false))
  (some false))
  (some false)

def m_telltaleref04_OfInt (p0 : Int) : Option GValue :=
  some (GValue.mk 1 (max (-4611686018427387904) (min 4611686018427387904 p0)) 0 ([] : List UInt8))

def m_telltaleref04_OfFlag (p0 : Bool) : Option GValue :=
  cond p0
  (some (GValue.mk 2 1 0 ([] : List UInt8)))
  (some (GValue.mk 2 0 0 ([] : List UInt8)))

def m_telltaleref03_Exp (p0 : Int) : Option Int :=
  some (IntKind.i64.wrap (Int.tmod (IntKind.u64.wrap (Int.tdiv p0 4503599627370496)) 2048))

def m_telltaleref03_Frac (p0 : Int) : Option Int :=
  some (Int.tmod p0 4503599627370496)

def m_telltaleref03_Kind_j1 (p0 : Int) : Option UInt8 :=
  Option.bind (m_telltaleref03_Exp p0) fun r12_2 =>
  cond (decide (r12_2 = 2047))
  (some 4)
  (Option.bind (m_telltaleref03_Exp p0) fun r15_3 =>
  cond (decide (r15_3 ≠ 0))
  (some 3)
  (Option.bind (m_telltaleref03_Frac p0) fun r18_4 =>
  cond (decide (r18_4 ≠ 0))
  (some 2)
  (some 1)))
def m_telltaleref03_Kind (p0 : Int) : Option UInt8 :=
  Option.bind (m_telltaleref03_Exp p0) fun r4_0 =>
  cond (decide (r4_0 = 2047))
  (Option.bind (m_telltaleref03_Frac p0) fun r8_0 =>
  cond (decide (r8_0 ≠ 0))
  (some 5)
  (m_telltaleref03_Kind_j1 p0))
  (m_telltaleref03_Kind_j1 p0)

def m_telltaleref03_Clean (p0 : Int) : Option Int :=
  Option.bind (m_telltaleref03_Kind p0) fun r4_0 =>
  cond (decide (((r4_0.toNat : Nat) : Int) = 5))
  (some 9221120237041090560)
  (some p0)

def m_telltaleref04_OfReal (p0 : Int) : Option GValue :=
  Option.bind (m_telltaleref03_Clean p0) fun r4_0 =>
  some (GValue.mk 3 0 r4_0 ([] : List UInt8))

def m_telltaleref04_OfText (p0 : (List UInt8)) : Option GValue :=
  Option.bind (cut p0 0 (min ((List.length p0 : Nat) : Int) 24)) fun s7_0 =>
  some (GValue.mk 4 0 0 s7_0)

def m_telltaleref04_Word (p0 : UInt8) : Option (List UInt8) :=
  cond (decide (((p0.toNat : Nat) : Int) = 1))
  (some ([105, 110, 116] : List UInt8))
  (cond (decide (((p0.toNat : Nat) : Int) = 2))
  (some ([102, 108, 97, 103] : List UInt8))
  (cond (decide (((p0.toNat : Nat) : Int) = 3))
  (some ([114, 101, 97, 108] : List UInt8))
  (cond (decide (((p0.toNat : Nat) : Int) = 4))
  (some ([116, 101, 120, 116] : List UInt8))
  (some ([] : List UInt8)))))

def m_telltalelaw04_ValueMakes_j4 : Option Bool :=
  some false
def m_telltalelaw04_ValueMakes (p0 : Int) (p1 : Int) (p2 : (List UInt8)) : Option Bool :=
  cond (decide ((100 : Int) < ((List.length p2 : Nat) : Int)))
  (Option.bind m_telltalelaw04_awake fun r15_1 =>
  some r15_1)
  (Option.bind (m_value_OfInt p0) fun r20_2 =>
  Option.bind (m_value_OfFlag (decide ((Int.tmod p0 2) = 0))) fun r22_2 =>
  Option.bind (m_value_OfReal p1) fun r24_2 =>
  Option.bind (m_value_OfText p2) fun r26_2 =>
  Option.bind (m_telltaleref04_OfInt p0) fun r29_3 =>
  Option.bind (some ((!(decide (((r20_2.Kind.toNat : Nat) : Int) = ((r29_3.Kind.toNat : Nat) : Int)) && (decide (r20_2.N = r29_3.N) && (decide (r20_2.Bits = r29_3.Bits) && (decide (r20_2.Text = r29_3.Text) && true))))))) fun v30_3 =>
  cond v30_3
  (m_telltalelaw04_ValueMakes_j4 )
  (Option.bind (m_telltaleref04_OfFlag (decide ((Int.tmod p0 2) = 0))) fun r34_3 =>
  Option.bind (some ((!(decide (((r22_2.Kind.toNat : Nat) : Int) = ((r34_3.Kind.toNat : Nat) : Int)) && (decide (r22_2.N = r34_3.N) && (decide (r22_2.Bits = r34_3.Bits) && (decide (r22_2.Text = r34_3.Text) && true))))))) fun v35_3 =>
  cond v35_3
  (m_telltalelaw04_ValueMakes_j4 )
  (Option.bind (m_telltaleref04_OfReal p1) fun r40_3 =>
  Option.bind (some ((!(decide (((r24_2.Kind.toNat : Nat) : Int) = ((r40_3.Kind.toNat : Nat) : Int)) && (decide (r24_2.N = r40_3.N) && (decide (r24_2.Bits = r40_3.Bits) && (decide (r24_2.Text = r40_3.Text) && true))))))) fun v41_3 =>
  cond v41_3
  (m_telltalelaw04_ValueMakes_j4 )
  (Option.bind (m_telltaleref04_OfText p2) fun r46_3 =>
  Option.bind (some ((!(decide (((r26_2.Kind.toNat : Nat) : Int) = ((r46_3.Kind.toNat : Nat) : Int)) && (decide (r26_2.N = r46_3.N) && (decide (r26_2.Bits = r46_3.Bits) && (decide (r26_2.Text = r46_3.Text) && true))))))) fun v47_3 =>
  cond v47_3
  (some false)
  (Option.bind (m_value_Check r20_2) fun r50_5 =>
  cond (decide (r50_5 = 0))
  (Option.bind (m_value_Check r22_2) fun r54_5 =>
  cond (decide (r54_5 = 0))
  (Option.bind (m_value_Check r24_2) fun r59_5 =>
  cond (decide (r59_5 = 0))
  (Option.bind (m_value_Check r26_2) fun r64_5 =>
  cond (decide (r64_5 = 0))
  (Option.bind (m_value_Word (toU8 p1)) fun r70_5 =>
  Option.bind (m_telltaleref04_Word (toU8 p1)) fun r73_5 =>
  cond (decide (r70_5 = r73_5))
  (Option.bind m_telltalelaw04_awake fun r77_5 =>
  some r77_5)
  (some false))
  (some false))
  (some false))
  (some false))
  (some false))))))

def m_telltalelaw04_Small (p0 : GValue) : Option Int :=
  some (max 0 (IntKind.i64.wrap (((List.length p0.Text : Nat) : Int) - 100)))

def m_telltaleref04_Check_j11 : Option Int :=
  some 2
def m_telltaleref04_Check_j12 (p0 : GValue) : Option Int :=
  cond (decide (p0.Text ≠ ([] : List UInt8)))
  (some 2)
  (some 0)
def m_telltaleref04_Check_j13 : Option Int :=
  some 0
def m_telltaleref04_Check_j9 (p0 : GValue) : Option Int :=
  cond (decide ((2 : Int) < ((p0.Kind.toNat : Nat) : Int)))
  (cond (decide (p0.N ≠ 0))
  (m_telltaleref04_Check_j11 )
  (cond (decide (((p0.Kind.toNat : Nat) : Int) ≠ 3))
  (cond (decide (p0.Bits ≠ 0))
  (m_telltaleref04_Check_j11 )
  (cond (decide (((p0.Kind.toNat : Nat) : Int) ≠ 4))
  (m_telltaleref04_Check_j12 p0)
  (m_telltaleref04_Check_j13 )))
  (cond (decide (((p0.Kind.toNat : Nat) : Int) ≠ 4))
  (m_telltaleref04_Check_j12 p0)
  (m_telltaleref04_Check_j13 ))))
  (cond (decide (((p0.Kind.toNat : Nat) : Int) ≠ 3))
  (cond (decide (p0.Bits ≠ 0))
  (m_telltaleref04_Check_j11 )
  (cond (decide (((p0.Kind.toNat : Nat) : Int) ≠ 4))
  (m_telltaleref04_Check_j12 p0)
  (m_telltaleref04_Check_j13 )))
  (cond (decide (((p0.Kind.toNat : Nat) : Int) ≠ 4))
  (m_telltaleref04_Check_j12 p0)
  (m_telltaleref04_Check_j13 )))
def m_telltaleref04_Check_j7 (p0 : GValue) : Option Int :=
  cond (decide (((p0.Kind.toNat : Nat) : Int) = 4))
  (cond (decide ((24 : Int) < ((List.length p0.Text : Nat) : Int)))
  (some 5)
  (m_telltaleref04_Check_j9 p0))
  (m_telltaleref04_Check_j9 p0)
def m_telltaleref04_Check_j5 (p0 : GValue) : Option Int :=
  cond (decide (((p0.Kind.toNat : Nat) : Int) = 3))
  (Option.bind (m_telltaleref03_Clean p0.Bits) fun r45_6 =>
  cond (decide (r45_6 ≠ p0.Bits))
  (some 4)
  (m_telltaleref04_Check_j7 p0))
  (m_telltaleref04_Check_j7 p0)
def m_telltaleref04_Check_j2 : Option Int :=
  some 8
def m_telltaleref04_Check_j3 (p0 : GValue) : Option Int :=
  cond (decide ((1 : Int) < p0.N))
  (some 8)
  (m_telltaleref04_Check_j5 p0)
def m_telltaleref04_Check_j4 (p0 : GValue) : Option Int :=
  m_telltaleref04_Check_j5 p0
def m_telltaleref04_Check (p0 : GValue) : Option Int :=
  cond (decide (((p0.Kind.toNat : Nat) : Int) < 1))
  (some 11)
  (cond (decide ((4 : Int) < ((p0.Kind.toNat : Nat) : Int)))
  (some 11)
  (cond (decide (((p0.Kind.toNat : Nat) : Int) = 1))
  (cond (decide (p0.N < (-4611686018427387904)))
  (m_telltaleref04_Check_j2 )
  (cond (decide ((4611686018427387904 : Int) < p0.N))
  (m_telltaleref04_Check_j2 )
  (cond (decide (((p0.Kind.toNat : Nat) : Int) = 2))
  (cond (decide (p0.N < 0))
  (m_telltaleref04_Check_j2 )
  (m_telltaleref04_Check_j3 p0))
  (m_telltaleref04_Check_j4 p0))))
  (cond (decide (((p0.Kind.toNat : Nat) : Int) = 2))
  (cond (decide (p0.N < 0))
  (m_telltaleref04_Check_j2 )
  (m_telltaleref04_Check_j3 p0))
  (m_telltaleref04_Check_j4 p0))))

def m_telltaleref02_Fold (p0 : Int) : Option Int :=
  cond (decide (p0 < 0))
  (Option.bind (some ((IntKind.u64.wrap ((IntKind.u64.wrap (2 * (IntKind.u64.wrap (IntKind.i64.wrap (0 - (IntKind.i64.wrap (p0 + 1))))))) + 1)))) fun v10_0 =>
  some v10_0)
  (some (IntKind.u64.wrap (2 * (IntKind.u64.wrap p0))))

def m_telltaleref02_sevens_l1 : Nat → Int → (List Int) → Option (List Int)
  | 0, _, _ => none
  | fu_1 + 1, y0_1, y3_1 =>
    cond (decide ((0 : Int) < y0_1))
    (Option.bind (app y3_1 ([(IntKind.i64.wrap (Int.tmod y0_1 128))] : List Int)) fun a17_2 =>
    m_telltaleref02_sevens_l1 fu_1 (IntKind.u64.wrap (Int.tdiv y0_1 128)) a17_2)
    (some y3_1)
def m_telltaleref02_sevens (p0 : Int) : Option (List Int) :=
  m_telltaleref02_sevens_l1  1152921504606846976 (IntKind.u64.wrap (Int.tdiv p0 128)) ([(IntKind.i64.wrap (Int.tmod p0 128))] : List Int)

def m_telltaleref02_Put_l2 (r12_1 : (List Int)) : Nat → (List UInt8) → Int → Option (List UInt8)
  | 0, _, _ => none
  | fu_2 + 1, y5_2, y7_2 =>
    cond (decide (y7_2 < ((List.length r12_1 : Nat) : Int)))
    (cond (decide (y7_2 < (IntKind.i64.wrap (((List.length r12_1 : Nat) : Int) - 1))))
    (Option.bind (geti r12_1 y7_2) fun x27_5 =>
    Option.bind (app y5_2 ([(toU8 (IntKind.i64.wrap (128 + x27_5)))] : List UInt8)) fun a32_5 =>
    m_telltaleref02_Put_l2 r12_1 fu_2 a32_5 (IntKind.i64.wrap (y7_2 + 1)))
    (Option.bind (geti r12_1 y7_2) fun x36_6 =>
    Option.bind (app y5_2 ([(toU8 x36_6)] : List UInt8)) fun a40_6 =>
    m_telltaleref02_Put_l2 r12_1 fu_2 a40_6 (IntKind.i64.wrap (y7_2 + 1))))
    (some y5_2)
def m_telltaleref02_Put (p0 : (List UInt8)) (p1 : Int) : Option (List UInt8) :=
  Option.bind (app ([] : List UInt8) p0) fun a10_0 =>
  Option.bind (m_telltaleref02_sevens p1) fun r12_1 =>
  m_telltaleref02_Put_l2 r12_1 1152921504606846976 a10_0 0

def m_telltaleref01_Word_l0 (p0 : (List UInt8)) : Nat → Int → (List UInt8) → Int → Option (List UInt8)
  | 0, _, _, _ => none
  | fu_0 + 1, y1_0, y5_0, y6_0 =>
    cond (decide (y6_0 < 8))
    (Option.bind (app ([(toU8 (Int.tmod y1_0 256))] : List UInt8) y5_0) fun a16_1 =>
    m_telltaleref01_Word_l0 p0 fu_0 (IntKind.u64.wrap (Int.tdiv y1_0 256)) a16_1 (IntKind.i64.wrap (y6_0 + 1)))
    (Option.bind (app ([] : List UInt8) p0) fun a21_2 =>
    Option.bind (app a21_2 y5_0) fun a23_2 =>
    some a23_2)
def m_telltaleref01_Word (p0 : (List UInt8)) (p1 : Int) : Option (List UInt8) :=
  m_telltaleref01_Word_l0 p0 1152921504606846976 p1 ([] : List UInt8) 0

def m_telltaleref04_Put (p0 : (List UInt8)) (p1 : GValue) : Option ((List UInt8) × Int) :=
  Option.bind (m_telltaleref04_Check p1) fun r9_0 =>
  cond (decide (r9_0 ≠ 0))
  (some (([] : List UInt8), r9_0))
  (Option.bind (app ([] : List UInt8) p0) fun a15_1 =>
  Option.bind (app a15_1 ([p1.Kind] : List UInt8)) fun a19_1 =>
  cond (decide (((p1.Kind.toNat : Nat) : Int) = 1))
  (Option.bind (m_telltaleref02_Fold p1.N) fun r26_2 =>
  Option.bind (m_telltaleref02_Put a19_1 r26_2) fun r27_2 =>
  some (r27_2, 0))
  (cond (decide (((p1.Kind.toNat : Nat) : Int) = 2))
  (Option.bind (app a19_1 ([(toU8 p1.N)] : List UInt8)) fun a36_3 =>
  some (a36_3, 0))
  (cond (decide (((p1.Kind.toNat : Nat) : Int) = 3))
  (Option.bind (m_telltaleref01_Word a19_1 p1.Bits) fun r43_4 =>
  some (r43_4, 0))
  (Option.bind (m_telltaleref02_Put a19_1 (IntKind.u64.wrap ((List.length p1.Text : Nat) : Int))) fun r49_5 =>
  Option.bind (app r49_5 p1.Text) fun a52_5 =>
  some (a52_5, 0)))))

def m_telltaleref03_Sign (p0 : Int) : Option Bool :=
  some (decide ((9223372036854775808 : Int) ≤ p0))

def m_telltaleref03_Rank (p0 : Int) : Option Int :=
  Option.bind (m_telltaleref03_Clean p0) fun r4_0 =>
  Option.bind (m_telltaleref03_Sign r4_0) fun r6_1 =>
  cond r6_1
  (some (IntKind.u64.wrap ((BitVec.ofInt 64 18446744073709551615 ^^^ BitVec.ofInt 64 r4_0).toNat : Int)))
  (some (IntKind.u64.wrap (r4_0 + 9223372036854775808)))

def m_telltaleref04_Rank_j6 : Option Int :=
  some (-1)
def m_telltaleref04_Rank_j7 : Option Int :=
  some (-1)
def m_telltaleref04_Rank_j8 : Option Int :=
  some (-1)
def m_telltaleref04_Rank_j2 (p0 : GValue) (p1 : GValue) (r21_0 : Int) (r24_0 : Int) : Option Int :=
  cond (decide (((p0.Kind.toNat : Nat) : Int) = 1))
  (cond (decide (p1.N < p0.N))
  (m_telltaleref04_Rank_j6 )
  (cond (decide (((p0.Kind.toNat : Nat) : Int) = 3))
  (cond (decide (r24_0 < r21_0))
  (m_telltaleref04_Rank_j6 )
  (cond (decide (((p0.Kind.toNat : Nat) : Int) = 4))
  (m_telltaleref04_Rank_j7 )
  (m_telltaleref04_Rank_j8 )))
  (cond (decide (((p0.Kind.toNat : Nat) : Int) = 4))
  (m_telltaleref04_Rank_j7 )
  (m_telltaleref04_Rank_j8 ))))
  (cond (decide (((p0.Kind.toNat : Nat) : Int) = 2))
  (cond (decide (p1.N < p0.N))
  (m_telltaleref04_Rank_j6 )
  (cond (decide (((p0.Kind.toNat : Nat) : Int) = 3))
  (cond (decide (r24_0 < r21_0))
  (m_telltaleref04_Rank_j6 )
  (cond (decide (((p0.Kind.toNat : Nat) : Int) = 4))
  (m_telltaleref04_Rank_j7 )
  (m_telltaleref04_Rank_j8 )))
  (cond (decide (((p0.Kind.toNat : Nat) : Int) = 4))
  (m_telltaleref04_Rank_j7 )
  (m_telltaleref04_Rank_j8 ))))
  (cond (decide (((p0.Kind.toNat : Nat) : Int) = 3))
  (cond (decide (r24_0 < r21_0))
  (m_telltaleref04_Rank_j6 )
  (cond (decide (((p0.Kind.toNat : Nat) : Int) = 4))
  (m_telltaleref04_Rank_j7 )
  (m_telltaleref04_Rank_j8 )))
  (cond (decide (((p0.Kind.toNat : Nat) : Int) = 4))
  (m_telltaleref04_Rank_j7 )
  (m_telltaleref04_Rank_j8 ))))
def m_telltaleref04_Rank_j10 (p0 : GValue) (p1 : GValue) : Option Int :=
  cond (ltS p0.Text p1.Text)
  (some (-1))
  (some 1)
def m_telltaleref04_Rank_j11 (p0 : GValue) (p1 : GValue) : Option Int :=
  cond (ltS p0.Text p1.Text)
  (some (-1))
  (cond (gtS p0.Text p1.Text)
  (some 1)
  (some 0))
def m_telltaleref04_Rank_j12 (p0 : GValue) (p1 : GValue) : Option Int :=
  cond (ltS p0.Text p1.Text)
  (some (-1))
  (some 0)
def m_telltaleref04_Rank_j3 (p0 : GValue) (p1 : GValue) (r21_0 : Int) (r24_0 : Int) : Option Int :=
  cond (decide (((p0.Kind.toNat : Nat) : Int) = 1))
  (cond (decide (p1.N < p0.N))
  (m_telltaleref04_Rank_j10 p0 p1)
  (cond (decide (((p0.Kind.toNat : Nat) : Int) = 3))
  (cond (decide (r24_0 < r21_0))
  (m_telltaleref04_Rank_j10 p0 p1)
  (cond (decide (((p0.Kind.toNat : Nat) : Int) = 4))
  (m_telltaleref04_Rank_j11 p0 p1)
  (m_telltaleref04_Rank_j12 p0 p1)))
  (cond (decide (((p0.Kind.toNat : Nat) : Int) = 4))
  (m_telltaleref04_Rank_j11 p0 p1)
  (m_telltaleref04_Rank_j12 p0 p1))))
  (cond (decide (((p0.Kind.toNat : Nat) : Int) = 2))
  (cond (decide (p1.N < p0.N))
  (m_telltaleref04_Rank_j10 p0 p1)
  (cond (decide (((p0.Kind.toNat : Nat) : Int) = 3))
  (cond (decide (r24_0 < r21_0))
  (m_telltaleref04_Rank_j10 p0 p1)
  (cond (decide (((p0.Kind.toNat : Nat) : Int) = 4))
  (m_telltaleref04_Rank_j11 p0 p1)
  (m_telltaleref04_Rank_j12 p0 p1)))
  (cond (decide (((p0.Kind.toNat : Nat) : Int) = 4))
  (m_telltaleref04_Rank_j11 p0 p1)
  (m_telltaleref04_Rank_j12 p0 p1))))
  (cond (decide (((p0.Kind.toNat : Nat) : Int) = 3))
  (cond (decide (r24_0 < r21_0))
  (m_telltaleref04_Rank_j10 p0 p1)
  (cond (decide (((p0.Kind.toNat : Nat) : Int) = 4))
  (m_telltaleref04_Rank_j11 p0 p1)
  (m_telltaleref04_Rank_j12 p0 p1)))
  (cond (decide (((p0.Kind.toNat : Nat) : Int) = 4))
  (m_telltaleref04_Rank_j11 p0 p1)
  (m_telltaleref04_Rank_j12 p0 p1))))
def m_telltaleref04_Rank_j14 : Option Int :=
  some 1
def m_telltaleref04_Rank_j15 (p0 : GValue) (p1 : GValue) : Option Int :=
  cond (gtS p0.Text p1.Text)
  (some 1)
  (some 0)
def m_telltaleref04_Rank_j16 : Option Int :=
  some 0
def m_telltaleref04_Rank_j4 (p0 : GValue) (p1 : GValue) (r21_0 : Int) (r24_0 : Int) : Option Int :=
  cond (decide (((p0.Kind.toNat : Nat) : Int) = 1))
  (cond (decide (p1.N < p0.N))
  (m_telltaleref04_Rank_j14 )
  (cond (decide (((p0.Kind.toNat : Nat) : Int) = 3))
  (cond (decide (r24_0 < r21_0))
  (m_telltaleref04_Rank_j14 )
  (cond (decide (((p0.Kind.toNat : Nat) : Int) = 4))
  (m_telltaleref04_Rank_j15 p0 p1)
  (m_telltaleref04_Rank_j16 )))
  (cond (decide (((p0.Kind.toNat : Nat) : Int) = 4))
  (m_telltaleref04_Rank_j15 p0 p1)
  (m_telltaleref04_Rank_j16 ))))
  (cond (decide (((p0.Kind.toNat : Nat) : Int) = 2))
  (cond (decide (p1.N < p0.N))
  (m_telltaleref04_Rank_j14 )
  (cond (decide (((p0.Kind.toNat : Nat) : Int) = 3))
  (cond (decide (r24_0 < r21_0))
  (m_telltaleref04_Rank_j14 )
  (cond (decide (((p0.Kind.toNat : Nat) : Int) = 4))
  (m_telltaleref04_Rank_j15 p0 p1)
  (m_telltaleref04_Rank_j16 )))
  (cond (decide (((p0.Kind.toNat : Nat) : Int) = 4))
  (m_telltaleref04_Rank_j15 p0 p1)
  (m_telltaleref04_Rank_j16 ))))
  (cond (decide (((p0.Kind.toNat : Nat) : Int) = 3))
  (cond (decide (r24_0 < r21_0))
  (m_telltaleref04_Rank_j14 )
  (cond (decide (((p0.Kind.toNat : Nat) : Int) = 4))
  (m_telltaleref04_Rank_j15 p0 p1)
  (m_telltaleref04_Rank_j16 )))
  (cond (decide (((p0.Kind.toNat : Nat) : Int) = 4))
  (m_telltaleref04_Rank_j15 p0 p1)
  (m_telltaleref04_Rank_j16 ))))
def m_telltaleref04_Rank (p0 : GValue) (p1 : GValue) : Option Int :=
  cond (decide (((p0.Kind.toNat : Nat) : Int) ≠ ((p1.Kind.toNat : Nat) : Int)))
  (cond (decide (((p0.Kind.toNat : Nat) : Int) < ((p1.Kind.toNat : Nat) : Int)))
  (some (-1))
  (some 1))
  (Option.bind (m_telltaleref03_Rank p0.Bits) fun r21_0 =>
  Option.bind (m_telltaleref03_Rank p1.Bits) fun r24_0 =>
  cond (decide (((p0.Kind.toNat : Nat) : Int) = 1))
  (cond (decide (p0.N < p1.N))
  (m_telltaleref04_Rank_j2 p0 p1 r21_0 r24_0)
  (cond (decide (((p0.Kind.toNat : Nat) : Int) = 3))
  (cond (decide (r21_0 < r24_0))
  (m_telltaleref04_Rank_j2 p0 p1 r21_0 r24_0)
  (cond (decide (((p0.Kind.toNat : Nat) : Int) = 4))
  (m_telltaleref04_Rank_j3 p0 p1 r21_0 r24_0)
  (m_telltaleref04_Rank_j4 p0 p1 r21_0 r24_0)))
  (cond (decide (((p0.Kind.toNat : Nat) : Int) = 4))
  (m_telltaleref04_Rank_j3 p0 p1 r21_0 r24_0)
  (m_telltaleref04_Rank_j4 p0 p1 r21_0 r24_0))))
  (cond (decide (((p0.Kind.toNat : Nat) : Int) = 2))
  (cond (decide (p0.N < p1.N))
  (m_telltaleref04_Rank_j2 p0 p1 r21_0 r24_0)
  (cond (decide (((p0.Kind.toNat : Nat) : Int) = 3))
  (cond (decide (r21_0 < r24_0))
  (m_telltaleref04_Rank_j2 p0 p1 r21_0 r24_0)
  (cond (decide (((p0.Kind.toNat : Nat) : Int) = 4))
  (m_telltaleref04_Rank_j3 p0 p1 r21_0 r24_0)
  (m_telltaleref04_Rank_j4 p0 p1 r21_0 r24_0)))
  (cond (decide (((p0.Kind.toNat : Nat) : Int) = 4))
  (m_telltaleref04_Rank_j3 p0 p1 r21_0 r24_0)
  (m_telltaleref04_Rank_j4 p0 p1 r21_0 r24_0))))
  (cond (decide (((p0.Kind.toNat : Nat) : Int) = 3))
  (cond (decide (r21_0 < r24_0))
  (m_telltaleref04_Rank_j2 p0 p1 r21_0 r24_0)
  (cond (decide (((p0.Kind.toNat : Nat) : Int) = 4))
  (m_telltaleref04_Rank_j3 p0 p1 r21_0 r24_0)
  (m_telltaleref04_Rank_j4 p0 p1 r21_0 r24_0)))
  (cond (decide (((p0.Kind.toNat : Nat) : Int) = 4))
  (m_telltaleref04_Rank_j3 p0 p1 r21_0 r24_0)
  (m_telltaleref04_Rank_j4 p0 p1 r21_0 r24_0)))))

def m_telltalelaw04_ValueChecks_j1 : Option Bool :=
  Option.bind m_telltalelaw04_awake fun r25_2 =>
  some r25_2
def m_telltalelaw04_ValueChecks (p0 : GValue) (p1 : GValue) (p2 : (List UInt8)) : Option Bool :=
  Option.bind (m_telltalelaw04_Small p0) fun r13_0 =>
  cond (decide ((0 : Int) < r13_0))
  (m_telltalelaw04_ValueChecks_j1 )
  (Option.bind (m_telltalelaw04_Small p1) fun r17_0 =>
  cond (decide ((0 : Int) < r17_0))
  (m_telltalelaw04_ValueChecks_j1 )
  (cond (decide ((100 : Int) < ((List.length p2 : Nat) : Int)))
  (Option.bind m_telltalelaw04_awake fun r25_3 =>
  some r25_3)
  (Option.bind (app ([] : List UInt8) p2) fun a28_4 =>
  Option.bind (m_value_Put a28_4 p0) fun r32_5 =>
  Option.bind (m_telltaleref04_Put p2 p0) fun r38_6 =>
  Option.bind (m_value_Check p0) fun r42_7 =>
  Option.bind (m_telltaleref04_Check p0) fun r44_7 =>
  cond (decide (r42_7 = r44_7))
  (Option.bind (m_value_Rank p0 p1) fun r49_7 =>
  Option.bind (m_telltaleref04_Rank p0 p1) fun r52_7 =>
  cond (decide (r49_7 = r52_7))
  (cond (decide (r32_5.1 = r38_6.1))
  (cond (decide (r32_5.2 = r38_6.2))
  (cond (decide (a28_4 = p2))
  (Option.bind m_telltalelaw04_awake fun r75_7 =>
  some r75_7)
  (some false))
  (some false))
  (some false))
  (some false))
  (some false))))

def m_telltaleref01_Open (p0 : (List UInt8)) : Option GReader :=
  some (GReader.mk p0 0 0)

def m_telltaleref01_rest (p0 : GReader) : Option (List UInt8) :=
  cond (decide (p0.At < 0))
  (some ([] : List UInt8))
  (cond (decide (((List.length p0.Text : Nat) : Int) < p0.At))
  (some ([] : List UInt8))
  (Option.bind (cut p0.Text p0.At ((List.length p0.Text : Nat) : Int)) fun s18_1 =>
  some s18_1))

def m_telltaleref01_RWord_l2 (p0 : GReader) (r8_0 : (List UInt8)) : Nat → Int → Int → Option (GReader × Int)
  | 0, _, _ => none
  | fu_2 + 1, y5_2, y6_2 =>
    cond (decide (y6_2 < 8))
    (Option.bind (geti r8_0 y6_2) fun x26_3 =>
    m_telltaleref01_RWord_l2 p0 r8_0 fu_2 (IntKind.u64.wrap ((IntKind.u64.wrap (y5_2 * 256)) + ((x26_3.toNat : Nat) : Int))) (IntKind.i64.wrap (y6_2 + 1)))
    (some ((GReader.mk p0.Text (IntKind.i64.wrap (p0.At + 8)) p0.E), y5_2))
def m_telltaleref01_RWord (p0 : GReader) : Option (GReader × Int) :=
  Option.bind (m_telltaleref01_rest p0) fun r8_0 =>
  cond (decide (p0.E ≠ 0))
  (some (p0, 0))
  (cond (decide (((List.length r8_0 : Nat) : Int) < 8))
  (some ((GReader.mk p0.Text p0.At 3), 0))
  (m_telltaleref01_RWord_l2 p0 r8_0 1152921504606846976 0 0))

def m_telltaleref02_Take_j9 (p1 : Int) (x33_3 : UInt8) (y7_1 : Int) (y8_1 : Int) (y9_1 : Int) (k_m_telltaleref02_Take_l1 : Int → Int → Int → Option (Int × Int × Int)) : Option (Int × Int × Int) :=
  Option.bind (some ((IntKind.u64.wrap (y7_1 + (IntKind.u64.wrap ((IntKind.u64.wrap (Int.tmod ((x33_3.toNat : Nat) : Int) 128)) * y8_1)))))) fun v53_6 =>
  cond (decide (((x33_3.toNat : Nat) : Int) < 128))
  (some (v53_6, (IntKind.i64.wrap ((IntKind.i64.wrap (p1 + y9_1)) + 1)), 0))
  (k_m_telltaleref02_Take_l1 v53_6 (IntKind.u64.wrap (y8_1 * 128)) (IntKind.i64.wrap (y9_1 + 1)))
def m_telltaleref02_Take_j8 (p1 : Int) (x33_3 : UInt8) (y7_1 : Int) (y8_1 : Int) (y9_1 : Int) (k_m_telltaleref02_Take_l1 : Int → Int → Int → Option (Int × Int × Int)) : Option (Int × Int × Int) :=
  cond (decide (((x33_3.toNat : Nat) : Int) = 0))
  (cond (decide ((0 : Int) < y9_1))
  (some (0, 0, 4))
  (m_telltaleref02_Take_j9 p1 x33_3 y7_1 y8_1 y9_1 k_m_telltaleref02_Take_l1))
  (m_telltaleref02_Take_j9 p1 x33_3 y7_1 y8_1 y9_1 k_m_telltaleref02_Take_l1)
def m_telltaleref02_Take_l1 (p0 : (List UInt8)) (p1 : Int) : Nat → Int → Int → Int → Option (Int × Int × Int)
  | 0, _, _, _ => none
  | fu_1 + 1, y7_1, y8_1, y9_1 =>
    cond (decide (y9_1 < 10))
    (cond (decide ((IntKind.i64.wrap (((List.length p0 : Nat) : Int) - p1)) ≤ y9_1))
    (some (0, 0, 3))
    (Option.bind (geti p0 (IntKind.i64.wrap (p1 + y9_1))) fun x33_3 =>
    cond (decide (y9_1 = 9))
    (cond (decide ((1 : Int) < ((x33_3.toNat : Nat) : Int)))
    (some (0, 0, 8))
    (m_telltaleref02_Take_j8 p1 x33_3 y7_1 y8_1 y9_1 (fun y7_1 y8_1 y9_1 => m_telltaleref02_Take_l1 p0 p1 fu_1 y7_1 y8_1 y9_1)))
    (m_telltaleref02_Take_j8 p1 x33_3 y7_1 y8_1 y9_1 (fun y7_1 y8_1 y9_1 => m_telltaleref02_Take_l1 p0 p1 fu_1 y7_1 y8_1 y9_1))))
    (some (0, 0, 8))
def m_telltaleref02_Take (p0 : (List UInt8)) (p1 : Int) : Option (Int × Int × Int) :=
  cond (decide (p1 < 0))
  (some (0, 0, 2))
  (cond (decide (((List.length p0 : Nat) : Int) < p1))
  (some (0, 0, 2))
  (m_telltaleref02_Take_l1 p0 p1 1152921504606846976 0 1 0))

def m_telltaleref02_Back (p0 : Int) : Option Int :=
  cond (decide ((Int.tmod p0 2) = 1))
  (some (IntKind.i64.wrap ((IntKind.i64.wrap (0 - (IntKind.i64.wrap (IntKind.u64.wrap (Int.tdiv p0 2))))) - 1)))
  (some (IntKind.i64.wrap (IntKind.u64.wrap (Int.tdiv p0 2))))

def m_telltaleref04_Take_j12 (y7_d_12 : GValue) (y8_12 : Int) : Option (GValue × Int × Int) :=
  Option.bind (m_telltaleref04_Check y7_d_12) fun r120_13 =>
  cond (decide (r120_13 ≠ 0))
  (some ((GValue.mk 0 0 0 ([] : List UInt8)), 0, r120_13))
  (some (y7_d_12, y8_12, 0))
def m_telltaleref04_Take (p0 : (List UInt8)) (p1 : Int) : Option (GValue × Int × Int) :=
  cond (decide (p1 < 0))
  (some ((GValue.mk 0 0 0 ([] : List UInt8)), 0, 2))
  (cond (decide (((List.length p0 : Nat) : Int) < p1))
  (some ((GValue.mk 0 0 0 ([] : List UInt8)), 0, 2))
  (cond (decide (p1 = ((List.length p0 : Nat) : Int)))
  (some ((GValue.mk 0 0 0 ([] : List UInt8)), 0, 3))
  (Option.bind (geti p0 p1) fun x31_2 =>
  cond (decide (((x31_2.toNat : Nat) : Int) < 1))
  (some ((GValue.mk 0 0 0 ([] : List UInt8)), 0, 11))
  (cond (decide ((4 : Int) < ((x31_2.toNat : Nat) : Int)))
  (some ((GValue.mk 0 0 0 ([] : List UInt8)), 0, 11))
  (cond (decide (((x31_2.toNat : Nat) : Int) = 2))
  (cond (decide ((IntKind.i64.wrap (p1 + 1)) = ((List.length p0 : Nat) : Int)))
  (some ((GValue.mk 0 0 0 ([] : List UInt8)), 0, 3))
  (Option.bind (geti p0 (IntKind.i64.wrap (p1 + 1))) fun x54_5 =>
  m_telltaleref04_Take_j12  (GValue.mk x31_2 ((x54_5.toNat : Nat) : Int) 0 ([] : List UInt8)) (IntKind.i64.wrap ((IntKind.i64.wrap (p1 + 1)) + 1))))
  (cond (decide (((x31_2.toNat : Nat) : Int) = 3))
  (Option.bind (cut p0 (IntKind.i64.wrap (p1 + 1)) ((List.length p0 : Nat) : Int)) fun s65_6 =>
  Option.bind (m_telltaleref01_Open s65_6) fun r66_6 =>
  Option.bind (m_telltaleref01_RWord r66_6) fun r67_6 =>
  cond (decide (r67_6.1.E ≠ 0))
  (some ((GValue.mk 0 0 0 ([] : List UInt8)), 0, 3))
  (m_telltaleref04_Take_j12  (GValue.mk x31_2 0 r67_6.2 ([] : List UInt8)) (IntKind.i64.wrap ((IntKind.i64.wrap (p1 + 1)) + 8))))
  (Option.bind (m_telltaleref02_Take p0 (IntKind.i64.wrap (p1 + 1))) fun r81_7 =>
  cond (decide (r81_7.2.2 ≠ 0))
  (some ((GValue.mk 0 0 0 ([] : List UInt8)), 0, r81_7.2.2))
  (cond (decide (((x31_2.toNat : Nat) : Int) = 1))
  (Option.bind (m_telltaleref02_Back r81_7.1) fun r93_8 =>
  m_telltaleref04_Take_j12  (GValue.mk x31_2 r93_8 0 ([] : List UInt8)) r81_7.2.1)
  (cond (decide ((24 : Int) < r81_7.1))
  (some ((GValue.mk 0 0 0 ([] : List UInt8)), 0, 5))
  (cond (decide ((IntKind.i64.wrap (((List.length p0 : Nat) : Int) - r81_7.2.1)) < (IntKind.i64.wrap r81_7.1)))
  (some ((GValue.mk 0 0 0 ([] : List UInt8)), 0, 3))
  (Option.bind (cut p0 r81_7.2.1 (IntKind.i64.wrap (r81_7.2.1 + (IntKind.i64.wrap r81_7.1)))) fun s113_10 =>
  m_telltaleref04_Take_j12  (GValue.mk x31_2 0 0 s113_10) (IntKind.i64.wrap (r81_7.2.1 + (IntKind.i64.wrap r81_7.1))))))))))))))

def m_telltalelaw04_ValueTakes (p0 : (List UInt8)) (p1 : Int) : Option Bool :=
  cond (decide ((100 : Int) < ((List.length p0 : Nat) : Int)))
  (Option.bind m_telltalelaw04_awake fun r14_1 =>
  some r14_1)
  (Option.bind (m_value_Take p0 p1) fun r18_2 =>
  Option.bind (m_telltaleref04_Take p0 p1) fun r25_3 =>
  Option.bind (some ((decide (((r18_2.1.Kind.toNat : Nat) : Int) = ((r25_3.1.Kind.toNat : Nat) : Int)) && (decide (r18_2.1.N = r25_3.1.N) && (decide (r18_2.1.Bits = r25_3.1.Bits) && (decide (r18_2.1.Text = r25_3.1.Text) && true)))))) fun v31_4 =>
  cond v31_4
  (cond (decide (r18_2.2.1 = r25_3.2.1))
  (cond (decide (r18_2.2.2 = r25_3.2.2))
  (Option.bind m_telltalelaw04_awake fun r43_4 =>
  some r43_4)
  (some false))
  (some false))
  (some false))

def m_telltalelaw04_ValueBack_j1 : Option Bool :=
  Option.bind m_telltalelaw04_awake fun r33_2 =>
  some r33_2
def m_telltalelaw04_ValueBack_j8 (p0 : GValue) (p1 : GValue) (p2 : (List UInt8)) : Option Bool :=
  Option.bind (m_value_Put ([] : List UInt8) p0) fun r69_9 =>
  Option.bind (m_value_Put ([] : List UInt8) p1) fun r74_10 =>
  cond (decide (r69_9.2 ≠ 0))
  (Option.bind m_telltalelaw04_awake fun r83_12 =>
  some r83_12)
  (cond (decide (r74_10.2 ≠ 0))
  (Option.bind m_telltalelaw04_awake fun r83_13 =>
  some r83_13)
  (Option.bind (app r69_9.1 p2) fun t88_14 =>
  Option.bind (m_value_Take t88_14 0) fun r89_14 =>
  Option.bind (some ((decide (((p0.Kind.toNat : Nat) : Int) = ((p1.Kind.toNat : Nat) : Int)) && (decide (p0.N = p1.N) && (decide (p0.Bits = p1.Bits) && (decide (p0.Text = p1.Text) && true)))))) fun v95_15 =>
  cond (decide (r89_14.2.2 = 0))
  (Option.bind (some ((decide (((r89_14.1.Kind.toNat : Nat) : Int) = ((p0.Kind.toNat : Nat) : Int)) && (decide (r89_14.1.N = p0.N) && (decide (r89_14.1.Bits = p0.Bits) && (decide (r89_14.1.Text = p0.Text) && true)))))) fun v101_16 =>
  cond v101_16
  (cond (decide (r89_14.2.1 = ((List.length r69_9.1 : Nat) : Int)))
  (cond (decide (decide (r69_9.1 = r74_10.1) = v95_15))
  (Option.bind (m_value_Rank p0 p1) fun r121_16 =>
  cond (decide (decide (r121_16 = 0) = v95_15))
  (Option.bind m_telltalelaw04_awake fun r127_16 =>
  some r127_16)
  (some false))
  (some false))
  (some false))
  (some false))
  (some false)))
def m_telltalelaw04_ValueBack_j7 : Option Bool :=
  some false
def m_telltalelaw04_ValueBack (p0 : GValue) (p1 : GValue) (p2 : (List UInt8)) : Option Bool :=
  Option.bind (m_telltalelaw04_Small p0) fun r21_0 =>
  cond (decide ((0 : Int) < r21_0))
  (m_telltalelaw04_ValueBack_j1 )
  (Option.bind (m_telltalelaw04_Small p1) fun r25_0 =>
  cond (decide ((0 : Int) < r25_0))
  (m_telltalelaw04_ValueBack_j1 )
  (cond (decide ((100 : Int) < ((List.length p2 : Nat) : Int)))
  (Option.bind m_telltalelaw04_awake fun r33_3 =>
  some r33_3)
  (Option.bind (m_value_Take p2 0) fun r36_4 =>
  cond (decide (r36_4.2.2 = 0))
  (Option.bind (m_value_Put ([] : List UInt8) r36_4.1) fun r44_5 =>
  cond (decide (r44_5.2 ≠ 0))
  (m_telltalelaw04_ValueBack_j7 )
  (cond (decide (r36_4.2.1 < 0))
  (m_telltalelaw04_ValueBack_j7 )
  (cond (decide (((List.length p2 : Nat) : Int) < r36_4.2.1))
  (m_telltalelaw04_ValueBack_j7 )
  (Option.bind (cut p2 0 r36_4.2.1) fun s64_6 =>
  cond (decide (r44_5.1 ≠ s64_6))
  (some false)
  (m_telltalelaw04_ValueBack_j8 p0 p1 p2)))))
  (m_telltalelaw04_ValueBack_j8 p0 p1 p2))))
end Go.Proofs.Ytgocnknbiipcfaa.K
