/- models of the program's functions -/
import Derived.Test.YtpacbldefdggjaaLT
namespace Go.Proofs.Ytpacbldefdggjaa.K
open Go.RowKit Go.Lib
set_option linter.unusedVariables false
set_option linter.unusedSimpArgs false

def m_hash_Add_l0 (p1 : (List UInt8)) : Nat → Int → Int → Option Int
  | 0, _, _ => none
  | fu_0 + 1, y0_0, y5_0 =>
    cond (decide (y5_0 < ((List.length p1 : Nat) : Int)))
    (Option.bind (geti p1 y5_0) fun x13_2 =>
    Option.bind (some ((IntKind.u64.wrap ((IntKind.u64.wrap (((BitVec.ofInt 64 y0_0 ^^^ BitVec.ofInt 64 ((x13_2.toNat : Nat) : Int)).toNat : Int))) * 1099511628211)))) fun v16_2 =>
    m_hash_Add_l0 p1 fu_0 v16_2 (IntKind.i64.wrap (y5_0 + 1)))
    (some y0_0)
def m_hash_Add (p0 : Int) (p1 : (List UInt8)) : Option Int :=
  m_hash_Add_l0 p1 1152921504606846976 p0 0

def m_hash_Sum (p0 : (List UInt8)) : Option Int :=
  Option.bind (m_hash_Add 14695981039346656037 p0) fun r4_0 =>
  some r4_0

def m_value_OfInt (p0 : Int) : Option GValue :=
  some (GValue.mk 1 (max (-4611686018427387904) (min p0 4611686018427387904)) 0 ([] : List UInt8))

def m_value_core (p0 : GValue) : Option Value :=
  cond (decide (((p0.Kind.toNat : Nat) : Int) = 1))
  (some (Value.iface 54 (.int .i64 p0.N)))
  (cond (decide (((p0.Kind.toNat : Nat) : Int) = 2))
  (some (Value.iface 55 (.int .i64 p0.N)))
  (cond (decide (((p0.Kind.toNat : Nat) : Int) = 3))
  (some (Value.iface 56 (.int .u64 p0.Bits)))
  (cond (decide (((p0.Kind.toNat : Nat) : Int) = 4))
  (some (Value.iface 57 (.string (toS p0.Text))))
  (some Value.nilIface))))

def m_real_of (p0 : Int) : Option Nat :=
  some (Int.toNat p0)

def m_real_Clean (p0 : Int) : Option Int :=
  Option.bind (m_real_of p0) fun r5_0 =>
  cond (fne r5_0 r5_0)
  (some 9221120237041090560)
  (some p0)

def m_value_number_whole (p0 : Int) : Option GValue :=
  some (GValue.mk 1 p0 0 ([] : List UInt8))

def m_value_flag_whole (p0 : Int) : Option GValue :=
  some (GValue.mk 2 p0 0 ([] : List UInt8))

def m_value_double_whole (p0 : Int) : Option GValue :=
  some (GValue.mk 3 0 p0 ([] : List UInt8))

def m_value_words_whole (p0 : (List UInt8)) : Option GValue :=
  some (GValue.mk 4 0 0 p0)

def m_value_Check_j11 (y46_11 : Bool) : Option Int :=
  cond y46_11
  (some 2)
  (some 0)
def m_value_Check_j9 (p0 : GValue) (r10_0 : Value) : Option Int :=
  cond (isT 54 r10_0)
  (Option.bind (inI .i64 r10_0) fun n44_10_54 =>
  Option.bind (m_value_number_whole n44_10_54) fun r44_10_54 =>
  Option.bind (some ((!(decide (((r44_10_54.Kind.toNat : Nat) : Int) = ((p0.Kind.toNat : Nat) : Int)) && (decide (r44_10_54.N = p0.N) && (decide (r44_10_54.Bits = p0.Bits) && (decide (r44_10_54.Text = p0.Text) && true))))))) fun v46_10 =>
  m_value_Check_j11  v46_10)
  (cond (isT 55 r10_0)
  (Option.bind (inI .i64 r10_0) fun n44_10_55 =>
  Option.bind (m_value_flag_whole n44_10_55) fun r44_10_55 =>
  Option.bind (some ((!(decide (((r44_10_55.Kind.toNat : Nat) : Int) = ((p0.Kind.toNat : Nat) : Int)) && (decide (r44_10_55.N = p0.N) && (decide (r44_10_55.Bits = p0.Bits) && (decide (r44_10_55.Text = p0.Text) && true))))))) fun v46_10 =>
  m_value_Check_j11  v46_10)
  (cond (isT 56 r10_0)
  (Option.bind (inI .u64 r10_0) fun n44_10_56 =>
  Option.bind (m_value_double_whole n44_10_56) fun r44_10_56 =>
  Option.bind (some ((!(decide (((r44_10_56.Kind.toNat : Nat) : Int) = ((p0.Kind.toNat : Nat) : Int)) && (decide (r44_10_56.N = p0.N) && (decide (r44_10_56.Bits = p0.Bits) && (decide (r44_10_56.Text = p0.Text) && true))))))) fun v46_10 =>
  m_value_Check_j11  v46_10)
  (cond (isT 57 r10_0)
  (Option.bind (inS r10_0) fun n44_10_57 =>
  Option.bind (m_value_words_whole n44_10_57) fun r44_10_57 =>
  Option.bind (some ((!(decide (((r44_10_57.Kind.toNat : Nat) : Int) = ((p0.Kind.toNat : Nat) : Int)) && (decide (r44_10_57.N = p0.N) && (decide (r44_10_57.Bits = p0.Bits) && (decide (r44_10_57.Text = p0.Text) && true))))))) fun v46_10 =>
  m_value_Check_j11  v46_10)
  (none))))
def m_value_Check (p0 : GValue) : Option Int :=
  Option.bind (m_value_core p0) fun r10_0 =>
  Option.bind (tasI .i64 54 r10_0) fun z12_1 =>
  cond z12_1.2
  (cond (decide (z12_1.1 < (-4611686018427387904)))
  (some 8)
  (cond (decide ((4611686018427387904 : Int) < z12_1.1))
  (some 8)
  (m_value_Check_j9 p0 r10_0)))
  (Option.bind (tasI .i64 55 r10_0) fun z21_3 =>
  cond z21_3.2
  (cond (decide (z21_3.1 ≠ 0))
  (cond (decide (z21_3.1 ≠ 1))
  (some 8)
  (m_value_Check_j9 p0 r10_0))
  (m_value_Check_j9 p0 r10_0))
  (Option.bind (tasI .u64 56 r10_0) fun z30_5 =>
  cond z30_5.2
  (Option.bind (m_real_Clean z30_5.1) fun r34_6 =>
  cond (decide (r34_6 ≠ z30_5.1))
  (some 4)
  (m_value_Check_j9 p0 r10_0))
  (Option.bind (tasS 57 r10_0) fun z37_7 =>
  cond z37_7.2
  (cond (decide ((24 : Int) < ((List.length z37_7.1 : Nat) : Int)))
  (some 5)
  (m_value_Check_j9 p0 r10_0))
  (some 11))))

def m_zig_Fold (p0 : Int) : Option Int :=
  Option.bind (some ((IntKind.u64.wrap (((BitVec.ofInt 64 (IntKind.u64.wrap ((IntKind.u64.wrap p0) * 2 ^ 1)) ^^^ BitVec.ofInt 64 (IntKind.u64.wrap (Int.fdiv p0 (2 ^ 63)))).toNat : Int))))) fun v9_0 =>
  some v9_0

def m_math_bits_Len64_j2 (y0_2 : Int) (y2_2 : Int) : Option Int :=
  Option.bind (geti ([0, 1, 2, 2, 3, 3, 3, 3, 4, 4, 4, 4, 4, 4, 4, 4, 5, 5, 5, 5, 5, 5, 5, 5, 5, 5, 5, 5, 5, 5, 5, 5, 6, 6, 6, 6, 6, 6, 6, 6, 6, 6, 6, 6, 6, 6, 6, 6, 6, 6, 6, 6, 6, 6, 6, 6, 6, 6, 6, 6, 6, 6, 6, 6, 7, 7, 7, 7, 7, 7, 7, 7, 7, 7, 7, 7, 7, 7, 7, 7, 7, 7, 7, 7, 7, 7, 7, 7, 7, 7, 7, 7, 7, 7, 7, 7, 7, 7, 7, 7, 7, 7, 7, 7, 7, 7, 7, 7, 7, 7, 7, 7, 7, 7, 7, 7, 7, 7, 7, 7, 7, 7, 7, 7, 7, 7, 7, 7, 8, 8, 8, 8, 8, 8, 8, 8, 8, 8, 8, 8, 8, 8, 8, 8, 8, 8, 8, 8, 8, 8, 8, 8, 8, 8, 8, 8, 8, 8, 8, 8, 8, 8, 8, 8, 8, 8, 8, 8, 8, 8, 8, 8, 8, 8, 8, 8, 8, 8, 8, 8, 8, 8, 8, 8, 8, 8, 8, 8, 8, 8, 8, 8, 8, 8, 8, 8, 8, 8, 8, 8, 8, 8, 8, 8, 8, 8, 8, 8, 8, 8, 8, 8, 8, 8, 8, 8, 8, 8, 8, 8, 8, 8, 8, 8, 8, 8, 8, 8, 8, 8, 8, 8, 8, 8, 8, 8, 8, 8, 8, 8, 8, 8, 8, 8, 8, 8, 8, 8, 8, 8, 8, 8, 8, 8, 8, 8] : List UInt8) (((toU8 y0_2).toNat : Nat) : Int)) fun x22_3 =>
  some (IntKind.i64.wrap (y2_2 + ((x22_3.toNat : Nat) : Int)))
def m_math_bits_Len64_j1 (y0_1 : Int) (y2_1 : Int) : Option Int :=
  cond (decide ((256 : Int) ≤ y0_1))
  (m_math_bits_Len64_j2  (Int.fdiv y0_1 (2 ^ 8)) (IntKind.i64.wrap (y2_1 + 8)))
  (m_math_bits_Len64_j2  y0_1 y2_1)
def m_math_bits_Len64_j0 (y0_0 : Int) (y2_0 : Int) : Option Int :=
  cond (decide ((65536 : Int) ≤ y0_0))
  (m_math_bits_Len64_j1  (Int.fdiv y0_0 (2 ^ 16)) (IntKind.i64.wrap (y2_0 + 16)))
  (m_math_bits_Len64_j1  y0_0 y2_0)
def m_math_bits_Len64 (p0 : Int) : Option Int :=
  cond (decide ((4294967296 : Int) ≤ p0))
  (m_math_bits_Len64_j0  (Int.fdiv p0 (2 ^ 32)) 32)
  (m_math_bits_Len64_j0  p0 0)

def m_zig_Size (p0 : Int) : Option Int :=
  Option.bind (m_math_bits_Len64 p0) fun r4_0 =>
  some (max 1 (IntKind.i64.wrap (Int.tdiv (IntKind.i64.wrap ((IntKind.i64.wrap (r4_0 + 7)) - 1)) 7)))

def m_zig_Put_j5 (y20_3 : Int) (y6_3 : List UInt8) (k_m_zig_Put_l3 : (List UInt8) → Int → Option (List UInt8)) (y8_5 : UInt8) : Option (List UInt8) :=
  Option.bind (app y6_3 ([y8_5] : List UInt8)) fun a38_5 =>
  k_m_zig_Put_l3 a38_5 (IntKind.i64.wrap (y20_3 + 1))
def m_zig_Put_l3 (p1 : Int) (r10_0 : Int) : Nat → (List UInt8) → Int → Option (List UInt8)
  | 0, _, _ => none
  | fu_3 + 1, y6_3, y20_3 =>
    cond (decide (y20_3 < r10_0))
    (chk (0 ≤ (IntKind.i64.wrap (7 * y20_3)) ∧ (IntKind.i64.wrap (7 * y20_3)) ≤ 64) (
    Option.bind (some ((toU8 (((BitVec.ofInt 8 (((toU8 (Int.fdiv p1 (2 ^ (Int.toNat (IntKind.i64.wrap (7 * y20_3)))))).toNat : Nat) : Int) ||| BitVec.ofInt 8 128).toNat : Int))))) fun v28_4 =>
    cond (decide (y20_3 = (IntKind.i64.wrap (r10_0 - 1))))
    (m_zig_Put_j5 y20_3 y6_3 (fun y6_3 y20_3 => m_zig_Put_l3 p1 r10_0 fu_3 y6_3 y20_3) (toU8 (((BitVec.ofInt 8 ((v28_4.toNat : Nat) : Int) &&& ~~~ BitVec.ofInt 8 128).toNat : Int))))
    (m_zig_Put_j5 y20_3 y6_3 (fun y6_3 y20_3 => m_zig_Put_l3 p1 r10_0 fu_3 y6_3 y20_3) v28_4)))
    (some y6_3)
def m_zig_Put (p0 : (List UInt8)) (p1 : Int) : Option (List UInt8) :=
  Option.bind (m_zig_Size p1) fun r10_0 =>
  Option.bind (mkc 0 (IntKind.i64.wrap (((List.length p0 : Nat) : Int) + r10_0)) (0 : UInt8)) fun m15_1 =>
  Option.bind (app m15_1 p0) fun a18_2 =>
  m_zig_Put_l3 p1 r10_0 1152921504606846976 a18_2 0

def m_zig_PutInt (p0 : (List UInt8)) (p1 : Int) : Option (List UInt8) :=
  Option.bind (m_zig_Fold p1) fun r7_0 =>
  Option.bind (m_zig_Put p0 r7_0) fun r8_0 =>
  some r8_0

def m_octet_grown (p0 : (List UInt8)) (p1 : Int) : Option (List UInt8) :=
  Option.bind (mkl (IntKind.i64.wrap (((List.length p0 : Nat) : Int) + p1)) (0 : UInt8)) fun m10_0 =>
  Option.bind (cpy m10_0 p0) fun c13_1 =>
  some c13_1

def m_octet_lay_l1 (p1 : Int) : Nat → (List UInt8) → Int → Int → Option (List UInt8)
  | 0, _, _, _ => none
  | fu_1 + 1, y0_1, y2_1, y6_1 =>
    cond (decide ((IntKind.i64.wrap (((List.length y0_1 : Nat) : Int) - p1)) ≤ y6_1))
    (Option.bind (geti y0_1 y6_1) fun x22_3 =>
    m_octet_lay_l1 p1 fu_1 (List.set y0_1 (Int.toNat y6_1) (toU8 y2_1)) (Int.fdiv y2_1 (2 ^ 8)) (IntKind.i64.wrap (y6_1 - 1)))
    (some y0_1)
def m_octet_lay (p0 : (List UInt8)) (p1 : Int) (p2 : Int) : Option (List UInt8) :=
  m_octet_lay_l1 p1 1152921504606846976 p0 p2 (IntKind.i64.wrap (((List.length p0 : Nat) : Int) - 1))

def m_octet_Word (p0 : (List UInt8)) (p1 : Int) : Option (List UInt8) :=
  Option.bind (m_octet_grown p0 8) fun r7_0 =>
  Option.bind (m_octet_lay r7_0 8 p1) fun r10_1 =>
  some r10_1

def m_value_Put (p0 : (List UInt8)) (p1 : GValue) : Option ((List UInt8) × Int) :=
  Option.bind (m_value_Check p1) fun r9_0 =>
  cond (decide (r9_0 ≠ 0))
  (some (([] : List UInt8), r9_0))
  (Option.bind (mkc ((List.length p0 : Nat) : Int) (IntKind.i64.wrap (((List.length p0 : Nat) : Int) + 1)) (0 : UInt8)) fun m18_1 =>
  Option.bind (cpy m18_1 p0) fun c21_2 =>
  Option.bind (app c21_2 ([p1.Kind] : List UInt8)) fun a26_3 =>
  cond (decide (((p1.Kind.toNat : Nat) : Int) = 1))
  (Option.bind (m_zig_PutInt a26_3 p1.N) fun r34_4 =>
  some (r34_4, 0))
  (cond (decide (((p1.Kind.toNat : Nat) : Int) = 2))
  (Option.bind (app a26_3 ([(toU8 p1.N)] : List UInt8)) fun a42_5 =>
  some (a42_5, 0))
  (cond (decide (((p1.Kind.toNat : Nat) : Int) = 3))
  (Option.bind (m_octet_Word a26_3 p1.Bits) fun r48_6 =>
  some (r48_6, 0))
  (Option.bind (m_zig_Put a26_3 (IntKind.u64.wrap ((List.length p1.Text : Nat) : Int))) fun r54_7 =>
  Option.bind (app r54_7 p1.Text) fun a57_7 =>
  some (a57_7, 0)))))

def m_hash_Key (p0 : Int) (p1 : GValue) : Option (List UInt8) :=
  Option.bind (m_value_Put ([(toU8 p0)] : List UInt8) p1) fun r12_0 =>
  cond (decide (r12_0.2 ≠ 0))
  (some ([] : List UInt8))
  (some r12_0.1)

def m_hash_Bare (p0 : Int) : Option (List UInt8) :=
  some ([(toU8 p0)] : List UInt8)

def m_hash_Pattern (p0 : (List UInt8)) : Option Int :=
  cond (decide (p0 = ([] : List UInt8)))
  (some (-1))
  (Option.bind (geti p0 0) fun x6_0 =>
  some ((x6_0.toNat : Nat) : Int))

def m_hash_Mix (p0 : Int) : Option Int :=
  Option.bind (some ((IntKind.u64.wrap ((IntKind.u64.wrap (((BitVec.ofInt 64 p0 ^^^ BitVec.ofInt 64 (Int.fdiv p0 (2 ^ 30))).toNat : Int))) * 13787848793156543929)))) fun v8_0 =>
  Option.bind (some ((IntKind.u64.wrap ((IntKind.u64.wrap (((BitVec.ofInt 64 v8_0 ^^^ BitVec.ofInt 64 (Int.fdiv v8_0 (2 ^ 27))).toNat : Int))) * 10723151780598845931)))) fun v14_1 =>
  some (IntKind.u64.wrap (((BitVec.ofInt 64 v14_1 ^^^ BitVec.ofInt 64 (Int.fdiv v14_1 (2 ^ 31))).toNat : Int)))

def m_hash_Worker (p0 : (List UInt8)) (p1 : Int) : Option Int :=
  cond (decide (p1 < 1))
  (some 0)
  (Option.bind (m_hash_Sum p0) fun r8_0 =>
  Option.bind (m_hash_Mix r8_0) fun r9_0 =>
  chk ((IntKind.u64.wrap p1) ≠ 0) (
  some (IntKind.i64.wrap (Int.tmod r9_0 (IntKind.u64.wrap p1)))))

def m_telltalelaw08_awake : Option Bool :=
  Option.bind (m_hash_Sum ([] : List UInt8)) fun r1_0 =>
  cond (decide (r1_0 = 14695981039346656037))
  (Option.bind (m_hash_Sum ([97] : List UInt8)) fun r4_0 =>
  cond (decide (r4_0 = 12638187200555641996))
  (Option.bind (m_value_OfInt 1) fun r10_0 =>
  Option.bind (m_hash_Key 258 r10_0) fun r11_0 =>
  cond (decide (r11_0 = ([2, 1, 2] : List UInt8)))
  (Option.bind (m_hash_Bare (-1)) fun r15_0 =>
  cond (decide (r15_0 = ([255] : List UInt8)))
  (Option.bind (m_hash_Pattern ([2, 120] : List UInt8)) fun r19_0 =>
  cond (decide (r19_0 = 2))
  (Option.bind (m_hash_Pattern ([] : List UInt8)) fun r23_0 =>
  cond (decide (r23_0 = (-1)))
  (Option.bind (m_hash_Key 1 (GValue.mk 0 0 0 ([] : List UInt8))) fun r28_0 =>
  cond (decide (r28_0 = ([] : List UInt8)))
  (Option.bind (m_hash_Worker ([97] : List UInt8) 0) fun r32_0 =>
  cond (decide (r32_0 = 0))
  (Option.bind (m_hash_Mix 1) fun r36_0 =>
  some (decide (r36_0 ≠ 1)))
  (some false))
  (some false))
  (some false))
  (some false))
  (some false))
  (some false))
  (some false))
  (some false)

def m_telltaleref08_Add_l0 (p1 : (List UInt8)) : Nat → Int → Int → Option Int
  | 0, _, _ => none
  | fu_0 + 1, y0_0, y5_0 =>
    cond (decide (y5_0 < ((List.length p1 : Nat) : Int)))
    (Option.bind (geti p1 y5_0) fun x15_2 =>
    Option.bind (some ((IntKind.u64.wrap ((IntKind.u64.wrap (((BitVec.ofInt 64 y0_0 ^^^ BitVec.ofInt 64 ((x15_2.toNat : Nat) : Int)).toNat : Int))) * 1099511628211)))) fun v18_2 =>
    m_telltaleref08_Add_l0 p1 fu_0 v18_2 (IntKind.i64.wrap (y5_0 + 1)))
    (some y0_0)
def m_telltaleref08_Add (p0 : Int) (p1 : (List UInt8)) : Option Int :=
  m_telltaleref08_Add_l0 p1 1152921504606846976 p0 0

def m_telltaleref08_Mix (p0 : Int) : Option Int :=
  Option.bind (some ((IntKind.u64.wrap (((BitVec.ofInt 64 p0 ^^^ BitVec.ofInt 64 (IntKind.u64.wrap (Int.tdiv p0 1073741824))).toNat : Int))))) fun v8_0 =>
  Option.bind (some ((IntKind.u64.wrap (((BitVec.ofInt 64 (IntKind.u64.wrap (v8_0 * 13787848793156543929)) ^^^ BitVec.ofInt 64 (IntKind.u64.wrap (Int.tdiv (IntKind.u64.wrap (v8_0 * 13787848793156543929)) 134217728))).toNat : Int))))) fun v13_1 =>
  Option.bind (some ((IntKind.u64.wrap (((BitVec.ofInt 64 (IntKind.u64.wrap (v13_1 * 10723151780598845931)) ^^^ BitVec.ofInt 64 (IntKind.u64.wrap (Int.tdiv (IntKind.u64.wrap (v13_1 * 10723151780598845931)) 2147483648))).toNat : Int))))) fun v18_2 =>
  some v18_2

def m_telltalelaw08_HashSums (p0 : Int) (p1 : (List UInt8)) : Option Bool :=
  cond (decide ((300 : Int) < ((List.length p1 : Nat) : Int)))
  (Option.bind m_telltalelaw08_awake fun r8_1 =>
  some r8_1)
  (Option.bind (m_hash_Add p0 p1) fun r11_2 =>
  Option.bind (m_telltaleref08_Add p0 p1) fun r14_2 =>
  cond (decide (r11_2 = r14_2))
  (Option.bind (m_hash_Sum p1) fun r18_2 =>
  Option.bind (m_telltaleref08_Add 14695981039346656037 p1) fun r20_2 =>
  cond (decide (r18_2 = r20_2))
  (Option.bind (m_hash_Mix p0) fun r25_2 =>
  Option.bind (m_telltaleref08_Mix p0) fun r27_2 =>
  cond (decide (r25_2 = r27_2))
  (Option.bind m_telltalelaw08_awake fun r31_2 =>
  some r31_2)
  (some false))
  (some false))
  (some false))

def m_telltalelaw04_Small (p0 : GValue) : Option Int :=
  some (max 0 (IntKind.i64.wrap (((List.length p0.Text : Nat) : Int) - 100)))

def m_telltaleref08_Bare_j0 (y3_0 : Int) : Option (List UInt8) :=
  some ([(toU8 y3_0)] : List UInt8)
def m_telltaleref08_Bare (p0 : Int) : Option (List UInt8) :=
  cond (decide ((Int.tmod p0 256) < 0))
  (m_telltaleref08_Bare_j0  (IntKind.i64.wrap ((Int.tmod p0 256) + 256)))
  (m_telltaleref08_Bare_j0  (Int.tmod p0 256))

def m_telltaleref03_Exp (p0 : Int) : Option Int :=
  some (IntKind.i64.wrap (Int.tmod (IntKind.u64.wrap (Int.tdiv p0 4503599627370496)) 2048))

def m_telltaleref03_Frac (p0 : Int) : Option Int :=
  some (Int.tmod p0 4503599627370496)

def m_telltaleref03_Kind_j1 (p0 : Int) : Option UInt8 :=
  Option.bind (m_telltaleref03_Exp p0) fun r12_2 =>
  cond (decide (r12_2 = 2047))
  (some 4)
  (Option.bind (m_telltaleref03_Exp p0) fun r15_3 =>
  cond (decide (r15_3 ≠ 0))
  (some 3)
  (Option.bind (m_telltaleref03_Frac p0) fun r18_4 =>
  cond (decide (r18_4 ≠ 0))
  (some 2)
  (some 1)))
def m_telltaleref03_Kind (p0 : Int) : Option UInt8 :=
  Option.bind (m_telltaleref03_Exp p0) fun r4_0 =>
  cond (decide (r4_0 = 2047))
  (Option.bind (m_telltaleref03_Frac p0) fun r8_0 =>
  cond (decide (r8_0 ≠ 0))
  (some 5)
  (m_telltaleref03_Kind_j1 p0))
  (m_telltaleref03_Kind_j1 p0)

def m_telltaleref03_Clean (p0 : Int) : Option Int :=
  Option.bind (m_telltaleref03_Kind p0) fun r4_0 =>
  cond (decide (((r4_0.toNat : Nat) : Int) = 5))
  (some 9221120237041090560)
  (some p0)

def m_telltaleref04_Check_j11 : Option Int :=
  some 2
def m_telltaleref04_Check_j12 (p0 : GValue) : Option Int :=
  cond (decide (p0.Text ≠ ([] : List UInt8)))
  (some 2)
  (some 0)
def m_telltaleref04_Check_j13 : Option Int :=
  some 0
def m_telltaleref04_Check_j9 (p0 : GValue) : Option Int :=
  cond (decide ((2 : Int) < ((p0.Kind.toNat : Nat) : Int)))
  (cond (decide (p0.N ≠ 0))
  (m_telltaleref04_Check_j11 )
  (cond (decide (((p0.Kind.toNat : Nat) : Int) ≠ 3))
  (cond (decide (p0.Bits ≠ 0))
  (m_telltaleref04_Check_j11 )
  (cond (decide (((p0.Kind.toNat : Nat) : Int) ≠ 4))
  (m_telltaleref04_Check_j12 p0)
  (m_telltaleref04_Check_j13 )))
  (cond (decide (((p0.Kind.toNat : Nat) : Int) ≠ 4))
  (m_telltaleref04_Check_j12 p0)
  (m_telltaleref04_Check_j13 ))))
  (cond (decide (((p0.Kind.toNat : Nat) : Int) ≠ 3))
  (cond (decide (p0.Bits ≠ 0))
  (m_telltaleref04_Check_j11 )
  (cond (decide (((p0.Kind.toNat : Nat) : Int) ≠ 4))
  (m_telltaleref04_Check_j12 p0)
  (m_telltaleref04_Check_j13 )))
  (cond (decide (((p0.Kind.toNat : Nat) : Int) ≠ 4))
  (m_telltaleref04_Check_j12 p0)
  (m_telltaleref04_Check_j13 )))
def m_telltaleref04_Check_j7 (p0 : GValue) : Option Int :=
  cond (decide (((p0.Kind.toNat : Nat) : Int) = 4))
  (cond (decide ((24 : Int) < ((List.length p0.Text : Nat) : Int)))
  (some 5)
  (m_telltaleref04_Check_j9 p0))
  (m_telltaleref04_Check_j9 p0)
def m_telltaleref04_Check_j5 (p0 : GValue) : Option Int :=
  cond (decide (((p0.Kind.toNat : Nat) : Int) = 3))
  (Option.bind (m_telltaleref03_Clean p0.Bits) fun r45_6 =>
  cond (decide (r45_6 ≠ p0.Bits))
  (some 4)
  (m_telltaleref04_Check_j7 p0))
  (m_telltaleref04_Check_j7 p0)
def m_telltaleref04_Check_j2 : Option Int :=
  some 8
def m_telltaleref04_Check_j3 (p0 : GValue) : Option Int :=
  cond (decide ((1 : Int) < p0.N))
  (some 8)
  (m_telltaleref04_Check_j5 p0)
def m_telltaleref04_Check_j4 (p0 : GValue) : Option Int :=
  m_telltaleref04_Check_j5 p0
def m_telltaleref04_Check (p0 : GValue) : Option Int :=
  cond (decide (((p0.Kind.toNat : Nat) : Int) < 1))
  (some 11)
  (cond (decide ((4 : Int) < ((p0.Kind.toNat : Nat) : Int)))
  (some 11)
  (cond (decide (((p0.Kind.toNat : Nat) : Int) = 1))
  (cond (decide (p0.N < (-4611686018427387904)))
  (m_telltaleref04_Check_j2 )
  (cond (decide ((4611686018427387904 : Int) < p0.N))
  (m_telltaleref04_Check_j2 )
  (cond (decide (((p0.Kind.toNat : Nat) : Int) = 2))
  (cond (decide (p0.N < 0))
  (m_telltaleref04_Check_j2 )
  (m_telltaleref04_Check_j3 p0))
  (m_telltaleref04_Check_j4 p0))))
  (cond (decide (((p0.Kind.toNat : Nat) : Int) = 2))
  (cond (decide (p0.N < 0))
  (m_telltaleref04_Check_j2 )
  (m_telltaleref04_Check_j3 p0))
  (m_telltaleref04_Check_j4 p0))))

def m_telltaleref02_Fold (p0 : Int) : Option Int :=
  cond (decide (p0 < 0))
  (Option.bind (some ((IntKind.u64.wrap ((IntKind.u64.wrap (2 * (IntKind.u64.wrap (IntKind.i64.wrap (0 - (IntKind.i64.wrap (p0 + 1))))))) + 1)))) fun v10_0 =>
  some v10_0)
  (some (IntKind.u64.wrap (2 * (IntKind.u64.wrap p0))))

def m_telltaleref02_sevens_l1 : Nat → Int → (List Int) → Option (List Int)
  | 0, _, _ => none
  | fu_1 + 1, y0_1, y3_1 =>
    cond (decide ((0 : Int) < y0_1))
    (Option.bind (app y3_1 ([(IntKind.i64.wrap (Int.tmod y0_1 128))] : List Int)) fun a17_2 =>
    m_telltaleref02_sevens_l1 fu_1 (IntKind.u64.wrap (Int.tdiv y0_1 128)) a17_2)
    (some y3_1)
def m_telltaleref02_sevens (p0 : Int) : Option (List Int) :=
  m_telltaleref02_sevens_l1  1152921504606846976 (IntKind.u64.wrap (Int.tdiv p0 128)) ([(IntKind.i64.wrap (Int.tmod p0 128))] : List Int)

def m_telltaleref02_Put_l2 (r12_1 : (List Int)) : Nat → (List UInt8) → Int → Option (List UInt8)
  | 0, _, _ => none
  | fu_2 + 1, y5_2, y7_2 =>
    cond (decide (y7_2 < ((List.length r12_1 : Nat) : Int)))
    (cond (decide (y7_2 < (IntKind.i64.wrap (((List.length r12_1 : Nat) : Int) - 1))))
    (Option.bind (geti r12_1 y7_2) fun x27_5 =>
    Option.bind (app y5_2 ([(toU8 (IntKind.i64.wrap (128 + x27_5)))] : List UInt8)) fun a32_5 =>
    m_telltaleref02_Put_l2 r12_1 fu_2 a32_5 (IntKind.i64.wrap (y7_2 + 1)))
    (Option.bind (geti r12_1 y7_2) fun x36_6 =>
    Option.bind (app y5_2 ([(toU8 x36_6)] : List UInt8)) fun a40_6 =>
    m_telltaleref02_Put_l2 r12_1 fu_2 a40_6 (IntKind.i64.wrap (y7_2 + 1))))
    (some y5_2)
def m_telltaleref02_Put (p0 : (List UInt8)) (p1 : Int) : Option (List UInt8) :=
  Option.bind (app ([] : List UInt8) p0) fun a10_0 =>
  Option.bind (m_telltaleref02_sevens p1) fun r12_1 =>
  m_telltaleref02_Put_l2 r12_1 1152921504606846976 a10_0 0

def m_telltaleref01_Word_l0 (p0 : (List UInt8)) : Nat → Int → (List UInt8) → Int → Option (List UInt8)
  | 0, _, _, _ => none
  | fu_0 + 1, y1_0, y5_0, y6_0 =>
    cond (decide (y6_0 < 8))
    (Option.bind (app ([(toU8 (Int.tmod y1_0 256))] : List UInt8) y5_0) fun a16_1 =>
    m_telltaleref01_Word_l0 p0 fu_0 (IntKind.u64.wrap (Int.tdiv y1_0 256)) a16_1 (IntKind.i64.wrap (y6_0 + 1)))
    (Option.bind (app ([] : List UInt8) p0) fun a21_2 =>
    Option.bind (app a21_2 y5_0) fun a23_2 =>
    some a23_2)
def m_telltaleref01_Word (p0 : (List UInt8)) (p1 : Int) : Option (List UInt8) :=
  m_telltaleref01_Word_l0 p0 1152921504606846976 p1 ([] : List UInt8) 0

def m_telltaleref04_Put (p0 : (List UInt8)) (p1 : GValue) : Option ((List UInt8) × Int) :=
  Option.bind (m_telltaleref04_Check p1) fun r9_0 =>
  cond (decide (r9_0 ≠ 0))
  (some (([] : List UInt8), r9_0))
  (Option.bind (app ([] : List UInt8) p0) fun a15_1 =>
  Option.bind (app a15_1 ([p1.Kind] : List UInt8)) fun a19_1 =>
  cond (decide (((p1.Kind.toNat : Nat) : Int) = 1))
  (Option.bind (m_telltaleref02_Fold p1.N) fun r26_2 =>
  Option.bind (m_telltaleref02_Put a19_1 r26_2) fun r27_2 =>
  some (r27_2, 0))
  (cond (decide (((p1.Kind.toNat : Nat) : Int) = 2))
  (Option.bind (app a19_1 ([(toU8 p1.N)] : List UInt8)) fun a36_3 =>
  some (a36_3, 0))
  (cond (decide (((p1.Kind.toNat : Nat) : Int) = 3))
  (Option.bind (m_telltaleref01_Word a19_1 p1.Bits) fun r43_4 =>
  some (r43_4, 0))
  (Option.bind (m_telltaleref02_Put a19_1 (IntKind.u64.wrap ((List.length p1.Text : Nat) : Int))) fun r49_5 =>
  Option.bind (app r49_5 p1.Text) fun a52_5 =>
  some (a52_5, 0)))))

def m_telltaleref08_Key (p0 : Int) (p1 : GValue) : Option (List UInt8) :=
  Option.bind (m_telltaleref08_Bare p0) fun r9_0 =>
  chk (List.length r9_0 ≤ 1000000000) (
  Option.bind (m_telltaleref04_Put r9_0 p1) fun r12_0 =>
  cond (decide (r12_0.2 ≠ 0))
  (some ([] : List UInt8))
  (some r12_0.1))

def m_telltaleref08_Pattern (p0 : (List UInt8)) : Option Int :=
  cond (decide (p0 = ([] : List UInt8)))
  (some (-1))
  (Option.bind (geti p0 0) fun x6_0 =>
  some ((x6_0.toNat : Nat) : Int))

def m_telltaleref08_Worker (p0 : (List UInt8)) (p1 : Int) : Option Int :=
  cond (decide (p1 < 1))
  (some 0)
  (Option.bind (m_telltaleref08_Add 14695981039346656037 p0) fun r8_0 =>
  Option.bind (m_telltaleref08_Mix r8_0) fun r9_0 =>
  chk ((IntKind.u64.wrap p1) ≠ 0) (
  some (IntKind.i64.wrap (Int.tmod r9_0 (IntKind.u64.wrap p1)))))

def m_telltalelaw08_HashKeys (p0 : GArr2_Int) (p1 : GValue) (p2 : (List UInt8)) : Option Bool :=
  Option.bind (m_telltalelaw04_Small p1) fun r8_0 =>
  cond (decide ((0 : Int) < r8_0))
  (Option.bind m_telltalelaw08_awake fun r15_1 =>
  some r15_1)
  (cond (decide ((100 : Int) < ((List.length p2 : Nat) : Int)))
  (Option.bind m_telltalelaw08_awake fun r15_2 =>
  some r15_2)
  (Option.bind (m_hash_Key p0.a0 p1) fun r19_3 =>
  Option.bind (m_telltaleref08_Key p0.a0 p1) fun r23_3 =>
  cond (decide (r19_3 = r23_3))
  (Option.bind (m_hash_Bare p0.a0) fun r28_3 =>
  Option.bind (m_telltaleref08_Bare p0.a0) fun r31_3 =>
  cond (decide (r28_3 = r31_3))
  (Option.bind (m_hash_Pattern p2) fun r36_3 =>
  Option.bind (m_telltaleref08_Pattern p2) fun r38_3 =>
  cond (decide (r36_3 = r38_3))
  (Option.bind (m_hash_Worker p2 p0.a1) fun r45_3 =>
  Option.bind (m_telltaleref08_Worker p2 p0.a1) fun r49_3 =>
  cond (decide (r45_3 = r49_3))
  (Option.bind m_telltalelaw08_awake fun r53_3 =>
  some r53_3)
  (some false))
  (some false))
  (some false))
  (some false)))

def m_telltalelaw08_HashApart (p0 : GArr2_UInt8) (p1 : GValue) (p2 : GValue) : Option Bool :=
  Option.bind (m_telltalelaw04_Small p1) fun r12_0 =>
  cond (decide ((0 : Int) < r12_0))
  (Option.bind m_telltalelaw08_awake fun r19_1 =>
  some r19_1)
  (Option.bind (m_telltalelaw04_Small p2) fun r16_0 =>
  cond (decide ((0 : Int) < r16_0))
  (Option.bind m_telltalelaw08_awake fun r19_2 =>
  some r19_2)
  (Option.bind (m_hash_Key ((p0.a0.toNat : Nat) : Int) p1) fun r26_3 =>
  Option.bind (m_hash_Key ((p0.a1.toNat : Nat) : Int) p2) fun r31_3 =>
  Option.bind (m_value_Check p1) fun r33_4 =>
  cond (decide (r33_4 ≠ 0))
  (cond (decide (r26_3 = ([] : List UInt8)))
  (Option.bind m_telltalelaw08_awake fun r38_5 =>
  some r38_5)
  (some false))
  (Option.bind (some ((decide (((p1.Kind.toNat : Nat) : Int) = ((p2.Kind.toNat : Nat) : Int)) && (decide (p1.N = p2.N) && (decide (p1.Bits = p2.Bits) && (decide (p1.Text = p2.Text) && true)))))) fun v45_6 =>
  cond v45_6
  (cond (decide (decide (r26_3 = r31_3) = decide (((p0.a0.toNat : Nat) : Int) = ((p0.a1.toNat : Nat) : Int))))
  (Option.bind (m_hash_Pattern r26_3) fun r56_6 =>
  cond (decide (r56_6 = ((p0.a0.toNat : Nat) : Int)))
  (Option.bind (m_hash_Bare ((p0.a0.toNat : Nat) : Int)) fun r67_6 =>
  cond (decide (r26_3 ≠ r67_6))
  (Option.bind (m_hash_Bare ((p0.a1.toNat : Nat) : Int)) fun r74_6 =>
  Option.bind (m_hash_Pattern r74_6) fun r75_6 =>
  cond (decide (r75_6 = ((p0.a1.toNat : Nat) : Int)))
  (Option.bind m_telltalelaw08_awake fun r82_6 =>
  some r82_6)
  (some false))
  (some false))
  (some false))
  (some false))
  (cond (decide (decide (r26_3 = r31_3) = false))
  (Option.bind (m_hash_Pattern r26_3) fun r56_6 =>
  cond (decide (r56_6 = ((p0.a0.toNat : Nat) : Int)))
  (Option.bind (m_hash_Bare ((p0.a0.toNat : Nat) : Int)) fun r67_6 =>
  cond (decide (r26_3 ≠ r67_6))
  (Option.bind (m_hash_Bare ((p0.a1.toNat : Nat) : Int)) fun r74_6 =>
  Option.bind (m_hash_Pattern r74_6) fun r75_6 =>
  cond (decide (r75_6 = ((p0.a1.toNat : Nat) : Int)))
  (Option.bind m_telltalelaw08_awake fun r82_6 =>
  some r82_6)
  (some false))
  (some false))
  (some false))
  (some false)))))
end Go.Proofs.Ytpacbldefdggjaa.K
