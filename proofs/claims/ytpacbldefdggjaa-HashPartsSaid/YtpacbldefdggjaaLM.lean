/- models of the program's functions -/
import Derived.Test.YtpacbldefdggjaaLT
namespace Go.Proofs.Ytpacbldefdggjaa.K
open Go.RowKit Go.Lib
set_option linter.unusedVariables false
set_option linter.unusedSimpArgs false

def m_hash_Add_l0 (p1 : (List UInt8)) : Nat → Int → Int → Option Int
  | 0, _, _ => none
  | fu_0 + 1, y0_0, y5_0 =>
    cond (decide (y5_0 < ((List.length p1 : Nat) : Int)))
    (Option.bind (geti p1 y5_0) fun x13_2 =>
    Option.bind (some ((IntKind.u64.wrap ((IntKind.u64.wrap (((BitVec.ofInt 64 y0_0 ^^^ BitVec.ofInt 64 ((x13_2.toNat : Nat) : Int)).toNat : Int))) * 1099511628211)))) fun v16_2 =>
    m_hash_Add_l0 p1 fu_0 v16_2 (IntKind.i64.wrap (y5_0 + 1)))
    (some y0_0)
def m_hash_Add (p0 : Int) (p1 : (List UInt8)) : Option Int :=
  m_hash_Add_l0 p1 1152921504606846976 p0 0

def m_hash_Sum (p0 : (List UInt8)) : Option Int :=
  Option.bind (m_hash_Add 14695981039346656037 p0) fun r4_0 =>
  some r4_0

def m_value_OfInt (p0 : Int) : Option GValue :=
  some (GValue.mk 1 (max (-4611686018427387904) (min p0 4611686018427387904)) 0 ([] : List UInt8))

def m_value_core (p0 : GValue) : Option Value :=
  cond (decide (((p0.Kind.toNat : Nat) : Int) = 1))
  (some (Value.iface 54 (.int .i64 p0.N)))
  (cond (decide (((p0.Kind.toNat : Nat) : Int) = 2))
  (some (Value.iface 55 (.int .i64 p0.N)))
  (cond (decide (((p0.Kind.toNat : Nat) : Int) = 3))
  (some (Value.iface 56 (.int .u64 p0.Bits)))
  (cond (decide (((p0.Kind.toNat : Nat) : Int) = 4))
  (some (Value.iface 57 (.string (toS p0.Text))))
  (some Value.nilIface))))

def m_real_of (p0 : Int) : Option Nat :=
  some (Int.toNat p0)

def m_real_Clean (p0 : Int) : Option Int :=
  Option.bind (m_real_of p0) fun r5_0 =>
  cond (fne r5_0 r5_0)
  (some 9221120237041090560)
  (some p0)

def m_value_number_whole (p0 : Int) : Option GValue :=
  some (GValue.mk 1 p0 0 ([] : List UInt8))

def m_value_flag_whole (p0 : Int) : Option GValue :=
  some (GValue.mk 2 p0 0 ([] : List UInt8))

def m_value_double_whole (p0 : Int) : Option GValue :=
  some (GValue.mk 3 0 p0 ([] : List UInt8))

def m_value_words_whole (p0 : (List UInt8)) : Option GValue :=
  some (GValue.mk 4 0 0 p0)

def m_value_Check_j11 (y46_11 : Bool) : Option Int :=
  cond y46_11
  (some 2)
  (some 0)
def m_value_Check_j9 (p0 : GValue) (r10_0 : Value) : Option Int :=
  cond (isT 54 r10_0)
  (Option.bind (inI .i64 r10_0) fun n44_10_54 =>
  Option.bind (m_value_number_whole n44_10_54) fun r44_10_54 =>
  Option.bind (some ((!(decide (((r44_10_54.Kind.toNat : Nat) : Int) = ((p0.Kind.toNat : Nat) : Int)) && (decide (r44_10_54.N = p0.N) && (decide (r44_10_54.Bits = p0.Bits) && (decide (r44_10_54.Text = p0.Text) && true))))))) fun v46_10 =>
  m_value_Check_j11  v46_10)
  (cond (isT 55 r10_0)
  (Option.bind (inI .i64 r10_0) fun n44_10_55 =>
  Option.bind (m_value_flag_whole n44_10_55) fun r44_10_55 =>
  Option.bind (some ((!(decide (((r44_10_55.Kind.toNat : Nat) : Int) = ((p0.Kind.toNat : Nat) : Int)) && (decide (r44_10_55.N = p0.N) && (decide (r44_10_55.Bits = p0.Bits) && (decide (r44_10_55.Text = p0.Text) && true))))))) fun v46_10 =>
  m_value_Check_j11  v46_10)
  (cond (isT 56 r10_0)
  (Option.bind (inI .u64 r10_0) fun n44_10_56 =>
  Option.bind (m_value_double_whole n44_10_56) fun r44_10_56 =>
  Option.bind (some ((!(decide (((r44_10_56.Kind.toNat : Nat) : Int) = ((p0.Kind.toNat : Nat) : Int)) && (decide (r44_10_56.N = p0.N) && (decide (r44_10_56.Bits = p0.Bits) && (decide (r44_10_56.Text = p0.Text) && true))))))) fun v46_10 =>
  m_value_Check_j11  v46_10)
  (cond (isT 57 r10_0)
  (Option.bind (inS r10_0) fun n44_10_57 =>
  Option.bind (m_value_words_whole n44_10_57) fun r44_10_57 =>
  Option.bind (some ((!(decide (((r44_10_57.Kind.toNat : Nat) : Int) = ((p0.Kind.toNat : Nat) : Int)) && (decide (r44_10_57.N = p0.N) && (decide (r44_10_57.Bits = p0.Bits) && (decide (r44_10_57.Text = p0.Text) && true))))))) fun v46_10 =>
  m_value_Check_j11  v46_10)
  (none))))
def m_value_Check (p0 : GValue) : Option Int :=
  Option.bind (m_value_core p0) fun r10_0 =>
  Option.bind (tasI .i64 54 r10_0) fun z12_1 =>
  cond z12_1.2
  (cond (decide (z12_1.1 < (-4611686018427387904)))
  (some 8)
  (cond (decide ((4611686018427387904 : Int) < z12_1.1))
  (some 8)
  (m_value_Check_j9 p0 r10_0)))
  (Option.bind (tasI .i64 55 r10_0) fun z21_3 =>
  cond z21_3.2
  (cond (decide (z21_3.1 ≠ 0))
  (cond (decide (z21_3.1 ≠ 1))
  (some 8)
  (m_value_Check_j9 p0 r10_0))
  (m_value_Check_j9 p0 r10_0))
  (Option.bind (tasI .u64 56 r10_0) fun z30_5 =>
  cond z30_5.2
  (Option.bind (m_real_Clean z30_5.1) fun r34_6 =>
  cond (decide (r34_6 ≠ z30_5.1))
  (some 4)
  (m_value_Check_j9 p0 r10_0))
  (Option.bind (tasS 57 r10_0) fun z37_7 =>
  cond z37_7.2
  (cond (decide ((24 : Int) < ((List.length z37_7.1 : Nat) : Int)))
  (some 5)
  (m_value_Check_j9 p0 r10_0))
  (some 11))))

def m_zig_Fold (p0 : Int) : Option Int :=
  Option.bind (some ((IntKind.u64.wrap (((BitVec.ofInt 64 (IntKind.u64.wrap ((IntKind.u64.wrap p0) * 2 ^ 1)) ^^^ BitVec.ofInt 64 (IntKind.u64.wrap (Int.fdiv p0 (2 ^ 63)))).toNat : Int))))) fun v9_0 =>
  some v9_0

def m_math_bits_Len64_j2 (y0_2 : Int) (y2_2 : Int) : Option Int :=
  Option.bind (geti ([0, 1, 2, 2, 3, 3, 3, 3, 4, 4, 4, 4, 4, 4, 4, 4, 5, 5, 5, 5, 5, 5, 5, 5, 5, 5, 5, 5, 5, 5, 5, 5, 6, 6, 6, 6, 6, 6, 6, 6, 6, 6, 6, 6, 6, 6, 6, 6, 6, 6, 6, 6, 6, 6, 6, 6, 6, 6, 6, 6, 6, 6, 6, 6, 7, 7, 7, 7, 7, 7, 7, 7, 7, 7, 7, 7, 7, 7, 7, 7, 7, 7, 7, 7, 7, 7, 7, 7, 7, 7, 7, 7, 7, 7, 7, 7, 7, 7, 7, 7, 7, 7, 7, 7, 7, 7, 7, 7, 7, 7, 7, 7, 7, 7, 7, 7, 7, 7, 7, 7, 7, 7, 7, 7, 7, 7, 7, 7, 8, 8, 8, 8, 8, 8, 8, 8, 8, 8, 8, 8, 8, 8, 8, 8, 8, 8, 8, 8, 8, 8, 8, 8, 8, 8, 8, 8, 8, 8, 8, 8, 8, 8, 8, 8, 8, 8, 8, 8, 8, 8, 8, 8, 8, 8, 8, 8, 8, 8, 8, 8, 8, 8, 8, 8, 8, 8, 8, 8, 8, 8, 8, 8, 8, 8, 8, 8, 8, 8, 8, 8, 8, 8, 8, 8, 8, 8, 8, 8, 8, 8, 8, 8, 8, 8, 8, 8, 8, 8, 8, 8, 8, 8, 8, 8, 8, 8, 8, 8, 8, 8, 8, 8, 8, 8, 8, 8, 8, 8, 8, 8, 8, 8, 8, 8, 8, 8, 8, 8, 8, 8, 8, 8, 8, 8, 8, 8] : List UInt8) (((toU8 y0_2).toNat : Nat) : Int)) fun x22_3 =>
  some (IntKind.i64.wrap (y2_2 + ((x22_3.toNat : Nat) : Int)))
def m_math_bits_Len64_j1 (y0_1 : Int) (y2_1 : Int) : Option Int :=
  cond (decide ((256 : Int) ≤ y0_1))
  (m_math_bits_Len64_j2  (Int.fdiv y0_1 (2 ^ 8)) (IntKind.i64.wrap (y2_1 + 8)))
  (m_math_bits_Len64_j2  y0_1 y2_1)
def m_math_bits_Len64_j0 (y0_0 : Int) (y2_0 : Int) : Option Int :=
  cond (decide ((65536 : Int) ≤ y0_0))
  (m_math_bits_Len64_j1  (Int.fdiv y0_0 (2 ^ 16)) (IntKind.i64.wrap (y2_0 + 16)))
  (m_math_bits_Len64_j1  y0_0 y2_0)
def m_math_bits_Len64 (p0 : Int) : Option Int :=
  cond (decide ((4294967296 : Int) ≤ p0))
  (m_math_bits_Len64_j0  (Int.fdiv p0 (2 ^ 32)) 32)
  (m_math_bits_Len64_j0  p0 0)

def m_zig_Size (p0 : Int) : Option Int :=
  Option.bind (m_math_bits_Len64 p0) fun r4_0 =>
  some (max 1 (IntKind.i64.wrap (Int.tdiv (IntKind.i64.wrap ((IntKind.i64.wrap (r4_0 + 7)) - 1)) 7)))

def m_zig_Put_j5 (y20_3 : Int) (y6_3 : List UInt8) (k_m_zig_Put_l3 : (List UInt8) → Int → Option (List UInt8)) (y8_5 : UInt8) : Option (List UInt8) :=
  Option.bind (app y6_3 ([y8_5] : List UInt8)) fun a38_5 =>
  k_m_zig_Put_l3 a38_5 (IntKind.i64.wrap (y20_3 + 1))
def m_zig_Put_l3 (p1 : Int) (r10_0 : Int) : Nat → (List UInt8) → Int → Option (List UInt8)
  | 0, _, _ => none
  | fu_3 + 1, y6_3, y20_3 =>
    cond (decide (y20_3 < r10_0))
    (chk (0 ≤ (IntKind.i64.wrap (7 * y20_3)) ∧ (IntKind.i64.wrap (7 * y20_3)) ≤ 64) (
    Option.bind (some ((toU8 (((BitVec.ofInt 8 (((toU8 (Int.fdiv p1 (2 ^ (Int.toNat (IntKind.i64.wrap (7 * y20_3)))))).toNat : Nat) : Int) ||| BitVec.ofInt 8 128).toNat : Int))))) fun v28_4 =>
    cond (decide (y20_3 = (IntKind.i64.wrap (r10_0 - 1))))
    (m_zig_Put_j5 y20_3 y6_3 (fun y6_3 y20_3 => m_zig_Put_l3 p1 r10_0 fu_3 y6_3 y20_3) (toU8 (((BitVec.ofInt 8 ((v28_4.toNat : Nat) : Int) &&& ~~~ BitVec.ofInt 8 128).toNat : Int))))
    (m_zig_Put_j5 y20_3 y6_3 (fun y6_3 y20_3 => m_zig_Put_l3 p1 r10_0 fu_3 y6_3 y20_3) v28_4)))
    (some y6_3)
def m_zig_Put (p0 : (List UInt8)) (p1 : Int) : Option (List UInt8) :=
  Option.bind (m_zig_Size p1) fun r10_0 =>
  Option.bind (mkc 0 (IntKind.i64.wrap (((List.length p0 : Nat) : Int) + r10_0)) (0 : UInt8)) fun m15_1 =>
  Option.bind (app m15_1 p0) fun a18_2 =>
  m_zig_Put_l3 p1 r10_0 1152921504606846976 a18_2 0

def m_zig_PutInt (p0 : (List UInt8)) (p1 : Int) : Option (List UInt8) :=
  Option.bind (m_zig_Fold p1) fun r7_0 =>
  Option.bind (m_zig_Put p0 r7_0) fun r8_0 =>
  some r8_0

def m_octet_grown (p0 : (List UInt8)) (p1 : Int) : Option (List UInt8) :=
  Option.bind (mkl (IntKind.i64.wrap (((List.length p0 : Nat) : Int) + p1)) (0 : UInt8)) fun m10_0 =>
  Option.bind (cpy m10_0 p0) fun c13_1 =>
  some c13_1

def m_octet_lay_l1 (p1 : Int) : Nat → (List UInt8) → Int → Int → Option (List UInt8)
  | 0, _, _, _ => none
  | fu_1 + 1, y0_1, y2_1, y6_1 =>
    cond (decide ((IntKind.i64.wrap (((List.length y0_1 : Nat) : Int) - p1)) ≤ y6_1))
    (Option.bind (geti y0_1 y6_1) fun x22_3 =>
    m_octet_lay_l1 p1 fu_1 (List.set y0_1 (Int.toNat y6_1) (toU8 y2_1)) (Int.fdiv y2_1 (2 ^ 8)) (IntKind.i64.wrap (y6_1 - 1)))
    (some y0_1)
def m_octet_lay (p0 : (List UInt8)) (p1 : Int) (p2 : Int) : Option (List UInt8) :=
  m_octet_lay_l1 p1 1152921504606846976 p0 p2 (IntKind.i64.wrap (((List.length p0 : Nat) : Int) - 1))

def m_octet_Word (p0 : (List UInt8)) (p1 : Int) : Option (List UInt8) :=
  Option.bind (m_octet_grown p0 8) fun r7_0 =>
  Option.bind (m_octet_lay r7_0 8 p1) fun r10_1 =>
  some r10_1

def m_value_Put (p0 : (List UInt8)) (p1 : GValue) : Option ((List UInt8) × Int) :=
  Option.bind (m_value_Check p1) fun r9_0 =>
  cond (decide (r9_0 ≠ 0))
  (some (([] : List UInt8), r9_0))
  (Option.bind (mkc ((List.length p0 : Nat) : Int) (IntKind.i64.wrap (((List.length p0 : Nat) : Int) + 1)) (0 : UInt8)) fun m18_1 =>
  Option.bind (cpy m18_1 p0) fun c21_2 =>
  Option.bind (app c21_2 ([p1.Kind] : List UInt8)) fun a26_3 =>
  cond (decide (((p1.Kind.toNat : Nat) : Int) = 1))
  (Option.bind (m_zig_PutInt a26_3 p1.N) fun r34_4 =>
  some (r34_4, 0))
  (cond (decide (((p1.Kind.toNat : Nat) : Int) = 2))
  (Option.bind (app a26_3 ([(toU8 p1.N)] : List UInt8)) fun a42_5 =>
  some (a42_5, 0))
  (cond (decide (((p1.Kind.toNat : Nat) : Int) = 3))
  (Option.bind (m_octet_Word a26_3 p1.Bits) fun r48_6 =>
  some (r48_6, 0))
  (Option.bind (m_zig_Put a26_3 (IntKind.u64.wrap ((List.length p1.Text : Nat) : Int))) fun r54_7 =>
  Option.bind (app r54_7 p1.Text) fun a57_7 =>
  some (a57_7, 0)))))

def m_hash_Key (p0 : Int) (p1 : GValue) : Option (List UInt8) :=
  Option.bind (m_value_Put ([(toU8 p0)] : List UInt8) p1) fun r12_0 =>
  cond (decide (r12_0.2 ≠ 0))
  (some ([] : List UInt8))
  (some r12_0.1)

def m_hash_Bare (p0 : Int) : Option (List UInt8) :=
  some ([(toU8 p0)] : List UInt8)

def m_hash_Pattern (p0 : (List UInt8)) : Option Int :=
  cond (decide (p0 = ([] : List UInt8)))
  (some (-1))
  (Option.bind (geti p0 0) fun x6_0 =>
  some ((x6_0.toNat : Nat) : Int))

def m_hash_Mix (p0 : Int) : Option Int :=
  Option.bind (some ((IntKind.u64.wrap ((IntKind.u64.wrap (((BitVec.ofInt 64 p0 ^^^ BitVec.ofInt 64 (Int.fdiv p0 (2 ^ 30))).toNat : Int))) * 13787848793156543929)))) fun v8_0 =>
  Option.bind (some ((IntKind.u64.wrap ((IntKind.u64.wrap (((BitVec.ofInt 64 v8_0 ^^^ BitVec.ofInt 64 (Int.fdiv v8_0 (2 ^ 27))).toNat : Int))) * 10723151780598845931)))) fun v14_1 =>
  some (IntKind.u64.wrap (((BitVec.ofInt 64 v14_1 ^^^ BitVec.ofInt 64 (Int.fdiv v14_1 (2 ^ 31))).toNat : Int)))

def m_hash_Worker (p0 : (List UInt8)) (p1 : Int) : Option Int :=
  cond (decide (p1 < 1))
  (some 0)
  (Option.bind (m_hash_Sum p0) fun r8_0 =>
  Option.bind (m_hash_Mix r8_0) fun r9_0 =>
  chk ((IntKind.u64.wrap p1) ≠ 0) (
  some (IntKind.i64.wrap (Int.tmod r9_0 (IntKind.u64.wrap p1)))))

def m_telltalelaw08_awake : Option Bool :=
  Option.bind (m_hash_Sum ([] : List UInt8)) fun r1_0 =>
  cond (decide (r1_0 = 14695981039346656037))
  (Option.bind (m_hash_Sum ([97] : List UInt8)) fun r4_0 =>
  cond (decide (r4_0 = 12638187200555641996))
  (Option.bind (m_value_OfInt 1) fun r10_0 =>
  Option.bind (m_hash_Key 258 r10_0) fun r11_0 =>
  cond (decide (r11_0 = ([2, 1, 2] : List UInt8)))
  (Option.bind (m_hash_Bare (-1)) fun r15_0 =>
  cond (decide (r15_0 = ([255] : List UInt8)))
  (Option.bind (m_hash_Pattern ([2, 120] : List UInt8)) fun r19_0 =>
  cond (decide (r19_0 = 2))
  (Option.bind (m_hash_Pattern ([] : List UInt8)) fun r23_0 =>
  cond (decide (r23_0 = (-1)))
  (Option.bind (m_hash_Key 1 (GValue.mk 0 0 0 ([] : List UInt8))) fun r28_0 =>
  cond (decide (r28_0 = ([] : List UInt8)))
  (Option.bind (m_hash_Worker ([97] : List UInt8) 0) fun r32_0 =>
  cond (decide (r32_0 = 0))
  (Option.bind (m_hash_Mix 1) fun r36_0 =>
  some (decide (r36_0 ≠ 1)))
  (some false))
  (some false))
  (some false))
  (some false))
  (some false))
  (some false))
  (some false))
  (some false)

def m_telltalelaw08_HashParts_j10 (p0 : (List UInt8)) (p2 : GArr2_Int) : Option Bool :=
  cond (decide (((List.length p0 : Nat) : Int) = 0))
  (Option.bind m_telltalelaw08_awake fun r67_12 =>
  some r67_12)
  (chk (List.length p0 ≤ 1000000000) (
  chk ((IntKind.u64.wrap ((List.length p0 : Nat) : Int)) ≠ 0) (
  Option.bind (geti p0 (IntKind.i64.wrap (Int.tmod (IntKind.u64.wrap p2.a1) (IntKind.u64.wrap ((List.length p0 : Nat) : Int))))) fun x80_15 =>
  Option.bind (some ((toU8 (((BitVec.ofInt 8 ((x80_15.toNat : Nat) : Int) ^^^ BitVec.ofInt 8 (((toU8 (IntKind.u64.wrap (1 + (Int.tmod (IntKind.u64.wrap p2.a1) 255)))).toNat : Nat) : Int)).toNat : Int))))) fun v88_15 =>
  Option.bind (geti p0 (IntKind.i64.wrap (Int.tmod (IntKind.u64.wrap p2.a1) (IntKind.u64.wrap ((List.length p0 : Nat) : Int))))) fun x89_15 =>
  Option.bind (some ((List.set p0 (Int.toNat (IntKind.i64.wrap (Int.tmod (IntKind.u64.wrap p2.a1) (IntKind.u64.wrap ((List.length p0 : Nat) : Int))))) v88_15))) fun v91_17 =>
  Option.bind (m_hash_Sum v91_17) fun r92_16 =>
  Option.bind (m_hash_Sum p0) fun r94_16 =>
  cond (decide (r92_16 ≠ r94_16))
  (Option.bind m_telltalelaw08_awake fun r97_16 =>
  some r97_16)
  (some false))))
def m_telltalelaw08_HashParts_j7 : Option Bool :=
  some false
def m_telltalelaw08_HashParts_j8 (p0 : (List UInt8)) (p2 : GArr2_Int) (r41_5 : Int) : Option Bool :=
  cond (decide (r41_5 ≠ 0))
  (some false)
  (m_telltalelaw08_HashParts_j10 p0 p2)
def m_telltalelaw08_HashParts_j9 (p0 : (List UInt8)) (p2 : GArr2_Int) : Option Bool :=
  m_telltalelaw08_HashParts_j10 p0 p2
def m_telltalelaw08_HashParts_j4 (p0 : (List UInt8)) (p2 : GArr2_Int) : Option Bool :=
  Option.bind (m_hash_Worker p0 p2.a0) fun r41_5 =>
  cond (decide (r41_5 < 0))
  (m_telltalelaw08_HashParts_j7 )
  (cond (decide ((0 : Int) < p2.a0))
  (cond (decide (p2.a0 ≤ r41_5))
  (m_telltalelaw08_HashParts_j7 )
  (cond (decide (p2.a0 ≤ 1))
  (m_telltalelaw08_HashParts_j8 p0 p2 r41_5)
  (m_telltalelaw08_HashParts_j9 p0 p2)))
  (cond (decide (p2.a0 ≤ 1))
  (m_telltalelaw08_HashParts_j8 p0 p2 r41_5)
  (m_telltalelaw08_HashParts_j9 p0 p2)))
def m_telltalelaw08_HashParts (p0 : (List UInt8)) (p1 : (List UInt8)) (p2 : GArr2_Int) : Option Bool :=
  cond (decide ((300 : Int) < ((List.length p0 : Nat) : Int)))
  (Option.bind m_telltalelaw08_awake fun r18_1 =>
  some r18_1)
  (cond (decide ((300 : Int) < ((List.length p1 : Nat) : Int)))
  (Option.bind m_telltalelaw08_awake fun r18_2 =>
  some r18_2)
  (Option.bind (app p0 p1) fun t21_3 =>
  Option.bind (m_hash_Sum t21_3) fun r22_3 =>
  Option.bind (m_hash_Sum p0) fun r24_3 =>
  Option.bind (m_hash_Add r24_3 p1) fun r26_3 =>
  cond (decide (r22_3 ≠ r26_3))
  (some false)
  (cond (decide (((List.length p0 : Nat) : Int) = 0))
  (Option.bind (m_hash_Add 7 p0) fun r34_3 =>
  cond (decide (r34_3 ≠ 7))
  (some false)
  (m_telltalelaw08_HashParts_j4 p0 p2))
  (m_telltalelaw08_HashParts_j4 p0 p2))))
end Go.Proofs.Ytpacbldefdggjaa.K
