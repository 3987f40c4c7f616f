/- models of the program's functions -/
import Derived.Test.YtkagljfmfjaleaaLT
namespace Go.Proofs.Ytkagljfmfjaleaa.K
open Go.RowKit Go.Lib
set_option linter.unusedVariables false
set_option linter.unusedSimpArgs false

def m_telltalelaw04_Small (p0 : GValue) : Option Int :=
  some (max 0 (IntKind.i64.wrap (((List.length p0.Text : Nat) : Int) - 100)))

def m_telltalelaw07_Over_l4 (p0 : (List GEvent)) (y5_1 : Int) (k_m_telltalelaw07_Over_l1 : Int → Option Int) : Nat → Int → Option Int
  | 0, _ => none
  | fu_4 + 1, y6_4 =>
    Option.bind (geti p0 y5_1) fun x36_5 =>
    cond (decide (y6_4 < ((List.length x36_5.Vals : Nat) : Int)))
    (Option.bind (geti p0 y5_1) fun x45_6 =>
    Option.bind (geti x45_6.Vals y6_4) fun x49_6 =>
    Option.bind (m_telltalelaw04_Small x49_6) fun r51_6 =>
    cond (decide ((0 : Int) < r51_6))
    (some 1)
    (m_telltalelaw07_Over_l4 p0 y5_1 k_m_telltalelaw07_Over_l1 fu_4 (IntKind.i64.wrap (y6_4 + 1))))
    (k_m_telltalelaw07_Over_l1 (IntKind.i64.wrap (y5_1 + 1)))
def m_telltalelaw07_Over_l1 (p0 : (List GEvent)) : Nat → Int → Option Int
  | 0, _ => none
  | fu_1 + 1, y5_1 =>
    cond (decide (y5_1 < ((List.length p0 : Nat) : Int)))
    (Option.bind (geti p0 y5_1) fun x19_3 =>
    cond (decide ((40 : Int) < ((List.length x19_3.Type_ : Nat) : Int)))
    (some 1)
    (Option.bind (geti p0 y5_1) fun x27_3 =>
    cond (decide ((12 : Int) < ((List.length x27_3.Vals : Nat) : Int)))
    (some 1)
    (m_telltalelaw07_Over_l4 p0 y5_1 (fun y5_1 => m_telltalelaw07_Over_l1 p0 fu_1 y5_1) 1152921504606846976 0)))
    (some 0)
def m_telltalelaw07_Over (p0 : (List GEvent)) (p1 : Int) : Option Int :=
  cond (decide (p1 < ((List.length p0 : Nat) : Int)))
  (some 1)
  (m_telltalelaw07_Over_l1 p0 1152921504606846976 0)

def m_telltalelaw19_Long_l1 (p0 : (List GPair)) : Nat → Int → Option Int
  | 0, _ => none
  | fu_1 + 1, y3_1 =>
    cond (decide (y3_1 < ((List.length p0 : Nat) : Int)))
    (Option.bind (geti p0 y3_1) fun x15_3 =>
    cond (decide ((40 : Int) < ((List.length x15_3.Var : Nat) : Int)))
    (some 1)
    (Option.bind (geti p0 y3_1) fun x23_3 =>
    Option.bind (m_telltalelaw07_Over ([x23_3.E] : List GEvent) 1) fun r27_3 =>
    cond (decide ((0 : Int) < r27_3))
    (some 1)
    (m_telltalelaw19_Long_l1 p0 fu_1 (IntKind.i64.wrap (y3_1 + 1)))))
    (some 0)
def m_telltalelaw19_Long (p0 : (List GPair)) : Option Int :=
  cond (decide ((20 : Int) < ((List.length p0 : Nat) : Int)))
  (some 1)
  (m_telltalelaw19_Long_l1 p0 1152921504606846976 0)

def m_bind_Add (p0 : (List GPair)) (p1 : (List UInt8)) (p2 : GEvent) : Option (List GPair) :=
  Option.bind (app p0 ([(GPair.mk p1 p2)] : List GPair)) fun a17_0 =>
  some a17_0

def m_bind_Last (p0 : (List GPair)) (p1 : (List UInt8)) : Option (GEvent × Bool) :=
  chk (List.length p0 ≤ 1000000000) (match p0.reverse.find? (fun p => decide (p.Var = p1)) with
  | some p => some (p.E, true)
  | none => some (GEvent.mk 0 0 0 [] [], false))

def m_bind_Span (p0 : (List GPair)) : Option (Int × Int × Bool) :=
  cond (decide (((List.length p0 : Nat) : Int) = 0))
  (some (0, 0, false))
  (Option.bind (geti p0 0) fun x9_1 =>
  Option.bind (geti p0 (IntKind.i64.wrap (((List.length p0 : Nat) : Int) - 1))) fun x17_1 =>
  some (x9_1.E.Time, x17_1.E.Time, true))

def m_cmp_isNaN_int (p0 : Int) : Option Bool :=
  some (decide (p0 ≠ p0))

def m_cmp_Compare_int (p0 : Int) (p1 : Int) : Option Int :=
  Option.bind (m_cmp_isNaN_int p0) fun r8_0 =>
  Option.bind (m_cmp_isNaN_int p1) fun r10_1 =>
  cond r8_0
  (cond r10_1
  (some 0)
  (some (-1)))
  (cond r10_1
  (some 1)
  (cond (decide (p0 < p1))
  (some (-1))
  (cond (decide (p1 < p0))
  (some 1)
  (some 0))))

def m_cmp_isNaN_string (p0 : (List UInt8)) : Option Bool :=
  some (decide (p0 ≠ p0))

def m_cmp_Compare_string (p0 : (List UInt8)) (p1 : (List UInt8)) : Option Int :=
  Option.bind (m_cmp_isNaN_string p0) fun r8_0 =>
  Option.bind (m_cmp_isNaN_string p1) fun r10_1 =>
  cond r8_0
  (cond r10_1
  (some 0)
  (some (-1)))
  (cond r10_1
  (some 1)
  (cond (ltS p0 p1)
  (some (-1))
  (cond (gtS p0 p1)
  (some 1)
  (some 0))))

def m_event_Event_ID (p0 : GEvent) : Option GID :=
  some (GID.mk p0.Time p0.Source p0.Seq)

def m_cmp_Or_int_l1 (p0 : (List Int)) : Nat → Int → Option Int
  | 0, _ => none
  | fu_1 + 1, y8_1 =>
    cond (decide (y8_1 < ((List.length p0 : Nat) : Int)))
    (Option.bind (geti p0 y8_1) fun x10_2 =>
    cond (decide (x10_2 ≠ 0))
    (some x10_2)
    (m_cmp_Or_int_l1 p0 fu_1 (IntKind.i64.wrap (y8_1 + 1))))
    (some 0)
def m_cmp_Or_int (p0 : (List Int)) : Option Int :=
  m_cmp_Or_int_l1 p0 1152921504606846976 0

def m_bind_order (p0 : GPair) (p1 : GPair) : Option Int :=
  Option.bind (m_event_Event_ID p0.E) fun r9_0 =>
  Option.bind (m_event_Event_ID p1.E) fun r12_0 =>
  Option.bind (m_cmp_Compare_int r9_0.Time r12_0.Time) fun r17_1 =>
  Option.bind (m_cmp_Compare_int r9_0.Source r12_0.Source) fun r22_1 =>
  Option.bind (m_cmp_Compare_int r9_0.Seq r12_0.Seq) fun r27_1 =>
  Option.bind (m_cmp_Compare_string p0.Var p1.Var) fun r32_1 =>
  Option.bind (m_cmp_Or_int ([r17_1, r22_1, r27_1, r32_1] : List Int)) fun r34_1 =>
  some r34_1

def m_slices_CompareFunc_Pairbind_Pair_bind_Pair_bind_Pair__bind_order_l1 (p0 : (List GPair)) (p1 : (List GPair)) : Nat → Int → Option Int
  | 0, _ => none
  | fu_1 + 1, y13_1 =>
    cond (decide (y13_1 < ((List.length p0 : Nat) : Int)))
    (Option.bind (geti p0 y13_1) fun x16_2 =>
    cond (decide (((List.length p1 : Nat) : Int) ≤ y13_1))
    (some 1)
    (Option.bind (geti p1 y13_1) fun x24_4 =>
    Option.bind (m_bind_order x16_2 x24_4) fun r29_5 =>
    cond (decide (r29_5 ≠ 0))
    (some r29_5)
    (m_slices_CompareFunc_Pairbind_Pair_bind_Pair_bind_Pair__bind_order_l1 p0 p1 fu_1 (IntKind.i64.wrap (y13_1 + 1)))))
    (cond (decide (((List.length p0 : Nat) : Int) < ((List.length p1 : Nat) : Int)))
    (some (-1))
    (some 0))
def m_slices_CompareFunc_Pairbind_Pair_bind_Pair_bind_Pair__bind_order (p0 : (List GPair)) (p1 : (List GPair)) : Option Int :=
  m_slices_CompareFunc_Pairbind_Pair_bind_Pair_bind_Pair__bind_order_l1 p0 p1 1152921504606846976 0

def m_bind_Rank (p0 : (List GPair)) (p1 : (List GPair)) : Option Int :=
  Option.bind (m_slices_CompareFunc_Pairbind_Pair_bind_Pair_bind_Pair__bind_order p0 p1) fun r7_0 =>
  some r7_0

def m_bind_Before (p0 : GMatch) (p1 : GMatch) : Option Int :=
  Option.bind (m_cmp_Compare_int p0.Pattern p1.Pattern) fun r9_0 =>
  Option.bind (m_cmp_Compare_string p0.Key p1.Key) fun r14_0 =>
  Option.bind (m_bind_Rank p0.Bound p1.Bound) fun r19_0 =>
  Option.bind (m_cmp_Or_int ([r9_0, r14_0, r19_0] : List Int)) fun r21_0 =>
  some r21_0

def m_slices_Clone_Match (p0 : (List GMatch)) : Option (List GMatch) :=
  Option.bind (app ([] : List GMatch) p0) fun a7_0 =>
  some a7_0

def m_bind_Put_l2 (p0 : (List GMatch)) (p1 : GMatch) : Nat → Int → Int → Option ((List GMatch) × Bool)
  | 0, _, _ => none
  | fu_2 + 1, y6_2, y15_2 =>
    cond (decide (y15_2 < ((List.length p0 : Nat) : Int)))
    (Option.bind (geti p0 y15_2) fun x18_3 =>
    Option.bind (m_bind_Before x18_3 p1) fun r22_4 =>
    cond (decide (r22_4 = 0))
    (Option.bind (m_slices_Clone_Match p0) fun r27_5 =>
    some (r27_5, false))
    (cond (decide ((0 : Int) < r22_4))
    (cond (decide (y6_2 = ((List.length p0 : Nat) : Int)))
    (m_bind_Put_l2 p0 p1 fu_2 y15_2 (IntKind.i64.wrap (y15_2 + 1)))
    (m_bind_Put_l2 p0 p1 fu_2 y6_2 (IntKind.i64.wrap (y15_2 + 1))))
    (m_bind_Put_l2 p0 p1 fu_2 y6_2 (IntKind.i64.wrap (y15_2 + 1)))))
    (Option.bind (mkc 0 (IntKind.i64.wrap (((List.length p0 : Nat) : Int) + 1)) ((GMatch.mk 0 ([] : List UInt8) ([] : List GPair)) : GMatch)) fun m42_7 =>
    Option.bind (cut p0 0 y6_2) fun s46_8 =>
    Option.bind (app m42_7 s46_8) fun a47_8 =>
    Option.bind (app a47_8 ([p1] : List GMatch)) fun a50_8 =>
    Option.bind (cut p0 y6_2 ((List.length p0 : Nat) : Int)) fun s54_9 =>
    Option.bind (app a50_8 s54_9) fun a55_9 =>
    some (a55_9, true))
def m_bind_Put (p0 : (List GMatch)) (p1 : GMatch) : Option ((List GMatch) × Bool) :=
  m_bind_Put_l2 p0 p1 1152921504606846976 ((List.length p0 : Nat) : Int) 0

def m_event_ID_Less (p0 : GID) (p1 : GID) : Option Bool :=
  cond (decide (p0.Time ≠ p1.Time))
  (some (decide (p0.Time < p1.Time)))
  (cond (decide (p0.Source ≠ p1.Source))
  (some (decide (p0.Source < p1.Source)))
  (some (decide (p0.Seq < p1.Seq))))

def m_bind_Rising_l0 (p0 : (List GPair)) : Nat → Int → Option Bool
  | 0, _ => none
  | fu_0 + 1, y3_0 =>
    cond (decide (y3_0 < ((List.length p0 : Nat) : Int)))
    (Option.bind (geti p0 (IntKind.i64.wrap (y3_0 - 1))) fun x13_2 =>
    Option.bind (m_event_Event_ID x13_2.E) fun r16_2 =>
    Option.bind (geti p0 y3_0) fun x19_2 =>
    Option.bind (m_event_Event_ID x19_2.E) fun r22_2 =>
    Option.bind (m_event_ID_Less r16_2 r22_2) fun r23_2 =>
    cond (!r23_2)
    (some false)
    (m_bind_Rising_l0 p0 fu_0 (IntKind.i64.wrap (y3_0 + 1))))
    (some true)
def m_bind_Rising (p0 : (List GPair)) : Option Bool :=
  m_bind_Rising_l0 p0 1152921504606846976 1

def m_zig_Fold (p0 : Int) : Option Int :=
  Option.bind (some ((IntKind.u64.wrap (((BitVec.ofInt 64 (IntKind.u64.wrap ((IntKind.u64.wrap p0) * 2 ^ 1)) ^^^ BitVec.ofInt 64 (IntKind.u64.wrap (Int.fdiv p0 (2 ^ 63)))).toNat : Int))))) fun v9_0 =>
  some v9_0

def m_math_bits_Len64_j2 (y0_2 : Int) (y2_2 : Int) : Option Int :=
  Option.bind (geti ([0, 1, 2, 2, 3, 3, 3, 3, 4, 4, 4, 4, 4, 4, 4, 4, 5, 5, 5, 5, 5, 5, 5, 5, 5, 5, 5, 5, 5, 5, 5, 5, 6, 6, 6, 6, 6, 6, 6, 6, 6, 6, 6, 6, 6, 6, 6, 6, 6, 6, 6, 6, 6, 6, 6, 6, 6, 6, 6, 6, 6, 6, 6, 6, 7, 7, 7, 7, 7, 7, 7, 7, 7, 7, 7, 7, 7, 7, 7, 7, 7, 7, 7, 7, 7, 7, 7, 7, 7, 7, 7, 7, 7, 7, 7, 7, 7, 7, 7, 7, 7, 7, 7, 7, 7, 7, 7, 7, 7, 7, 7, 7, 7, 7, 7, 7, 7, 7, 7, 7, 7, 7, 7, 7, 7, 7, 7, 7, 8, 8, 8, 8, 8, 8, 8, 8, 8, 8, 8, 8, 8, 8, 8, 8, 8, 8, 8, 8, 8, 8, 8, 8, 8, 8, 8, 8, 8, 8, 8, 8, 8, 8, 8, 8, 8, 8, 8, 8, 8, 8, 8, 8, 8, 8, 8, 8, 8, 8, 8, 8, 8, 8, 8, 8, 8, 8, 8, 8, 8, 8, 8, 8, 8, 8, 8, 8, 8, 8, 8, 8, 8, 8, 8, 8, 8, 8, 8, 8, 8, 8, 8, 8, 8, 8, 8, 8, 8, 8, 8, 8, 8, 8, 8, 8, 8, 8, 8, 8, 8, 8, 8, 8, 8, 8, 8, 8, 8, 8, 8, 8, 8, 8, 8, 8, 8, 8, 8, 8, 8, 8, 8, 8, 8, 8, 8, 8] : List UInt8) (((toU8 y0_2).toNat : Nat) : Int)) fun x22_3 =>
  some (IntKind.i64.wrap (y2_2 + ((x22_3.toNat : Nat) : Int)))
def m_math_bits_Len64_j1 (y0_1 : Int) (y2_1 : Int) : Option Int :=
  cond (decide ((256 : Int) ≤ y0_1))
  (m_math_bits_Len64_j2  (Int.fdiv y0_1 (2 ^ 8)) (IntKind.i64.wrap (y2_1 + 8)))
  (m_math_bits_Len64_j2  y0_1 y2_1)
def m_math_bits_Len64_j0 (y0_0 : Int) (y2_0 : Int) : Option Int :=
  cond (decide ((65536 : Int) ≤ y0_0))
  (m_math_bits_Len64_j1  (Int.fdiv y0_0 (2 ^ 16)) (IntKind.i64.wrap (y2_0 + 16)))
  (m_math_bits_Len64_j1  y0_0 y2_0)
def m_math_bits_Len64 (p0 : Int) : Option Int :=
  cond (decide ((4294967296 : Int) ≤ p0))
  (m_math_bits_Len64_j0  (Int.fdiv p0 (2 ^ 32)) 32)
  (m_math_bits_Len64_j0  p0 0)

def m_zig_Size (p0 : Int) : Option Int :=
  Option.bind (m_math_bits_Len64 p0) fun r4_0 =>
  some (max 1 (IntKind.i64.wrap (Int.tdiv (IntKind.i64.wrap ((IntKind.i64.wrap (r4_0 + 7)) - 1)) 7)))

def m_zig_Put_j5 (y20_3 : Int) (y6_3 : List UInt8) (k_m_zig_Put_l3 : (List UInt8) → Int → Option (List UInt8)) (y8_5 : UInt8) : Option (List UInt8) :=
  Option.bind (app y6_3 ([y8_5] : List UInt8)) fun a38_5 =>
  k_m_zig_Put_l3 a38_5 (IntKind.i64.wrap (y20_3 + 1))
def m_zig_Put_l3 (p1 : Int) (r10_0 : Int) : Nat → (List UInt8) → Int → Option (List UInt8)
  | 0, _, _ => none
  | fu_3 + 1, y6_3, y20_3 =>
    cond (decide (y20_3 < r10_0))
    (chk (0 ≤ (IntKind.i64.wrap (7 * y20_3)) ∧ (IntKind.i64.wrap (7 * y20_3)) ≤ 64) (
    Option.bind (some ((toU8 (((BitVec.ofInt 8 (((toU8 (Int.fdiv p1 (2 ^ (Int.toNat (IntKind.i64.wrap (7 * y20_3)))))).toNat : Nat) : Int) ||| BitVec.ofInt 8 128).toNat : Int))))) fun v28_4 =>
    cond (decide (y20_3 = (IntKind.i64.wrap (r10_0 - 1))))
    (m_zig_Put_j5 y20_3 y6_3 (fun y6_3 y20_3 => m_zig_Put_l3 p1 r10_0 fu_3 y6_3 y20_3) (toU8 (((BitVec.ofInt 8 ((v28_4.toNat : Nat) : Int) &&& ~~~ BitVec.ofInt 8 128).toNat : Int))))
    (m_zig_Put_j5 y20_3 y6_3 (fun y6_3 y20_3 => m_zig_Put_l3 p1 r10_0 fu_3 y6_3 y20_3) v28_4)))
    (some y6_3)
def m_zig_Put (p0 : (List UInt8)) (p1 : Int) : Option (List UInt8) :=
  Option.bind (m_zig_Size p1) fun r10_0 =>
  Option.bind (mkc 0 (IntKind.i64.wrap (((List.length p0 : Nat) : Int) + r10_0)) (0 : UInt8)) fun m15_1 =>
  Option.bind (app m15_1 p0) fun a18_2 =>
  m_zig_Put_l3 p1 r10_0 1152921504606846976 a18_2 0

def m_zig_PutInt (p0 : (List UInt8)) (p1 : Int) : Option (List UInt8) :=
  Option.bind (m_zig_Fold p1) fun r7_0 =>
  Option.bind (m_zig_Put p0 r7_0) fun r8_0 =>
  some r8_0

def m_bind_text (p0 : (List UInt8)) (p1 : (List UInt8)) : Option (List UInt8) :=
  Option.bind (m_zig_Put p0 (IntKind.u64.wrap ((List.length p1 : Nat) : Int))) fun r9_0 =>
  Option.bind (app r9_0 p1) fun a11_0 =>
  some a11_0

def m_bind_Ident_l6 (x25_4 : GPair) (y23_3 : Int) (k_m_bind_Ident_l3 : (List UInt8) → Int → Option (List UInt8)) : Nat → (List UInt8) → Int → Option (List UInt8)
  | 0, _, _ => none
  | fu_6 + 1, y3_6, y41_6 =>
    cond (decide (y41_6 < 3))
    (Option.bind (geti ([x25_4.E.Time, x25_4.E.Source, x25_4.E.Seq] : List Int) y41_6) fun x43_8 =>
    Option.bind (m_zig_PutInt y3_6 x43_8) fun r46_7 =>
    m_bind_Ident_l6 x25_4 y23_3 k_m_bind_Ident_l3 fu_6 r46_7 (IntKind.i64.wrap (y41_6 + 1)))
    (k_m_bind_Ident_l3 y3_6 (IntKind.i64.wrap (y23_3 + 1)))
def m_bind_Ident_l3 (p0 : GMatch) : Nat → (List UInt8) → Int → Option (List UInt8)
  | 0, _, _ => none
  | fu_3 + 1, y3_3, y23_3 =>
    cond (decide (y23_3 < ((List.length p0.Bound : Nat) : Int)))
    (Option.bind (geti p0.Bound y23_3) fun x25_4 =>
    Option.bind (m_bind_text y3_3 x25_4.Var) fun r30_5 =>
    m_bind_Ident_l6 x25_4 y23_3 (fun y3_3 y23_3 => m_bind_Ident_l3 p0 fu_3 y3_3 y23_3) 1152921504606846976 r30_5 0)
    (some y3_3)
def m_bind_Ident (p0 : GMatch) : Option (List UInt8) :=
  Option.bind (m_zig_PutInt ([] : List UInt8) p0.Pattern) fun r10_0 =>
  Option.bind (m_bind_text r10_0 p0.Key) fun r13_0 =>
  Option.bind (m_zig_Put r13_0 (IntKind.u64.wrap ((List.length p0.Bound : Nat) : Int))) fun r19_1 =>
  m_bind_Ident_l3 p0 1152921504606846976 r19_1 0

def m_slices_Equal_Value_l2 (p0 : (List GValue)) (p1 : (List GValue)) : Nat → Int → Option Bool
  | 0, _ => none
  | fu_2 + 1, y13_2 =>
    cond (decide (y13_2 < ((List.length p0 : Nat) : Int)))
    (Option.bind (geti p0 y13_2) fun x18_3 =>
    Option.bind (geti p1 y13_2) fun x22_3 =>
    Option.bind (some ((!(decide (((x18_3.Kind.toNat : Nat) : Int) = ((x22_3.Kind.toNat : Nat) : Int)) && (decide (x18_3.N = x22_3.N) && (decide (x18_3.Bits = x22_3.Bits) && (decide (x18_3.Text = x22_3.Text) && true))))))) fun v24_3 =>
    cond v24_3
    (some false)
    (m_slices_Equal_Value_l2 p0 p1 fu_2 (IntKind.i64.wrap (y13_2 + 1))))
    (some true)
def m_slices_Equal_Value (p0 : (List GValue)) (p1 : (List GValue)) : Option Bool :=
  cond (decide (((List.length p0 : Nat) : Int) ≠ ((List.length p1 : Nat) : Int)))
  (some false)
  (m_slices_Equal_Value_l2 p0 p1 1152921504606846976 0)

def m_event_Same (p0 : GEvent) (p1 : GEvent) : Option Bool :=
  Option.bind (m_event_Event_ID p0) fun r6_0 =>
  Option.bind (m_event_Event_ID p1) fun r8_0 =>
  Option.bind (some ((decide (r6_0.Time = r8_0.Time) && (decide (r6_0.Source = r8_0.Source) && (decide (r6_0.Seq = r8_0.Seq) && true))))) fun v9_0 =>
  cond v9_0
  (cond (decide (p0.Type_ = p1.Type_))
  (Option.bind (m_slices_Equal_Value p0.Vals p1.Vals) fun r22_0 =>
  some r22_0)
  (some false))
  (some false)

def m_bind_Same_1 (p0 : GPair) (p1 : GPair) : Option Bool :=
  cond (decide (p0.Var = p1.Var))
  (Option.bind (m_event_Same p0.E p1.E) fun r15_0 =>
  some r15_0)
  (some false)

def m_slices_EqualFunc_Pairbind_Pair_bind_Pair_bind_Pair__bind_Same_1_l2 (p0 : (List GPair)) (p1 : (List GPair)) : Nat → Int → Option Bool
  | 0, _ => none
  | fu_2 + 1, y17_2 =>
    cond (decide (y17_2 < ((List.length p0 : Nat) : Int)))
    (Option.bind (geti p0 y17_2) fun x20_3 =>
    Option.bind (geti p1 y17_2) fun x24_4 =>
    Option.bind (m_bind_Same_1 x20_3 x24_4) fun r29_5 =>
    cond (!r29_5)
    (some false)
    (m_slices_EqualFunc_Pairbind_Pair_bind_Pair_bind_Pair__bind_Same_1_l2 p0 p1 fu_2 (IntKind.i64.wrap (y17_2 + 1))))
    (some true)
def m_slices_EqualFunc_Pairbind_Pair_bind_Pair_bind_Pair__bind_Same_1 (p0 : (List GPair)) (p1 : (List GPair)) : Option Bool :=
  cond (decide (((List.length p0 : Nat) : Int) ≠ ((List.length p1 : Nat) : Int)))
  (some false)
  (m_slices_EqualFunc_Pairbind_Pair_bind_Pair_bind_Pair__bind_Same_1_l2 p0 p1 1152921504606846976 0)

def m_bind_Same (p0 : GMatch) (p1 : GMatch) : Option Bool :=
  cond (decide (p0.Pattern = p1.Pattern))
  (cond (decide (p0.Key = p1.Key))
  (Option.bind (m_slices_EqualFunc_Pairbind_Pair_bind_Pair_bind_Pair__bind_Same_1 p0.Bound p1.Bound) fun r22_0 =>
  some r22_0)
  (some false))
  (some false)

def m_telltaleref02_Fold (p0 : Int) : Option Int :=
  cond (decide (p0 < 0))
  (Option.bind (some ((IntKind.u64.wrap ((IntKind.u64.wrap (2 * (IntKind.u64.wrap (IntKind.i64.wrap (0 - (IntKind.i64.wrap (p0 + 1))))))) + 1)))) fun v10_0 =>
  some v10_0)
  (some (IntKind.u64.wrap (2 * (IntKind.u64.wrap p0))))

def m_telltaleref02_sevens_l1 : Nat → Int → (List Int) → Option (List Int)
  | 0, _, _ => none
  | fu_1 + 1, y0_1, y3_1 =>
    cond (decide ((0 : Int) < y0_1))
    (Option.bind (app y3_1 ([(IntKind.i64.wrap (Int.tmod y0_1 128))] : List Int)) fun a17_2 =>
    m_telltaleref02_sevens_l1 fu_1 (IntKind.u64.wrap (Int.tdiv y0_1 128)) a17_2)
    (some y3_1)
def m_telltaleref02_sevens (p0 : Int) : Option (List Int) :=
  m_telltaleref02_sevens_l1  1152921504606846976 (IntKind.u64.wrap (Int.tdiv p0 128)) ([(IntKind.i64.wrap (Int.tmod p0 128))] : List Int)

def m_telltaleref02_Put_l2 (r12_1 : (List Int)) : Nat → (List UInt8) → Int → Option (List UInt8)
  | 0, _, _ => none
  | fu_2 + 1, y5_2, y7_2 =>
    cond (decide (y7_2 < ((List.length r12_1 : Nat) : Int)))
    (cond (decide (y7_2 < (IntKind.i64.wrap (((List.length r12_1 : Nat) : Int) - 1))))
    (Option.bind (geti r12_1 y7_2) fun x27_5 =>
    Option.bind (app y5_2 ([(toU8 (IntKind.i64.wrap (128 + x27_5)))] : List UInt8)) fun a32_5 =>
    m_telltaleref02_Put_l2 r12_1 fu_2 a32_5 (IntKind.i64.wrap (y7_2 + 1)))
    (Option.bind (geti r12_1 y7_2) fun x36_6 =>
    Option.bind (app y5_2 ([(toU8 x36_6)] : List UInt8)) fun a40_6 =>
    m_telltaleref02_Put_l2 r12_1 fu_2 a40_6 (IntKind.i64.wrap (y7_2 + 1))))
    (some y5_2)
def m_telltaleref02_Put (p0 : (List UInt8)) (p1 : Int) : Option (List UInt8) :=
  Option.bind (app ([] : List UInt8) p0) fun a10_0 =>
  Option.bind (m_telltaleref02_sevens p1) fun r12_1 =>
  m_telltaleref02_Put_l2 r12_1 1152921504606846976 a10_0 0

def m_telltaleref19_number (p0 : (List UInt8)) (p1 : Int) : Option (List UInt8) :=
  Option.bind (m_telltaleref02_Fold p1) fun r7_0 =>
  Option.bind (m_telltaleref02_Put p0 r7_0) fun r8_0 =>
  some r8_0

def m_telltaleref19_text (p0 : (List UInt8)) (p1 : (List UInt8)) : Option (List UInt8) :=
  Option.bind (m_telltaleref02_Put p0 (IntKind.u64.wrap ((List.length p1 : Nat) : Int))) fun r9_0 =>
  Option.bind (app r9_0 p1) fun a11_0 =>
  some a11_0

def m_telltaleref19_Ident_l2 (p0 : GMatch) : Nat → (List UInt8) → Int → Option (List UInt8)
  | 0, _, _ => none
  | fu_2 + 1, y3_2, y4_2 =>
    cond (decide (y4_2 < ((List.length p0.Bound : Nat) : Int)))
    (Option.bind (geti p0.Bound y4_2) fun x28_4 =>
    Option.bind (geti p0.Bound y4_2) fun x35_5 =>
    Option.bind (m_telltaleref19_text y3_2 x35_5.Var) fun r38_5 =>
    Option.bind (m_telltaleref19_number r38_5 x28_4.E.Time) fun r41_5 =>
    Option.bind (m_telltaleref19_number r41_5 x28_4.E.Source) fun r44_5 =>
    Option.bind (m_telltaleref19_number r44_5 x28_4.E.Seq) fun r47_5 =>
    m_telltaleref19_Ident_l2 p0 fu_2 r47_5 (IntKind.i64.wrap (y4_2 + 1)))
    (some y3_2)
def m_telltaleref19_Ident (p0 : GMatch) : Option (List UInt8) :=
  Option.bind (m_telltaleref19_number ([] : List UInt8) p0.Pattern) fun r8_0 =>
  Option.bind (m_telltaleref19_text r8_0 p0.Key) fun r11_0 =>
  Option.bind (m_telltaleref02_Put r11_0 (IntKind.u64.wrap ((List.length p0.Bound : Nat) : Int))) fun r17_1 =>
  m_telltaleref19_Ident_l2 p0 1152921504606846976 r17_1 0

def m_telltalelaw19_awake : Option Bool :=
  Option.bind (m_bind_Add ([] : List GPair) ([120] : List UInt8) (GEvent.mk 1 0 0 ([] : List UInt8) ([] : List GValue))) fun r13_0 =>
  Option.bind (m_bind_Add r13_0 ([121] : List UInt8) (GEvent.mk 2 0 0 ([] : List UInt8) ([] : List GValue))) fun r15_0 =>
  Option.bind (m_bind_Add r15_0 ([120] : List UInt8) (GEvent.mk 5 0 0 ([] : List UInt8) ([] : List GValue))) fun r17_0 =>
  Option.bind (m_bind_Last r17_0 ([120] : List UInt8)) fun r20_1 =>
  Option.bind (m_bind_Span r17_0) fun r25_2 =>
  cond (decide (((List.length r17_0 : Nat) : Int) ≠ 3))
  (some false)
  (Option.bind (cut r17_0 0 1) fun s33_4 =>
  Option.bind (m_bind_Put ([] : List GMatch) (GMatch.mk 0 ([107] : List UInt8) s33_4)) fun r37_5 =>
  Option.bind (m_bind_Put r37_5.1 (GMatch.mk 0 ([107] : List UInt8) s33_4)) fun r43_6 =>
  cond (decide (((List.length r17_0 : Nat) : Int) = 3))
  (cond r20_1.2
  (cond (decide (r20_1.1.Time = 5))
  (cond (decide (r25_2.1 = 1))
  (cond (decide (r25_2.2.1 = 5))
  (cond r25_2.2.2
  (Option.bind (m_bind_Rising r17_0) fun r70_7 =>
  cond r70_7
  (Option.bind (cut r17_0 0 2) fun s74_7 =>
  Option.bind (m_bind_Rank s74_7 r17_0) fun r76_7 =>
  cond (decide (r76_7 = (-1)))
  (cond (decide (((List.length r37_5.1 : Nat) : Int) = 1))
  (cond r37_5.2
  (cond (!r43_6.2)
  (Option.bind (m_bind_Ident (GMatch.mk 0 ([107] : List UInt8) s33_4)) fun r93_7 =>
  cond (decide (r93_7 = ([0, 1, 107, 1, 1, 120, 2, 0, 0] : List UInt8)))
  (Option.bind (m_bind_Before (GMatch.mk 0 ([107] : List UInt8) s33_4) (GMatch.mk 1 ([] : List UInt8) ([] : List GPair))) fun r99_7 =>
  cond (decide (r99_7 = (-1)))
  (Option.bind (m_bind_Same (GMatch.mk 0 ([107] : List UInt8) s33_4) (GMatch.mk 0 ([107] : List UInt8) s33_4)) fun r105_7 =>
  cond r105_7
  (Option.bind (m_telltaleref19_Ident (GMatch.mk 0 ([] : List UInt8) ([] : List GPair))) fun r109_7 =>
  some (decide (r109_7 = ([0, 0, 0] : List UInt8))))
  (some false))
  (some false))
  (some false))
  (some false))
  (some false))
  (some false))
  (some false))
  (some false))
  (some false))
  (some false))
  (some false))
  (some false))
  (some false))
  (some false))

def m_telltalelaw06_Vals_l0 (p0 : (List GValue)) : Nat → (List GValue) → Int → Option (List GValue)
  | 0, _, _ => none
  | fu_0 + 1, y3_0, y4_0 =>
    cond (decide (y4_0 < ((List.length p0 : Nat) : Int)))
    (Option.bind (geti p0 y4_0) fun x14_2 =>
    Option.bind (app y3_0 ([x14_2] : List GValue)) fun a17_2 =>
    m_telltalelaw06_Vals_l0 p0 fu_0 a17_2 (IntKind.i64.wrap (y4_0 + 1)))
    (some y3_0)
def m_telltalelaw06_Vals (p0 : (List GValue)) : Option (List GValue) :=
  m_telltalelaw06_Vals_l0 p0 1152921504606846976 ([] : List GValue) 0

def m_telltalelaw07_Own (p0 : GEvent) : Option GEvent :=
  Option.bind (m_telltalelaw06_Vals p0.Vals) fun r13_0 =>
  some (GEvent.mk p0.Time p0.Source p0.Seq p0.Type_ r13_0)

def m_telltalelaw19_Pairs_l0 (p0 : (List GPair)) : Nat → (List GPair) → Int → Option (List GPair)
  | 0, _, _ => none
  | fu_0 + 1, y3_0, y4_0 =>
    cond (decide (y4_0 < ((List.length p0 : Nat) : Int)))
    (Option.bind (geti p0 y4_0) fun x14_2 =>
    Option.bind (geti p0 y4_0) fun x19_2 =>
    Option.bind (m_telltalelaw07_Own x19_2.E) fun r22_2 =>
    Option.bind (app y3_0 ([(GPair.mk x14_2.Var r22_2)] : List GPair)) fun a25_2 =>
    m_telltalelaw19_Pairs_l0 p0 fu_0 a25_2 (IntKind.i64.wrap (y4_0 + 1)))
    (some y3_0)
def m_telltalelaw19_Pairs (p0 : (List GPair)) : Option (List GPair) :=
  m_telltalelaw19_Pairs_l0 p0 1152921504606846976 ([] : List GPair) 0

def m_telltaleref19_Last_l1 (p0 : (List GPair)) (p1 : (List UInt8)) : Nat → Int → Option (GEvent × Bool)
  | 0, _ => none
  | fu_1 + 1, y6_1 =>
    cond (decide ((0 : Int) ≤ y6_1))
    (Option.bind (geti p0 y6_1) fun x16_2 =>
    cond (decide (x16_2.Var = p1))
    (Option.bind (geti p0 y6_1) fun x23_3 =>
    some (x23_3.E, true))
    (m_telltaleref19_Last_l1 p0 p1 fu_1 (IntKind.i64.wrap (y6_1 - 1))))
    (some ((GEvent.mk 0 0 0 ([] : List UInt8) ([] : List GValue)), false))
def m_telltaleref19_Last (p0 : (List GPair)) (p1 : (List UInt8)) : Option (GEvent × Bool) :=
  m_telltaleref19_Last_l1 p0 p1 1152921504606846976 (IntKind.i64.wrap (((List.length p0 : Nat) : Int) - 1))

def m_telltalelaw07_Back_l0 (p0 : GEvent) : Nat → (List GValue) → Int → Option GEvent
  | 0, _, _ => none
  | fu_0 + 1, y3_d_4_0, y4_0 =>
    cond (decide (y4_0 < ((List.length p0.Vals : Nat) : Int)))
    (Option.bind (geti p0.Vals y4_0) fun x26_2 =>
    Option.bind (app y3_d_4_0 ([x26_2] : List GValue)) fun a29_2 =>
    m_telltalelaw07_Back_l0 p0 fu_0 a29_2 (IntKind.i64.wrap (y4_0 + 1)))
    (some (GEvent.mk p0.Time p0.Source p0.Seq p0.Type_ y3_d_4_0))
def m_telltalelaw07_Back (p0 : GEvent) : Option GEvent :=
  m_telltalelaw07_Back_l0 p0 1152921504606846976 ([] : List GValue) 0

def m_telltalelaw19_BackPairs_l0 (p0 : (List GPair)) : Nat → (List GPair) → Int → Option (List GPair)
  | 0, _, _ => none
  | fu_0 + 1, y3_0, y4_0 =>
    cond (decide (y4_0 < ((List.length p0 : Nat) : Int)))
    (Option.bind (geti p0 y4_0) fun x14_2 =>
    Option.bind (geti p0 y4_0) fun x19_2 =>
    Option.bind (m_telltalelaw07_Back x19_2.E) fun r22_2 =>
    Option.bind (app y3_0 ([(GPair.mk x14_2.Var r22_2)] : List GPair)) fun a25_2 =>
    m_telltalelaw19_BackPairs_l0 p0 fu_0 a25_2 (IntKind.i64.wrap (y4_0 + 1)))
    (some y3_0)
def m_telltalelaw19_BackPairs (p0 : (List GPair)) : Option (List GPair) :=
  m_telltalelaw19_BackPairs_l0 p0 1152921504606846976 ([] : List GPair) 0

def m_telltaleref19_Add (p0 : (List GPair)) (p1 : (List UInt8)) (p2 : GEvent) : Option (List GPair) :=
  Option.bind (app ([] : List GPair) p0) fun a9_0 =>
  Option.bind (app a9_0 ([(GPair.mk p1 p2)] : List GPair)) fun a14_0 =>
  some a14_0

def m_telltaleref07_Same_j1 : Option Bool :=
  some false
def m_telltaleref07_Same_l2 (p0 : GEvent) (p1 : GEvent) : Nat → Int → Option Bool
  | 0, _ => none
  | fu_2 + 1, y5_2 =>
    cond (decide (y5_2 < ((List.length p0.Vals : Nat) : Int)))
    (Option.bind (geti p0.Vals y5_2) fun x51_4 =>
    Option.bind (geti p1.Vals y5_2) fun x56_4 =>
    Option.bind (some ((!(decide (((x51_4.Kind.toNat : Nat) : Int) = ((x56_4.Kind.toNat : Nat) : Int)) && (decide (x51_4.N = x56_4.N) && (decide (x51_4.Bits = x56_4.Bits) && (decide (x51_4.Text = x56_4.Text) && true))))))) fun v58_4 =>
    cond v58_4
    (some false)
    (m_telltaleref07_Same_l2 p0 p1 fu_2 (IntKind.i64.wrap (y5_2 + 1))))
    (some true)
def m_telltaleref07_Same (p0 : GEvent) (p1 : GEvent) : Option Bool :=
  cond (decide (p0.Time ≠ p1.Time))
  (m_telltaleref07_Same_j1 )
  (cond (decide (p0.Source ≠ p1.Source))
  (m_telltaleref07_Same_j1 )
  (cond (decide (p0.Seq ≠ p1.Seq))
  (m_telltaleref07_Same_j1 )
  (cond (decide (p0.Type_ ≠ p1.Type_))
  (m_telltaleref07_Same_j1 )
  (cond (decide (((List.length p0.Vals : Nat) : Int) ≠ ((List.length p1.Vals : Nat) : Int)))
  (some false)
  (m_telltaleref07_Same_l2 p0 p1 1152921504606846976 0)))))

def m_telltaleref19_Same_j1 : Option Bool :=
  some false
def m_telltaleref19_Same_l2 (p0 : GMatch) (p1 : GMatch) : Nat → Int → Option Bool
  | 0, _ => none
  | fu_2 + 1, y5_2 =>
    cond (decide (y5_2 < ((List.length p0.Bound : Nat) : Int)))
    (Option.bind (geti p0.Bound y5_2) fun x37_4 =>
    Option.bind (geti p1.Bound y5_2) fun x43_4 =>
    cond (decide (x37_4.Var ≠ x43_4.Var))
    (some false)
    (Option.bind (geti p0.Bound y5_2) fun x51_4 =>
    Option.bind (geti p1.Bound y5_2) fun x57_4 =>
    Option.bind (m_telltaleref07_Same x51_4.E x57_4.E) fun r60_4 =>
    cond (!r60_4)
    (some false)
    (m_telltaleref19_Same_l2 p0 p1 fu_2 (IntKind.i64.wrap (y5_2 + 1)))))
    (some true)
def m_telltaleref19_Same (p0 : GMatch) (p1 : GMatch) : Option Bool :=
  cond (decide (p0.Pattern ≠ p1.Pattern))
  (m_telltaleref19_Same_j1 )
  (cond (decide (p0.Key ≠ p1.Key))
  (m_telltaleref19_Same_j1 )
  (cond (decide (((List.length p0.Bound : Nat) : Int) ≠ ((List.length p1.Bound : Nat) : Int)))
  (some false)
  (m_telltaleref19_Same_l2 p0 p1 1152921504606846976 0)))

def m_telltaleref07_Less (p0 : GEvent) (p1 : GEvent) : Option Bool :=
  cond (decide (p0.Time ≠ p1.Time))
  (some (decide (p0.Time < p1.Time)))
  (cond (decide (p0.Source ≠ p1.Source))
  (some (decide (p0.Source < p1.Source)))
  (some (decide (p0.Seq < p1.Seq))))

def m_telltaleref19_Rising_l0 (p0 : (List GPair)) : Nat → Int → Option Bool
  | 0, _ => none
  | fu_0 + 1, y3_0 =>
    cond (decide (y3_0 < ((List.length p0 : Nat) : Int)))
    (Option.bind (geti p0 (IntKind.i64.wrap (y3_0 - 1))) fun x13_2 =>
    Option.bind (geti p0 y3_0) fun x18_2 =>
    Option.bind (m_telltaleref07_Less x13_2.E x18_2.E) fun r21_2 =>
    cond (!r21_2)
    (some false)
    (m_telltaleref19_Rising_l0 p0 fu_0 (IntKind.i64.wrap (y3_0 + 1))))
    (some true)
def m_telltaleref19_Rising (p0 : (List GPair)) : Option Bool :=
  m_telltaleref19_Rising_l0 p0 1152921504606846976 1

def m_telltaleref19_ahead (p0 : GPair) (p1 : GPair) : Option Bool :=
  Option.bind (m_telltaleref07_Less p0.E p1.E) fun r9_0 =>
  cond r9_0
  (Option.bind (m_telltaleref07_Less p0.E p1.E) fun r21_1 =>
  some r21_1)
  (Option.bind (m_telltaleref07_Less p1.E p0.E) fun r15_0 =>
  cond r15_0
  (Option.bind (m_telltaleref07_Less p0.E p1.E) fun r21_2 =>
  some r21_2)
  (some (ltS p0.Var p1.Var)))

def m_telltaleref19_Rank_j4 (p0 : (List GPair)) (p1 : (List GPair)) : Option Int :=
  cond (decide (((List.length p0 : Nat) : Int) < ((List.length p1 : Nat) : Int)))
  (some (-1))
  (some (min 1 (IntKind.i64.wrap (((List.length p0 : Nat) : Int) - ((List.length p1 : Nat) : Int)))))
def m_telltaleref19_Rank_l0 (p0 : (List GPair)) (p1 : (List GPair)) : Nat → Int → Option Int
  | 0, _ => none
  | fu_0 + 1, y5_0 =>
    cond (decide (y5_0 < ((List.length p0 : Nat) : Int)))
    (cond (decide (y5_0 < ((List.length p1 : Nat) : Int)))
    (Option.bind (geti p0 y5_0) fun x20_2 =>
    Option.bind (geti p1 y5_0) fun x24_2 =>
    Option.bind (m_telltaleref19_ahead x20_2 x24_2) fun r26_2 =>
    cond r26_2
    (some (-1))
    (Option.bind (geti p1 y5_0) fun x29_3 =>
    Option.bind (geti p0 y5_0) fun x33_3 =>
    Option.bind (m_telltaleref19_ahead x29_3 x33_3) fun r35_3 =>
    cond r35_3
    (some 1)
    (m_telltaleref19_Rank_l0 p0 p1 fu_0 (IntKind.i64.wrap (y5_0 + 1)))))
    (m_telltaleref19_Rank_j4 p0 p1))
    (m_telltaleref19_Rank_j4 p0 p1)
def m_telltaleref19_Rank (p0 : (List GPair)) (p1 : (List GPair)) : Option Int :=
  m_telltaleref19_Rank_l0 p0 p1 1152921504606846976 0

def m_telltalelaw19_BindTells_j1 : Option Bool :=
  Option.bind m_telltalelaw19_awake fun r34_2 =>
  some r34_2
def m_telltalelaw19_BindTells_j14 (p0 : GArr2_List_GPair) (p1 : GPair) (r37_4 : (List GPair)) (r40_4 : (List GPair)) (r45_5 : (GEvent × Bool)) (r53_6 : (GEvent × Bool)) (r62_7 : (List GPair)) (r65_8 : (List GPair)) : Option Bool :=
  Option.bind (m_telltalelaw19_BackPairs r62_7) fun r112_15 =>
  Option.bind (m_telltaleref19_Add p0.a0 p1.Var p1.E) fun r120_15 =>
  Option.bind (m_telltalelaw07_Back r45_5.1) fun r123_16 =>
  Option.bind (m_telltaleref07_Same r123_16 r53_6.1) fun r125_16 =>
  cond r125_16
  (cond (decide (r45_5.2 = r53_6.2))
  (Option.bind (m_telltaleref19_Same (GMatch.mk 0 ([] : List UInt8) r112_15) (GMatch.mk 0 ([] : List UInt8) r120_15)) fun r134_16 =>
  cond r134_16
  (cond (decide (((List.length r65_8 : Nat) : Int) = ((List.length r62_7 : Nat) : Int)))
  (Option.bind (m_telltalelaw19_BackPairs r37_4) fun r145_16 =>
  Option.bind (m_telltaleref19_Same (GMatch.mk 0 ([] : List UInt8) r145_16) (GMatch.mk 0 ([] : List UInt8) p0.a0)) fun r150_16 =>
  cond r150_16
  (Option.bind (m_bind_Rising r37_4) fun r154_16 =>
  Option.bind (m_telltaleref19_Rising p0.a0) fun r157_16 =>
  cond (decide (r154_16 = r157_16))
  (Option.bind (m_bind_Rank r37_4 r40_4) fun r163_16 =>
  Option.bind (m_telltaleref19_Rank p0.a0 p0.a1) fun r168_16 =>
  cond (decide (r163_16 = r168_16))
  (Option.bind m_telltalelaw19_awake fun r172_16 =>
  some r172_16)
  (some false))
  (some false))
  (some false))
  (some false))
  (some false))
  (some false))
  (some false)
def m_telltalelaw19_BindTells_j11 : Option Bool :=
  some false
def m_telltalelaw19_BindTells_j12 (p0 : GArr2_List_GPair) (p1 : GPair) (r37_4 : (List GPair)) (r40_4 : (List GPair)) (r45_5 : (GEvent × Bool)) (r53_6 : (GEvent × Bool)) (r62_7 : (List GPair)) (r65_8 : (List GPair)) (r68_9 : (Int × Int × Bool)) : Option Bool :=
  cond (decide ((IntKind.i64.wrap (r68_9.1 + r68_9.2.1)) ≠ 0))
  (some false)
  (m_telltalelaw19_BindTells_j14 p0 p1 r37_4 r40_4 r45_5 r53_6 r62_7 r65_8)
def m_telltalelaw19_BindTells_j13 (p0 : GArr2_List_GPair) (p1 : GPair) (r37_4 : (List GPair)) (r40_4 : (List GPair)) (r45_5 : (GEvent × Bool)) (r53_6 : (GEvent × Bool)) (r62_7 : (List GPair)) (r65_8 : (List GPair)) : Option Bool :=
  m_telltalelaw19_BindTells_j14 p0 p1 r37_4 r40_4 r45_5 r53_6 r62_7 r65_8
def m_telltalelaw19_BindTells (p0 : GArr2_List_GPair) (p1 : GPair) : Option Bool :=
  Option.bind (m_telltalelaw19_Long p0.a0) fun r20_0 =>
  cond (decide ((0 : Int) < r20_0))
  (m_telltalelaw19_BindTells_j1 )
  (Option.bind (m_telltalelaw19_Long p0.a1) fun r25_0 =>
  cond (decide ((0 : Int) < r25_0))
  (m_telltalelaw19_BindTells_j1 )
  (Option.bind (m_telltalelaw19_Long ([p1] : List GPair)) fun r31_0 =>
  cond (decide ((0 : Int) < r31_0))
  (Option.bind m_telltalelaw19_awake fun r34_3 =>
  some r34_3)
  (Option.bind (m_telltalelaw19_Pairs p0.a0) fun r37_4 =>
  Option.bind (m_telltalelaw19_Pairs p0.a1) fun r40_4 =>
  Option.bind (m_bind_Last r37_4 p1.Var) fun r45_5 =>
  Option.bind (m_telltaleref19_Last p0.a0 p1.Var) fun r53_6 =>
  Option.bind (m_telltalelaw07_Own p1.E) fun r61_7 =>
  Option.bind (m_bind_Add r37_4 p1.Var r61_7) fun r62_7 =>
  Option.bind (m_bind_Add r37_4 ([111, 116, 104, 101, 114] : List UInt8) (GEvent.mk 0 0 0 ([] : List UInt8) ([] : List GValue))) fun r65_8 =>
  Option.bind (m_bind_Span r37_4) fun r68_9 =>
  cond (decide (r68_9.2.2 ≠ decide ((0 : Int) < ((List.length r37_4 : Nat) : Int))))
  (m_telltalelaw19_BindTells_j11 )
  (cond r68_9.2.2
  (Option.bind (geti r37_4 0) fun x82_10 =>
  cond (decide (r68_9.1 ≠ x82_10.E.Time))
  (m_telltalelaw19_BindTells_j11 )
  (Option.bind (geti r37_4 (IntKind.i64.wrap (((List.length r37_4 : Nat) : Int) - 1))) fun x93_10 =>
  cond (decide (r68_9.2.1 ≠ x93_10.E.Time))
  (m_telltalelaw19_BindTells_j11 )
  (cond (!r68_9.2.2)
  (m_telltalelaw19_BindTells_j12 p0 p1 r37_4 r40_4 r45_5 r53_6 r62_7 r65_8 r68_9)
  (m_telltalelaw19_BindTells_j13 p0 p1 r37_4 r40_4 r45_5 r53_6 r62_7 r65_8))))
  (cond (!r68_9.2.2)
  (m_telltalelaw19_BindTells_j12 p0 p1 r37_4 r40_4 r45_5 r53_6 r62_7 r65_8 r68_9)
  (m_telltalelaw19_BindTells_j13 p0 p1 r37_4 r40_4 r45_5 r53_6 r62_7 r65_8))))))

def m_telltalelaw19_Over (p0 : GMatch) : Option Int :=
  cond (decide ((60 : Int) < ((List.length p0.Key : Nat) : Int)))
  (some 1)
  (Option.bind (m_telltalelaw19_Long p0.Bound) fun r9_1 =>
  some r9_1)

def m_telltalelaw19_Own (p0 : GMatch) : Option GMatch :=
  Option.bind (m_telltalelaw19_Pairs p0.Bound) fun r9_0 =>
  some (GMatch.mk p0.Pattern p0.Key r9_0)

def m_telltaleref19_Before (p0 : GMatch) (p1 : GMatch) : Option Int :=
  cond (decide (p0.Pattern ≠ p1.Pattern))
  (cond (decide (p0.Pattern < p1.Pattern))
  (some (-1))
  (some 1))
  (cond (decide (p0.Key ≠ p1.Key))
  (cond (ltS p0.Key p1.Key)
  (some (-1))
  (some 1))
  (Option.bind (m_telltaleref19_Rank p0.Bound p1.Bound) fun r29_0 =>
  some r29_0))

def m_telltalelaw19_All_l0 (p0 : (List GMatch)) : Nat → (List GMatch) → Int → Option (List GMatch)
  | 0, _, _ => none
  | fu_0 + 1, y3_0, y4_0 =>
    cond (decide (y4_0 < ((List.length p0 : Nat) : Int)))
    (Option.bind (geti p0 y4_0) fun x14_2 =>
    Option.bind (m_telltalelaw19_Own x14_2) fun r16_2 =>
    Option.bind (app y3_0 ([r16_2] : List GMatch)) fun a18_2 =>
    m_telltalelaw19_All_l0 p0 fu_0 a18_2 (IntKind.i64.wrap (y4_0 + 1)))
    (some y3_0)
def m_telltalelaw19_All (p0 : (List GMatch)) : Option (List GMatch) :=
  m_telltalelaw19_All_l0 p0 1152921504606846976 ([] : List GMatch) 0

def m_telltaleref19_Put_j5 (p0 : (List GMatch)) (p1 : GMatch) (y7_5 : Int) : Option ((List GMatch) × Bool) :=
  Option.bind (cut p0 0 y7_5) fun s41_6 =>
  Option.bind (app ([] : List GMatch) s41_6) fun a42_6 =>
  Option.bind (app a42_6 ([p1] : List GMatch)) fun a45_6 =>
  Option.bind (cut p0 y7_5 ((List.length p0 : Nat) : Int)) fun s49_7 =>
  Option.bind (app a45_6 s49_7) fun a50_7 =>
  some (a50_7, true)
def m_telltaleref19_Put_l3 (p0 : (List GMatch)) (p1 : GMatch) : Nat → Int → Option ((List GMatch) × Bool)
  | 0, _ => none
  | fu_3 + 1, y7_3 =>
    cond (decide (y7_3 < ((List.length p0 : Nat) : Int)))
    (Option.bind (geti p0 y7_3) fun x30_4 =>
    Option.bind (m_telltaleref19_Before x30_4 p1) fun r33_4 =>
    cond (decide (r33_4 < 0))
    (m_telltaleref19_Put_l3 p0 p1 fu_3 (IntKind.i64.wrap (y7_3 + 1)))
    (m_telltaleref19_Put_j5 p0 p1 y7_3))
    (m_telltaleref19_Put_j5 p0 p1 y7_3)
def m_telltaleref19_Put_l0 (p0 : (List GMatch)) (p1 : GMatch) : Nat → Int → Option ((List GMatch) × Bool)
  | 0, _ => none
  | fu_0 + 1, y6_0 =>
    cond (decide (y6_0 < ((List.length p0 : Nat) : Int)))
    (Option.bind (geti p0 y6_0) fun x17_2 =>
    Option.bind (m_telltaleref19_Before x17_2 p1) fun r20_2 =>
    cond (decide (r20_2 = 0))
    (some (p0, false))
    (m_telltaleref19_Put_l0 p0 p1 fu_0 (IntKind.i64.wrap (y6_0 + 1))))
    (m_telltaleref19_Put_l3 p0 p1 1152921504606846976 0)
def m_telltaleref19_Put (p0 : (List GMatch)) (p1 : GMatch) : Option ((List GMatch) × Bool) :=
  m_telltaleref19_Put_l0 p0 p1 1152921504606846976 0

def m_telltalelaw19_Back (p0 : GMatch) : Option GMatch :=
  Option.bind (m_telltalelaw19_BackPairs p0.Bound) fun r9_0 =>
  some (GMatch.mk p0.Pattern p0.Key r9_0)

def m_telltalelaw19_BackAll_l0 (p0 : (List GMatch)) : Nat → (List GMatch) → Int → Option (List GMatch)
  | 0, _, _ => none
  | fu_0 + 1, y3_0, y4_0 =>
    cond (decide (y4_0 < ((List.length p0 : Nat) : Int)))
    (Option.bind (geti p0 y4_0) fun x14_2 =>
    Option.bind (m_telltalelaw19_Back x14_2) fun r16_2 =>
    Option.bind (app y3_0 ([r16_2] : List GMatch)) fun a18_2 =>
    m_telltalelaw19_BackAll_l0 p0 fu_0 a18_2 (IntKind.i64.wrap (y4_0 + 1)))
    (some y3_0)
def m_telltalelaw19_BackAll (p0 : (List GMatch)) : Option (List GMatch) :=
  m_telltalelaw19_BackAll_l0 p0 1152921504606846976 ([] : List GMatch) 0

def m_telltaleref19_SameAll_l1 (p0 : (List GMatch)) (p1 : (List GMatch)) : Nat → Int → Option Bool
  | 0, _ => none
  | fu_1 + 1, y5_1 =>
    cond (decide (y5_1 < ((List.length p0 : Nat) : Int)))
    (Option.bind (geti p0 y5_1) fun x19_3 =>
    Option.bind (geti p1 y5_1) fun x23_3 =>
    Option.bind (m_telltaleref19_Same x19_3 x23_3) fun r25_3 =>
    cond (!r25_3)
    (some false)
    (m_telltaleref19_SameAll_l1 p0 p1 fu_1 (IntKind.i64.wrap (y5_1 + 1))))
    (some true)
def m_telltaleref19_SameAll (p0 : (List GMatch)) (p1 : (List GMatch)) : Option Bool :=
  cond (decide (((List.length p0 : Nat) : Int) ≠ ((List.length p1 : Nat) : Int)))
  (some false)
  (m_telltaleref19_SameAll_l1 p0 p1 1152921504606846976 0)

def m_telltalelaw19_BindMatches_l4 (p0 : (List GMatch)) (p1 : GMatch) (r23_3 : GMatch) : Nat → Int → Option Bool
  | 0, _ => none
  | fu_4 + 1, y6_4 =>
    cond (decide (y6_4 < ((List.length p0 : Nat) : Int)))
    (Option.bind (geti p0 y6_4) fun x32_6 =>
    Option.bind (m_telltalelaw19_Over x32_6) fun r34_6 =>
    cond (decide ((0 : Int) < r34_6))
    (Option.bind m_telltalelaw19_awake fun r36_7 =>
    some r36_7)
    (Option.bind (geti p0 y6_4) fun x39_8 =>
    Option.bind (m_telltalelaw19_Own x39_8) fun r41_8 =>
    Option.bind (m_bind_Before r41_8 r23_3) fun r44_9 =>
    Option.bind (geti p0 y6_4) fun x47_9 =>
    Option.bind (m_telltaleref19_Before x47_9 p1) fun r50_9 =>
    cond (decide (r44_9 ≠ r50_9))
    (some false)
    (Option.bind (m_bind_Same r41_8 r23_3) fun r55_9 =>
    Option.bind (geti p0 y6_4) fun x58_9 =>
    Option.bind (m_telltaleref19_Same x58_9 p1) fun r61_9 =>
    cond (decide (r55_9 ≠ r61_9))
    (some false)
    (m_telltalelaw19_BindMatches_l4 p0 p1 r23_3 fu_4 (IntKind.i64.wrap (y6_4 + 1))))))
    (Option.bind (m_telltalelaw19_All p0) fun r65_10 =>
    Option.bind (m_bind_Put r65_10 r23_3) fun r69_11 =>
    Option.bind (m_telltaleref19_Put p0 p1) fun r75_12 =>
    Option.bind (m_bind_Ident r23_3) fun r79_13 =>
    Option.bind (m_telltaleref19_Ident p1) fun r81_13 =>
    cond (decide (r79_13 = r81_13))
    (cond (decide (r69_11.2 = r75_12.2))
    (Option.bind (m_telltalelaw19_BackAll r69_11.1) fun r90_13 =>
    Option.bind (m_telltaleref19_SameAll r90_13 r75_12.1) fun r92_13 =>
    cond r92_13
    (Option.bind (m_telltalelaw19_BackAll r65_10) fun r96_13 =>
    Option.bind (m_telltaleref19_SameAll r96_13 p0) fun r98_13 =>
    cond r98_13
    (Option.bind m_telltalelaw19_awake fun r101_13 =>
    some r101_13)
    (some false))
    (some false))
    (some false))
    (some false))
def m_telltalelaw19_BindMatches (p0 : (List GMatch)) (p1 : GMatch) : Option Bool :=
  cond (decide ((12 : Int) < ((List.length p0 : Nat) : Int)))
  (Option.bind m_telltalelaw19_awake fun r21_1 =>
  some r21_1)
  (Option.bind (m_telltalelaw19_Over p1) fun r18_0 =>
  cond (decide ((0 : Int) < r18_0))
  (Option.bind m_telltalelaw19_awake fun r21_2 =>
  some r21_2)
  (Option.bind (m_telltalelaw19_Own p1) fun r23_3 =>
  m_telltalelaw19_BindMatches_l4 p0 p1 r23_3 1152921504606846976 0))

def m_telltalelaw19_BindApart_j6 : Option Bool :=
  some false
def m_telltalelaw19_BindApart_l0 (p0 : GArr3_GMatch) : Nat → Int → Option Bool
  | 0, _ => none
  | fu_0 + 1, y3_0 =>
    cond (decide (y3_0 < 3))
    (Option.bind (geti ([p0.a0, p0.a1, p0.a2] : List GMatch) y3_0) fun x15_1 =>
    Option.bind (m_telltalelaw19_Over x15_1) fun r17_1 =>
    cond (decide ((0 : Int) < r17_1))
    (Option.bind m_telltalelaw19_awake fun r19_2 =>
    some r19_2)
    (m_telltalelaw19_BindApart_l0 p0 fu_0 (IntKind.i64.wrap (y3_0 + 1))))
    (Option.bind (m_telltalelaw19_Own p0.a0) fun r22_3 =>
    Option.bind (m_telltalelaw19_Own p0.a1) fun r25_3 =>
    Option.bind (m_telltalelaw19_Own p0.a2) fun r28_3 =>
    Option.bind (m_bind_Before r22_3 r25_3) fun r31_4 =>
    Option.bind (m_bind_Before r25_3 r28_3) fun r34_4 =>
    Option.bind (m_bind_Before r22_3 r28_3) fun r37_4 =>
    Option.bind (m_bind_Ident r22_3) fun r39_5 =>
    Option.bind (m_bind_Ident r25_3) fun r41_5 =>
    cond (decide (decide (r39_5 = r41_5) ≠ decide (r31_4 = 0)))
    (m_telltalelaw19_BindApart_j6 )
    (Option.bind (m_bind_Before r25_3 r22_3) fun r49_5 =>
    cond (decide (r49_5 ≠ (IntKind.i64.wrap (0 - r31_4))))
    (m_telltalelaw19_BindApart_j6 )
    (cond (decide (r31_4 < (-1)))
    (m_telltalelaw19_BindApart_j6 )
    (cond (decide ((1 : Int) < r31_4))
    (m_telltalelaw19_BindApart_j6 )
    (Option.bind (m_bind_Before r22_3 r22_3) fun r65_5 =>
    cond (decide (r65_5 ≠ 0))
    (some false)
    (cond (decide ((0 : Int) < r31_4))
    (cond (decide ((0 : Int) < r31_4))
    (Option.bind m_telltalelaw19_awake fun r91_7 =>
    some r91_7)
    (cond (decide ((0 : Int) ≤ r34_4))
    (Option.bind m_telltalelaw19_awake fun r91_7 =>
    some r91_7)
    (cond (decide (r37_4 < 0))
    (Option.bind m_telltalelaw19_awake fun r91_7 =>
    some r91_7)
    (some false))))
    (cond (decide ((0 : Int) < r34_4))
    (cond (decide ((0 : Int) < r31_4))
    (Option.bind m_telltalelaw19_awake fun r91_7 =>
    some r91_7)
    (cond (decide ((0 : Int) ≤ r34_4))
    (Option.bind m_telltalelaw19_awake fun r91_7 =>
    some r91_7)
    (cond (decide (r37_4 < 0))
    (Option.bind m_telltalelaw19_awake fun r91_7 =>
    some r91_7)
    (some false))))
    (cond (decide (r37_4 ≤ 0))
    (cond (decide ((0 : Int) < r31_4))
    (Option.bind m_telltalelaw19_awake fun r91_7 =>
    some r91_7)
    (cond (decide ((0 : Int) ≤ r34_4))
    (Option.bind m_telltalelaw19_awake fun r91_7 =>
    some r91_7)
    (cond (decide (r37_4 < 0))
    (Option.bind m_telltalelaw19_awake fun r91_7 =>
    some r91_7)
    (some false))))
    (some false)))))))))
def m_telltalelaw19_BindApart (p0 : GArr3_GMatch) : Option Bool :=
  m_telltalelaw19_BindApart_l0 p0 1152921504606846976 0

def m_telltalelaw19_BindOnce_j16 (y10_13 : Int) (k_m_telltalelaw19_BindOnce_l13 : Int → Option Bool) (y115_16 : Bool) : Option Bool :=
  cond y115_16
  (some false)
  (k_m_telltalelaw19_BindOnce_l13 (IntKind.i64.wrap (y10_13 + 1)))
def m_telltalelaw19_BindOnce_l17 (p0 : (List GMatch)) (y3_2 : List GMatch) : Nat → Int → Option Bool
  | 0, _ => none
  | fu_17 + 1, y11_17 =>
    cond (decide (y11_17 < ((List.length p0 : Nat) : Int)))
    (Option.bind (geti p0 y11_17) fun x126_19 =>
    Option.bind (m_telltalelaw19_Own x126_19) fun r128_19 =>
    Option.bind (m_bind_Put y3_2 r128_19) fun r129_19 =>
    cond r129_19.2
    (some false)
    (m_telltalelaw19_BindOnce_l17 p0 y3_2 fu_17 (IntKind.i64.wrap (y11_17 + 1))))
    (Option.bind m_telltalelaw19_awake fun r133_20 =>
    some r133_20)
def m_telltalelaw19_BindOnce_l13 (p0 : (List GMatch)) (y3_2 : List GMatch) (y4_10 : List GMatch) : Nat → Int → Option Bool
  | 0, _ => none
  | fu_13 + 1, y10_13 =>
    cond (decide (y10_13 < ((List.length y3_2 : Nat) : Int)))
    (cond (decide ((0 : Int) < y10_13))
    (Option.bind (geti y3_2 (IntKind.i64.wrap (y10_13 - 1))) fun x95_15 =>
    Option.bind (geti y3_2 y10_13) fun x99_15 =>
    Option.bind (m_bind_Before x95_15 x99_15) fun r101_15 =>
    cond (decide ((0 : Int) ≤ r101_15))
    (some false)
    (Option.bind (geti y3_2 y10_13) fun x107_15 =>
    Option.bind (geti y4_10 y10_13) fun x111_15 =>
    Option.bind (m_bind_Before x107_15 x111_15) fun r113_15 =>
    m_telltalelaw19_BindOnce_j16 y10_13 (fun y10_13 => m_telltalelaw19_BindOnce_l13 p0 y3_2 y4_10 fu_13 y10_13) (decide (r113_15 ≠ 0))))
    (Option.bind (geti y3_2 y10_13) fun x107_15 =>
    Option.bind (geti y4_10 y10_13) fun x111_15 =>
    Option.bind (m_bind_Before x107_15 x111_15) fun r113_15 =>
    m_telltalelaw19_BindOnce_j16 y10_13 (fun y10_13 => m_telltalelaw19_BindOnce_l13 p0 y3_2 y4_10 fu_13 y10_13) (decide (r113_15 ≠ 0))))
    (m_telltalelaw19_BindOnce_l17 p0 y3_2 1152921504606846976 0)
def m_telltalelaw19_BindOnce_l10 (p0 : (List GMatch)) (y3_2 : List GMatch) : Nat → (List GMatch) → Int → Option Bool
  | 0, _, _ => none
  | fu_10 + 1, y4_10, y9_10 =>
    cond (decide ((0 : Int) ≤ y9_10))
    (Option.bind (geti p0 y9_10) fun x72_11 =>
    Option.bind (m_telltalelaw19_Own x72_11) fun r74_11 =>
    Option.bind (m_bind_Put y4_10 r74_11) fun r75_11 =>
    m_telltalelaw19_BindOnce_l10 p0 y3_2 fu_10 r75_11.1 (IntKind.i64.wrap (y9_10 - 1)))
    (cond (decide (((List.length y3_2 : Nat) : Int) ≠ ((List.length y4_10 : Nat) : Int)))
    (some false)
    (m_telltalelaw19_BindOnce_l13 p0 y3_2 y4_10 1152921504606846976 0))
def m_telltalelaw19_BindOnce_l2 (p0 : (List GMatch)) : Nat → (List GMatch) → Int → Option Bool
  | 0, _, _ => none
  | fu_2 + 1, y3_2, y5_2 =>
    cond (decide (y5_2 < ((List.length p0 : Nat) : Int)))
    (Option.bind (geti p0 y5_2) fun x26_4 =>
    Option.bind (m_telltalelaw19_Over x26_4) fun r28_4 =>
    cond (decide ((0 : Int) < r28_4))
    (Option.bind m_telltalelaw19_awake fun r30_5 =>
    some r30_5)
    (Option.bind (geti p0 y5_2) fun x37_7 =>
    Option.bind (m_telltalelaw19_Own x37_7) fun r39_7 =>
    Option.bind (m_bind_Put y3_2 r39_7) fun r40_7 =>
    Option.bind (some (decide (r40_7.2 ≠ decide (((List.length r40_7.1 : Nat) : Int) = (IntKind.i64.wrap (((List.length y3_2 : Nat) : Int) + 1)))))) fun v49_8 =>
    cond v49_8
    (some false)
    (cond (!r40_7.2)
    (cond (decide (((List.length r40_7.1 : Nat) : Int) ≠ ((List.length y3_2 : Nat) : Int)))
    (some false)
    (m_telltalelaw19_BindOnce_l2 p0 fu_2 r40_7.1 (IntKind.i64.wrap (y5_2 + 1))))
    (m_telltalelaw19_BindOnce_l2 p0 fu_2 r40_7.1 (IntKind.i64.wrap (y5_2 + 1))))))
    (m_telltalelaw19_BindOnce_l10 p0 y3_2 1152921504606846976 ([] : List GMatch) (IntKind.i64.wrap (((List.length p0 : Nat) : Int) - 1)))
def m_telltalelaw19_BindOnce (p0 : (List GMatch)) : Option Bool :=
  cond (decide ((12 : Int) < ((List.length p0 : Nat) : Int)))
  (Option.bind m_telltalelaw19_awake fun r17_1 =>
  some r17_1)
  (m_telltalelaw19_BindOnce_l2 p0 1152921504606846976 ([] : List GMatch) 0)
end Go.Proofs.Ytkagljfmfjaleaa.K
