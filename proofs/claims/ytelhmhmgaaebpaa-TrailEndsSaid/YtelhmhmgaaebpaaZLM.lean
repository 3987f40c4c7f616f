/- models of the program's functions -/
import Derived.Test.YtelhmhmgaaebpaaZAn
set_option linter.unusedVariables false
set_option linter.unusedSimpArgs false
namespace Go.Proofs.Ytelhmhmgaaebpaa.K
open Go.RowKit Go.Lib

def m_trail_New (p0 : Int) : Option (GTrail × Int) :=
  cond (decide (p0 < 1))
  (some ((GTrail.mk 0 ([] : List GWait)), 2))
  (cond (decide ((4096 : Int) < p0))
  (some ((GTrail.mk 0 ([] : List GWait)), 2))
  (some ((GTrail.mk p0 ([] : List GWait)), 0)))

def m_w22_at (p0 : Int) : Option (List GPair) :=
  some ([(GPair.mk ([120] : List UInt8) (GEvent.mk p0 0 0 ([] : List UInt8) ([] : List GValue)))] : List GPair)

def m_slices_Clone_Pair (p0 : (List GPair)) : Option (List GPair) :=
  Option.bind (app ([] : List GPair) p0) fun a7_0 =>
  some a7_0

def m_slices_Clone_uint32 (p0 : (List Int)) : Option (List Int) :=
  Option.bind (app ([] : List Int) p0) fun a7_0 =>
  some a7_0

def m_trail_copied_l1 (p0 : (List GWait)) : Nat → (List GWait) → Int → Option (List GWait)
  | 0, _, _ => none
  | fu_1 + 1, y3_1, y8_1 =>
    cond (decide (y8_1 < ((List.length p0 : Nat) : Int)))
    (Option.bind (geti p0 y8_1) fun x10_2 =>
    Option.bind (m_slices_Clone_Pair x10_2.Bound) fun r15_3 =>
    Option.bind (m_slices_Clone_uint32 x10_2.Sets) fun r18_3 =>
    Option.bind (app y3_1 ([(GWait.mk r15_3 r18_3 x10_2.End)] : List GWait)) fun a23_3 =>
    m_trail_copied_l1 p0 fu_1 a23_3 (IntKind.i64.wrap (y8_1 + 1)))
    (some y3_1)
def m_trail_copied (p0 : (List GWait)) : Option (List GWait) :=
  m_trail_copied_l1 p0 1152921504606846976 ([] : List GWait) 0

def m_event_Event_ID (p0 : GEvent) : Option GID :=
  some (GID.mk p0.Time p0.Source p0.Seq)

def m_cmp_isNaN_int (p0 : Int) : Option Bool :=
  some (decide (p0 ≠ p0))

def m_cmp_Compare_int (p0 : Int) (p1 : Int) : Option Int :=
  Option.bind (m_cmp_isNaN_int p0) fun r8_0 =>
  Option.bind (m_cmp_isNaN_int p1) fun r10_1 =>
  cond r8_0
  (cond r10_1
  (some 0)
  (some (-1)))
  (cond r10_1
  (some 1)
  (cond (decide (p0 < p1))
  (some (-1))
  (cond (decide (p1 < p0))
  (some 1)
  (some 0))))

def m_cmp_isNaN_string (p0 : (List UInt8)) : Option Bool :=
  some (decide (p0 ≠ p0))

def m_cmp_Compare_string (p0 : (List UInt8)) (p1 : (List UInt8)) : Option Int :=
  Option.bind (m_cmp_isNaN_string p0) fun r8_0 =>
  Option.bind (m_cmp_isNaN_string p1) fun r10_1 =>
  cond r8_0
  (cond r10_1
  (some 0)
  (some (-1)))
  (cond r10_1
  (some 1)
  (cond (ltS p0 p1)
  (some (-1))
  (cond (gtS p0 p1)
  (some 1)
  (some 0))))

def m_cmp_Or_int_l1 (p0 : (List Int)) : Nat → Int → Option Int
  | 0, _ => none
  | fu_1 + 1, y8_1 =>
    cond (decide (y8_1 < ((List.length p0 : Nat) : Int)))
    (Option.bind (geti p0 y8_1) fun x10_2 =>
    cond (decide (x10_2 ≠ 0))
    (some x10_2)
    (m_cmp_Or_int_l1 p0 fu_1 (IntKind.i64.wrap (y8_1 + 1))))
    (some 0)
def m_cmp_Or_int (p0 : (List Int)) : Option Int :=
  m_cmp_Or_int_l1 p0 1152921504606846976 0

def m_bind_order (p0 : GPair) (p1 : GPair) : Option Int :=
  Option.bind (m_event_Event_ID p0.E) fun r9_0 =>
  Option.bind (m_event_Event_ID p1.E) fun r12_0 =>
  Option.bind (m_cmp_Compare_int r9_0.Time r12_0.Time) fun r17_1 =>
  Option.bind (m_cmp_Compare_int r9_0.Source r12_0.Source) fun r22_1 =>
  Option.bind (m_cmp_Compare_int r9_0.Seq r12_0.Seq) fun r27_1 =>
  Option.bind (m_cmp_Compare_string p0.Var p1.Var) fun r32_1 =>
  Option.bind (m_cmp_Or_int ([r17_1, r22_1, r27_1, r32_1] : List Int)) fun r34_1 =>
  some r34_1

def m_slices_CompareFunc_Pairbind_Pair_bind_Pair_bind_Pair__bind_order_l1 (p0 : (List GPair)) (p1 : (List GPair)) : Nat → Int → Option Int
  | 0, _ => none
  | fu_1 + 1, y13_1 =>
    cond (decide (y13_1 < ((List.length p0 : Nat) : Int)))
    (Option.bind (geti p0 y13_1) fun x16_2 =>
    cond (decide (((List.length p1 : Nat) : Int) ≤ y13_1))
    (some 1)
    (Option.bind (geti p1 y13_1) fun x24_4 =>
    Option.bind (m_bind_order x16_2 x24_4) fun r29_5 =>
    cond (decide (r29_5 ≠ 0))
    (some r29_5)
    (m_slices_CompareFunc_Pairbind_Pair_bind_Pair_bind_Pair__bind_order_l1 p0 p1 fu_1 (IntKind.i64.wrap (y13_1 + 1)))))
    (cond (decide (((List.length p0 : Nat) : Int) < ((List.length p1 : Nat) : Int)))
    (some (-1))
    (some 0))
def m_slices_CompareFunc_Pairbind_Pair_bind_Pair_bind_Pair__bind_order (p0 : (List GPair)) (p1 : (List GPair)) : Option Int :=
  m_slices_CompareFunc_Pairbind_Pair_bind_Pair_bind_Pair__bind_order_l1 p0 p1 1152921504606846976 0

def m_bind_Rank (p0 : (List GPair)) (p1 : (List GPair)) : Option Int :=
  Option.bind (m_slices_CompareFunc_Pairbind_Pair_bind_Pair_bind_Pair__bind_order p0 p1) fun r7_0 =>
  some r7_0

def m_trail_Trail_Add_1 (p0 : GWait) (p1 : GWait) : Option Bool :=
  Option.bind (m_bind_Rank p0.Bound p1.Bound) fun r8_0 =>
  some (decide (r8_0 = 0))

def m_slices_IndexFunc_Wait__trail_Trail_Add_1_l1 (p0 : (List GWait)) (p1c0 : GWait) : Nat → Int → Option Int
  | 0, _ => none
  | fu_1 + 1, y8_1 =>
    cond (decide (y8_1 < ((List.length p0 : Nat) : Int)))
    (Option.bind (geti p0 y8_1) fun x14_2 =>
    Option.bind (m_trail_Trail_Add_1 x14_2 p1c0) fun r16_2 =>
    cond r16_2
    (some y8_1)
    (m_slices_IndexFunc_Wait__trail_Trail_Add_1_l1 p0 p1c0 fu_1 (IntKind.i64.wrap (y8_1 + 1))))
    (some (-1))
def m_slices_IndexFunc_Wait__trail_Trail_Add_1 (p0 : (List GWait)) (p1c0 : GWait) : Option Int :=
  m_slices_IndexFunc_Wait__trail_Trail_Add_1_l1 p0 p1c0 1152921504606846976 0

def m_slices_Grow_uint32 (p1 : Int) : Option (List Int) :=
  cond (decide (p1 < 0))
  (none)
  (cond (decide ((0 : Int) < (IntKind.i64.wrap (p1 - 0))))
  (Option.bind (mkl (IntKind.i64.wrap (p1 - 0)) (0 : Int)) fun a22_1 =>
  chk (0 < Int.toNat (IntKind.i64.wrap (p1 - 0))) (
  Option.bind (cut a22_1 0 0) fun s25_1 =>
  some s25_1))
  (some ([] : List Int)))

def m_slices_Concat_uint32_l6 (p0 : (List (List Int))) : Nat → (List Int) → Int → Option (List Int)
  | 0, _, _ => none
  | fu_6 + 1, y6_6, y27_6 =>
    cond (decide (y27_6 < ((List.length p0 : Nat) : Int)))
    (Option.bind (geti p0 y27_6) fun x29_7 =>
    Option.bind (app y6_6 x29_7) fun a33_8 =>
    m_slices_Concat_uint32_l6 p0 fu_6 a33_8 (IntKind.i64.wrap (y27_6 + 1)))
    (some y6_6)
def m_slices_Concat_uint32_l1 (p0 : (List (List Int))) : Nat → Int → Int → Option (List Int)
  | 0, _, _ => none
  | fu_1 + 1, y3_1, y11_1 =>
    cond (decide (y11_1 < ((List.length p0 : Nat) : Int)))
    (Option.bind (geti p0 y11_1) fun x13_2 =>
    cond (decide ((IntKind.i64.wrap (y3_1 + ((List.length x13_2 : Nat) : Int))) < 0))
    (none)
    (m_slices_Concat_uint32_l1 p0 fu_1 (IntKind.i64.wrap (y3_1 + ((List.length x13_2 : Nat) : Int))) (IntKind.i64.wrap (y11_1 + 1))))
    (Option.bind (m_slices_Grow_uint32 y3_1) fun r24_4 =>
    m_slices_Concat_uint32_l6 p0 1152921504606846976 r24_4 0)
def m_slices_Concat_uint32 (p0 : (List (List Int))) : Option (List Int) :=
  m_slices_Concat_uint32_l1 p0 1152921504606846976 0 0

def m_math_bits_Len64_j2 (y0_2 : Int) (y2_2 : Int) : Option Int :=
  Option.bind (geti ([0, 1, 2, 2, 3, 3, 3, 3, 4, 4, 4, 4, 4, 4, 4, 4, 5, 5, 5, 5, 5, 5, 5, 5, 5, 5, 5, 5, 5, 5, 5, 5, 6, 6, 6, 6, 6, 6, 6, 6, 6, 6, 6, 6, 6, 6, 6, 6, 6, 6, 6, 6, 6, 6, 6, 6, 6, 6, 6, 6, 6, 6, 6, 6, 7, 7, 7, 7, 7, 7, 7, 7, 7, 7, 7, 7, 7, 7, 7, 7, 7, 7, 7, 7, 7, 7, 7, 7, 7, 7, 7, 7, 7, 7, 7, 7, 7, 7, 7, 7, 7, 7, 7, 7, 7, 7, 7, 7, 7, 7, 7, 7, 7, 7, 7, 7, 7, 7, 7, 7, 7, 7, 7, 7, 7, 7, 7, 7, 8, 8, 8, 8, 8, 8, 8, 8, 8, 8, 8, 8, 8, 8, 8, 8, 8, 8, 8, 8, 8, 8, 8, 8, 8, 8, 8, 8, 8, 8, 8, 8, 8, 8, 8, 8, 8, 8, 8, 8, 8, 8, 8, 8, 8, 8, 8, 8, 8, 8, 8, 8, 8, 8, 8, 8, 8, 8, 8, 8, 8, 8, 8, 8, 8, 8, 8, 8, 8, 8, 8, 8, 8, 8, 8, 8, 8, 8, 8, 8, 8, 8, 8, 8, 8, 8, 8, 8, 8, 8, 8, 8, 8, 8, 8, 8, 8, 8, 8, 8, 8, 8, 8, 8, 8, 8, 8, 8, 8, 8, 8, 8, 8, 8, 8, 8, 8, 8, 8, 8, 8, 8, 8, 8, 8, 8, 8, 8] : List UInt8) (((toU8 y0_2).toNat : Nat) : Int)) fun x22_3 =>
  some (IntKind.i64.wrap (y2_2 + ((x22_3.toNat : Nat) : Int)))
def m_math_bits_Len64_j1 (y0_1 : Int) (y2_1 : Int) : Option Int :=
  cond (decide ((256 : Int) ≤ y0_1))
  (m_math_bits_Len64_j2  (Int.fdiv y0_1 (2 ^ 8)) (IntKind.i64.wrap (y2_1 + 8)))
  (m_math_bits_Len64_j2  y0_1 y2_1)
def m_math_bits_Len64_j0 (y0_0 : Int) (y2_0 : Int) : Option Int :=
  cond (decide ((65536 : Int) ≤ y0_0))
  (m_math_bits_Len64_j1  (Int.fdiv y0_0 (2 ^ 16)) (IntKind.i64.wrap (y2_0 + 16)))
  (m_math_bits_Len64_j1  y0_0 y2_0)
def m_math_bits_Len64 (p0 : Int) : Option Int :=
  cond (decide ((4294967296 : Int) ≤ p0))
  (m_math_bits_Len64_j0  (Int.fdiv p0 (2 ^ 32)) 32)
  (m_math_bits_Len64_j0  p0 0)

def m_math_bits_Len (p0 : Int) : Option Int :=
  Option.bind (m_math_bits_Len64 p0) fun r7_0 =>
  some r7_0

def m_cmp_isNaN_uint32 (p0 : Int) : Option Bool :=
  some (decide (p0 ≠ p0))

def m_cmp_Less_uint32 (p0 : Int) (p1 : Int) : Option Bool :=
  Option.bind (m_cmp_isNaN_uint32 p0) fun r6_0 =>
  cond r6_0
  (Option.bind (m_cmp_isNaN_uint32 p1) fun r9_0 =>
  cond (!r9_0)
  (some true)
  (some (decide (p0 < p1))))
  (some (decide (p0 < p1)))

def m_slices_insertionSortOrdered_uint32_l1 (p1 : Int) (y6_0 : Int) (k_m_slices_insertionSortOrdered_uint32_l0 : (List Int) → Int → Option (List Int)) : Nat → (List Int) → Int → Option (List Int)
  | 0, _, _ => none
  | fu_1 + 1, y0_1, y7_1 =>
    cond (decide (p1 < y7_1))
    (Option.bind (geti y0_1 y7_1) fun x22_2 =>
    Option.bind (geti y0_1 (IntKind.i64.wrap (y7_1 - 1))) fun x27_2 =>
    Option.bind (m_cmp_Less_uint32 x22_2 x27_2) fun r29_2 =>
    cond r29_2
    (Option.bind (geti y0_1 (IntKind.i64.wrap (y7_1 - 1))) fun x41_3 =>
    Option.bind (geti y0_1 y7_1) fun x45_3 =>
    Option.bind (geti y0_1 y7_1) fun x47_3 =>
    Option.bind (geti (List.set y0_1 (Int.toNat y7_1) x41_3) (IntKind.i64.wrap (y7_1 - 1))) fun x48_3 =>
    m_slices_insertionSortOrdered_uint32_l1 p1 y6_0 k_m_slices_insertionSortOrdered_uint32_l0 fu_1 (List.set (List.set y0_1 (Int.toNat y7_1) x41_3) (Int.toNat (IntKind.i64.wrap (y7_1 - 1))) x45_3) (IntKind.i64.wrap (y7_1 - 1)))
    (k_m_slices_insertionSortOrdered_uint32_l0 y0_1 (IntKind.i64.wrap (y6_0 + 1))))
    (k_m_slices_insertionSortOrdered_uint32_l0 y0_1 (IntKind.i64.wrap (y6_0 + 1)))
def m_slices_insertionSortOrdered_uint32_l0 (p1 : Int) (p2 : Int) : Nat → (List Int) → Int → Option (List Int)
  | 0, _, _ => none
  | fu_0 + 1, y0_0, y6_0 =>
    cond (decide (y6_0 < p2))
    (m_slices_insertionSortOrdered_uint32_l1 p1 y6_0 (fun y0_0 y6_0 => m_slices_insertionSortOrdered_uint32_l0 p1 p2 fu_0 y0_0 y6_0) 1152921504606846976 y0_0 y6_0)
    (some y0_0)
def m_slices_insertionSortOrdered_uint32 (p0 : (List Int)) (p1 : Int) (p2 : Int) : Option (List Int) :=
  m_slices_insertionSortOrdered_uint32_l0 p1 p2 1152921504606846976 p0 (IntKind.i64.wrap (p1 + 1))

def m_slices_siftDownOrdered_uint32_j2 (p3 : Int) (y0_0 : List Int) (y8_0 : Int) (k_m_slices_siftDownOrdered_uint32_l0 : (List Int) → Int → Option (List Int)) (y9_2 : Int) : Option (List Int) :=
  Option.bind (geti y0_0 (IntKind.i64.wrap (p3 + y8_0))) fun x43_3 =>
  Option.bind (geti y0_0 (IntKind.i64.wrap (p3 + y9_2))) fun x49_3 =>
  Option.bind (m_cmp_Less_uint32 x43_3 x49_3) fun r51_3 =>
  cond (!r51_3)
  (some y0_0)
  (Option.bind (geti y0_0 (IntKind.i64.wrap (p3 + y9_2))) fun x65_4 =>
  Option.bind (geti y0_0 (IntKind.i64.wrap (p3 + y8_0))) fun x71_4 =>
  Option.bind (geti y0_0 (IntKind.i64.wrap (p3 + y8_0))) fun x73_4 =>
  Option.bind (geti (List.set y0_0 (Int.toNat (IntKind.i64.wrap (p3 + y8_0))) x65_4) (IntKind.i64.wrap (p3 + y9_2))) fun x74_4 =>
  k_m_slices_siftDownOrdered_uint32_l0 (List.set (List.set y0_0 (Int.toNat (IntKind.i64.wrap (p3 + y8_0))) x65_4) (Int.toNat (IntKind.i64.wrap (p3 + y9_2))) x71_4) y9_2)
def m_slices_siftDownOrdered_uint32_l0 (p2 : Int) (p3 : Int) : Nat → (List Int) → Int → Option (List Int)
  | 0, _, _ => none
  | fu_0 + 1, y0_0, y8_0 =>
    cond (decide (p2 ≤ (IntKind.i64.wrap ((IntKind.i64.wrap (2 * y8_0)) + 1))))
    (some y0_0)
    (cond (decide ((IntKind.i64.wrap ((IntKind.i64.wrap ((IntKind.i64.wrap (2 * y8_0)) + 1)) + 1)) < p2))
    (Option.bind (geti y0_0 (IntKind.i64.wrap (p3 + (IntKind.i64.wrap ((IntKind.i64.wrap (2 * y8_0)) + 1))))) fun x26_1 =>
    Option.bind (geti y0_0 (IntKind.i64.wrap ((IntKind.i64.wrap (p3 + (IntKind.i64.wrap ((IntKind.i64.wrap (2 * y8_0)) + 1)))) + 1))) fun x33_1 =>
    Option.bind (m_cmp_Less_uint32 x26_1 x33_1) fun r35_1 =>
    cond r35_1
    (m_slices_siftDownOrdered_uint32_j2 p3 y0_0 y8_0 (fun y0_0 y8_0 => m_slices_siftDownOrdered_uint32_l0 p2 p3 fu_0 y0_0 y8_0) (IntKind.i64.wrap ((IntKind.i64.wrap ((IntKind.i64.wrap (2 * y8_0)) + 1)) + 1)))
    (m_slices_siftDownOrdered_uint32_j2 p3 y0_0 y8_0 (fun y0_0 y8_0 => m_slices_siftDownOrdered_uint32_l0 p2 p3 fu_0 y0_0 y8_0) (IntKind.i64.wrap ((IntKind.i64.wrap (2 * y8_0)) + 1))))
    (m_slices_siftDownOrdered_uint32_j2 p3 y0_0 y8_0 (fun y0_0 y8_0 => m_slices_siftDownOrdered_uint32_l0 p2 p3 fu_0 y0_0 y8_0) (IntKind.i64.wrap ((IntKind.i64.wrap (2 * y8_0)) + 1))))
def m_slices_siftDownOrdered_uint32 (p0 : (List Int)) (p1 : Int) (p2 : Int) (p3 : Int) : Option (List Int) :=
  m_slices_siftDownOrdered_uint32_l0 p2 p3 1152921504606846976 p0 p1

def m_slices_heapSortOrdered_uint32_l2 (p1 : Int) : Nat → (List Int) → Int → Option (List Int)
  | 0, _, _ => none
  | fu_2 + 1, y0_2, y10_2 =>
    cond (decide ((0 : Int) ≤ y10_2))
    (Option.bind (geti y0_2 (IntKind.i64.wrap (p1 + y10_2))) fun x43_3 =>
    Option.bind (geti y0_2 p1) fun x47_3 =>
    Option.bind (geti y0_2 p1) fun x49_3 =>
    Option.bind (geti (List.set y0_2 (Int.toNat p1) x43_3) (IntKind.i64.wrap (p1 + y10_2))) fun x50_3 =>
    Option.bind (m_slices_siftDownOrdered_uint32 (List.set (List.set y0_2 (Int.toNat p1) x43_3) (Int.toNat (IntKind.i64.wrap (p1 + y10_2))) x47_3) 0 y10_2 p1) fun r55_4 =>
    m_slices_heapSortOrdered_uint32_l2 p1 fu_2 r55_4 (IntKind.i64.wrap (y10_2 - 1)))
    (some y0_2)
def m_slices_heapSortOrdered_uint32_l0 (p1 : Int) (p2 : Int) : Nat → (List Int) → Int → Option (List Int)
  | 0, _, _ => none
  | fu_0 + 1, y0_0, y9_0 =>
    cond (decide ((0 : Int) ≤ y9_0))
    (Option.bind (m_slices_siftDownOrdered_uint32 y0_0 y9_0 (IntKind.i64.wrap (p2 - p1)) p1) fun r26_1 =>
    m_slices_heapSortOrdered_uint32_l0 p1 p2 fu_0 r26_1 (IntKind.i64.wrap (y9_0 - 1)))
    (m_slices_heapSortOrdered_uint32_l2 p1 1152921504606846976 y0_0 (IntKind.i64.wrap ((IntKind.i64.wrap (p2 - p1)) - 1)))
def m_slices_heapSortOrdered_uint32 (p0 : (List Int)) (p1 : Int) (p2 : Int) : Option (List Int) :=
  m_slices_heapSortOrdered_uint32_l0 p1 p2 1152921504606846976 p0 (IntKind.i64.wrap (Int.tdiv (IntKind.i64.wrap ((IntKind.i64.wrap (p2 - p1)) - 1)) 2))

def m_slices_order2Ordered_uint32 (p0 : (List Int)) (p1 : Int) (p2 : Int) (p3 : Int) : Option (Int × Int × Int) :=
  Option.bind (geti p0 p2) fun x12_0 =>
  Option.bind (geti p0 p1) fun x16_0 =>
  Option.bind (m_cmp_Less_uint32 x12_0 x16_0) fun r18_0 =>
  cond r18_0
  (some (p2, p1, (IntKind.i64.wrap (p3 + 1))))
  (some (p1, p2, p3))

def m_slices_medianOrdered_uint32 (p0 : (List Int)) (p1 : Int) (p2 : Int) (p3 : Int) (p4 : Int) : Option (Int × Int) :=
  Option.bind (m_slices_order2Ordered_uint32 p0 p1 p2 p4) fun r16_0 =>
  Option.bind (m_slices_order2Ordered_uint32 p0 r16_0.2.1 p3 r16_0.2.2) fun r24_1 =>
  Option.bind (m_slices_order2Ordered_uint32 p0 r16_0.1 r24_1.1 r24_1.2.2) fun r32_2 =>
  some (r32_2.2.1, r32_2.2.2)

def m_slices_medianAdjacentOrdered_uint32 (p0 : (List Int)) (p1 : Int) (p2 : Int) : Option (Int × Int) :=
  Option.bind (m_slices_medianOrdered_uint32 p0 (IntKind.i64.wrap (p1 - 1)) p1 (IntKind.i64.wrap (p1 + 1)) p2) fun r14_0 =>
  some (r14_0.1, r14_0.2)

def m_slices_choosePivotOrdered_uint32_j7 (y9_d_7 : Int) (y11_7 : Int) : Option (Int × Int) :=
  cond (decide (y9_d_7 = 0))
  (some (y11_7, 1))
  (cond (decide (y9_d_7 = 12))
  (some (y11_7, 2))
  (some (y11_7, 0)))
def m_slices_choosePivotOrdered_uint32_j6 (p0 : (List Int)) (y9_d_6 : Int) (y10_6 : Int) (y11_6 : Int) (y12_6 : Int) : Option (Int × Int) :=
  Option.bind (m_slices_medianOrdered_uint32 p0 y10_6 y11_6 y12_6 y9_d_6) fun r48_6 =>
  m_slices_choosePivotOrdered_uint32_j7  r48_6.2 r48_6.1
def m_slices_choosePivotOrdered_uint32 (p0 : (List Int)) (p1 : Int) (p2 : Int) : Option (Int × Int) :=
  Option.bind (some ((IntKind.i64.wrap (p1 + (IntKind.i64.wrap ((IntKind.i64.wrap (Int.tdiv (IntKind.i64.wrap (p2 - p1)) 4)) * 1)))))) fun v20_0 =>
  Option.bind (some ((IntKind.i64.wrap (p1 + (IntKind.i64.wrap ((IntKind.i64.wrap (Int.tdiv (IntKind.i64.wrap (p2 - p1)) 4)) * 2)))))) fun v25_1 =>
  Option.bind (some ((IntKind.i64.wrap (p1 + (IntKind.i64.wrap ((IntKind.i64.wrap (Int.tdiv (IntKind.i64.wrap (p2 - p1)) 4)) * 3)))))) fun v30_2 =>
  cond (decide ((8 : Int) ≤ (IntKind.i64.wrap (p2 - p1))))
  (cond (decide ((50 : Int) ≤ (IntKind.i64.wrap (p2 - p1))))
  (Option.bind (m_slices_medianAdjacentOrdered_uint32 p0 v20_0 0) fun r37_3 =>
  Option.bind (m_slices_medianAdjacentOrdered_uint32 p0 v25_1 r37_3.2) fun r40_4 =>
  Option.bind (m_slices_medianAdjacentOrdered_uint32 p0 v30_2 r40_4.2) fun r43_5 =>
  m_slices_choosePivotOrdered_uint32_j6 p0 r43_5.2 r37_3.1 r40_4.1 r43_5.1)
  (m_slices_choosePivotOrdered_uint32_j6 p0 0 v20_0 v25_1 v30_2))
  (m_slices_choosePivotOrdered_uint32_j7  0 v25_1)

def m_slices_reverseRangeOrdered_uint32_l0 : Nat → (List Int) → Int → Int → Option (List Int)
  | 0, _, _, _ => none
  | fu_0 + 1, y0_0, y6_0, y7_0 =>
    cond (decide (y6_0 < y7_0))
    (Option.bind (geti y0_0 y7_0) fun x20_1 =>
    Option.bind (geti y0_0 y6_0) fun x24_1 =>
    Option.bind (geti y0_0 y6_0) fun x26_1 =>
    Option.bind (geti (List.set y0_0 (Int.toNat y6_0) x20_1) y7_0) fun x27_1 =>
    m_slices_reverseRangeOrdered_uint32_l0 fu_0 (List.set (List.set y0_0 (Int.toNat y6_0) x20_1) (Int.toNat y7_0) x24_1) (IntKind.i64.wrap (y6_0 + 1)) (IntKind.i64.wrap (y7_0 - 1)))
    (some y0_0)
def m_slices_reverseRangeOrdered_uint32 (p0 : (List Int)) (p1 : Int) (p2 : Int) : Option (List Int) :=
  m_slices_reverseRangeOrdered_uint32_l0  1152921504606846976 p0 p1 (IntKind.i64.wrap (p2 - 1))

def m_slices_partialInsertionSortOrdered_uint32_l9 (p2 : Int) (y7_3 : Int) (y8_0 : Int) (k_m_slices_partialInsertionSortOrdered_uint32_l0 : (List Int) → Int → Int → Option (Bool × (List Int))) : Nat → (List Int) → Int → Option (Bool × (List Int))
  | 0, _, _ => none
  | fu_9 + 1, y0_9, y10_9 =>
    cond (decide (y10_9 < p2))
    (Option.bind (geti y0_9 y10_9) fun x108_10 =>
    Option.bind (geti y0_9 (IntKind.i64.wrap (y10_9 - 1))) fun x113_10 =>
    Option.bind (m_cmp_Less_uint32 x108_10 x113_10) fun r115_10 =>
    cond (!r115_10)
    (k_m_slices_partialInsertionSortOrdered_uint32_l0 y0_9 y7_3 (IntKind.i64.wrap (y8_0 + 1)))
    (Option.bind (geti y0_9 (IntKind.i64.wrap (y10_9 - 1))) fun x125_11 =>
    Option.bind (geti y0_9 y10_9) fun x129_11 =>
    Option.bind (geti y0_9 y10_9) fun x131_11 =>
    Option.bind (geti (List.set y0_9 (Int.toNat y10_9) x125_11) (IntKind.i64.wrap (y10_9 - 1))) fun x132_11 =>
    m_slices_partialInsertionSortOrdered_uint32_l9 p2 y7_3 y8_0 k_m_slices_partialInsertionSortOrdered_uint32_l0 fu_9 (List.set (List.set y0_9 (Int.toNat y10_9) x125_11) (Int.toNat (IntKind.i64.wrap (y10_9 - 1))) x129_11) (IntKind.i64.wrap (y10_9 + 1))))
    (k_m_slices_partialInsertionSortOrdered_uint32_l0 y0_9 y7_3 (IntKind.i64.wrap (y8_0 + 1)))
def m_slices_partialInsertionSortOrdered_uint32_j8 (p2 : Int) (y7_3 : Int) (y8_0 : Int) (k_m_slices_partialInsertionSortOrdered_uint32_l0 : (List Int) → Int → Int → Option (Bool × (List Int))) (y0_8 : List Int) : Option (Bool × (List Int)) :=
  cond (decide ((2 : Int) ≤ (IntKind.i64.wrap (p2 - y7_3))))
  (m_slices_partialInsertionSortOrdered_uint32_l9 p2 y7_3 y8_0 k_m_slices_partialInsertionSortOrdered_uint32_l0 1152921504606846976 y0_8 (IntKind.i64.wrap (y7_3 + 1)))
  (k_m_slices_partialInsertionSortOrdered_uint32_l0 y0_8 y7_3 (IntKind.i64.wrap (y8_0 + 1)))
def m_slices_partialInsertionSortOrdered_uint32_l5 (p2 : Int) (y7_3 : Int) (y8_0 : Int) (k_m_slices_partialInsertionSortOrdered_uint32_l0 : (List Int) → Int → Int → Option (Bool × (List Int))) : Nat → (List Int) → Int → Option (Bool × (List Int))
  | 0, _, _ => none
  | fu_5 + 1, y0_5, y9_5 =>
    cond (decide ((1 : Int) ≤ y9_5))
    (Option.bind (geti y0_5 y9_5) fun x70_6 =>
    Option.bind (geti y0_5 (IntKind.i64.wrap (y9_5 - 1))) fun x75_6 =>
    Option.bind (m_cmp_Less_uint32 x70_6 x75_6) fun r77_6 =>
    cond (!r77_6)
    (m_slices_partialInsertionSortOrdered_uint32_j8 p2 y7_3 y8_0 k_m_slices_partialInsertionSortOrdered_uint32_l0 y0_5)
    (Option.bind (geti y0_5 (IntKind.i64.wrap (y9_5 - 1))) fun x87_7 =>
    Option.bind (geti y0_5 y9_5) fun x91_7 =>
    Option.bind (geti y0_5 y9_5) fun x93_7 =>
    Option.bind (geti (List.set y0_5 (Int.toNat y9_5) x87_7) (IntKind.i64.wrap (y9_5 - 1))) fun x94_7 =>
    m_slices_partialInsertionSortOrdered_uint32_l5 p2 y7_3 y8_0 k_m_slices_partialInsertionSortOrdered_uint32_l0 fu_5 (List.set (List.set y0_5 (Int.toNat y9_5) x87_7) (Int.toNat (IntKind.i64.wrap (y9_5 - 1))) x91_7) (IntKind.i64.wrap (y9_5 - 1))))
    (m_slices_partialInsertionSortOrdered_uint32_j8 p2 y7_3 y8_0 k_m_slices_partialInsertionSortOrdered_uint32_l0 y0_5)
def m_slices_partialInsertionSortOrdered_uint32_j3 (p1 : Int) (p2 : Int) (y0_0 : List Int) (y8_0 : Int) (k_m_slices_partialInsertionSortOrdered_uint32_l0 : (List Int) → Int → Int → Option (Bool × (List Int))) (y7_3 : Int) : Option (Bool × (List Int)) :=
  cond (decide (y7_3 = p2))
  (some (true, y0_0))
  (cond (decide ((IntKind.i64.wrap (p2 - p1)) < 50))
  (some (false, y0_0))
  (Option.bind (geti y0_0 (IntKind.i64.wrap (y7_3 - 1))) fun x50_4 =>
  Option.bind (geti y0_0 y7_3) fun x54_4 =>
  Option.bind (geti y0_0 y7_3) fun x56_4 =>
  Option.bind (geti (List.set y0_0 (Int.toNat y7_3) x50_4) (IntKind.i64.wrap (y7_3 - 1))) fun x57_4 =>
  cond (decide ((2 : Int) ≤ (IntKind.i64.wrap (y7_3 - p1))))
  (m_slices_partialInsertionSortOrdered_uint32_l5 p2 y7_3 y8_0 k_m_slices_partialInsertionSortOrdered_uint32_l0 1152921504606846976 (List.set (List.set y0_0 (Int.toNat y7_3) x50_4) (Int.toNat (IntKind.i64.wrap (y7_3 - 1))) x54_4) (IntKind.i64.wrap (y7_3 - 1)))
  (m_slices_partialInsertionSortOrdered_uint32_j8 p2 y7_3 y8_0 k_m_slices_partialInsertionSortOrdered_uint32_l0 (List.set (List.set y0_0 (Int.toNat y7_3) x50_4) (Int.toNat (IntKind.i64.wrap (y7_3 - 1))) x54_4))))
def m_slices_partialInsertionSortOrdered_uint32_l1 (p1 : Int) (p2 : Int) (y0_0 : List Int) (y8_0 : Int) (k_m_slices_partialInsertionSortOrdered_uint32_l0 : (List Int) → Int → Int → Option (Bool × (List Int))) : Nat → Int → Option (Bool × (List Int))
  | 0, _ => none
  | fu_1 + 1, y7_1 =>
    cond (decide (y7_1 < p2))
    (Option.bind (geti y0_0 y7_1) fun x23_2 =>
    Option.bind (geti y0_0 (IntKind.i64.wrap (y7_1 - 1))) fun x28_2 =>
    Option.bind (m_cmp_Less_uint32 x23_2 x28_2) fun r30_2 =>
    cond (!r30_2)
    (m_slices_partialInsertionSortOrdered_uint32_l1 p1 p2 y0_0 y8_0 k_m_slices_partialInsertionSortOrdered_uint32_l0 fu_1 (IntKind.i64.wrap (y7_1 + 1)))
    (m_slices_partialInsertionSortOrdered_uint32_j3 p1 p2 y0_0 y8_0 k_m_slices_partialInsertionSortOrdered_uint32_l0 y7_1))
    (m_slices_partialInsertionSortOrdered_uint32_j3 p1 p2 y0_0 y8_0 k_m_slices_partialInsertionSortOrdered_uint32_l0 y7_1)
def m_slices_partialInsertionSortOrdered_uint32_l0 (p1 : Int) (p2 : Int) : Nat → (List Int) → Int → Int → Option (Bool × (List Int))
  | 0, _, _, _ => none
  | fu_0 + 1, y0_0, y7_0, y8_0 =>
    cond (decide (y8_0 < 5))
    (m_slices_partialInsertionSortOrdered_uint32_l1 p1 p2 y0_0 y8_0 (fun y0_0 y7_0 y8_0 => m_slices_partialInsertionSortOrdered_uint32_l0 p1 p2 fu_0 y0_0 y7_0 y8_0) 1152921504606846976 y7_0)
    (some (false, y0_0))
def m_slices_partialInsertionSortOrdered_uint32 (p0 : (List Int)) (p1 : Int) (p2 : Int) : Option (Bool × (List Int)) :=
  m_slices_partialInsertionSortOrdered_uint32_l0 p1 p2 1152921504606846976 p0 (IntKind.i64.wrap (p1 + 1)) 0

def m_slices_partitionEqualOrdered_uint32_j7 (y0_1 : List Int) (y9_4 : Int) (k_m_slices_partitionEqualOrdered_uint32_l1 : (List Int) → Int → Int → Option (Int × (List Int))) (y10_7 : Int) : Option (Int × (List Int)) :=
  cond (decide (y10_7 < y9_4))
  (some (y9_4, y0_1))
  (Option.bind (geti y0_1 y10_7) fun x71_8 =>
  Option.bind (geti y0_1 y9_4) fun x75_8 =>
  Option.bind (geti y0_1 y9_4) fun x77_8 =>
  Option.bind (geti (List.set y0_1 (Int.toNat y9_4) x71_8) y10_7) fun x78_8 =>
  k_m_slices_partitionEqualOrdered_uint32_l1 (List.set (List.set y0_1 (Int.toNat y9_4) x71_8) (Int.toNat y10_7) x75_8) (IntKind.i64.wrap (y9_4 + 1)) (IntKind.i64.wrap (y10_7 - 1)))
def m_slices_partitionEqualOrdered_uint32_l5 (p1 : Int) (y0_1 : List Int) (y9_4 : Int) (k_m_slices_partitionEqualOrdered_uint32_l1 : (List Int) → Int → Int → Option (Int × (List Int))) : Nat → Int → Option (Int × (List Int))
  | 0, _ => none
  | fu_5 + 1, y10_5 =>
    cond (decide (y9_4 ≤ y10_5))
    (Option.bind (geti y0_1 p1) fun x52_6 =>
    Option.bind (geti y0_1 y10_5) fun x56_6 =>
    Option.bind (m_cmp_Less_uint32 x52_6 x56_6) fun r58_6 =>
    cond r58_6
    (m_slices_partitionEqualOrdered_uint32_l5 p1 y0_1 y9_4 k_m_slices_partitionEqualOrdered_uint32_l1 fu_5 (IntKind.i64.wrap (y10_5 - 1)))
    (m_slices_partitionEqualOrdered_uint32_j7 y0_1 y9_4 k_m_slices_partitionEqualOrdered_uint32_l1 y10_5))
    (m_slices_partitionEqualOrdered_uint32_j7 y0_1 y9_4 k_m_slices_partitionEqualOrdered_uint32_l1 y10_5)
def m_slices_partitionEqualOrdered_uint32_j4 (p1 : Int) (y0_1 : List Int) (y10_1 : Int) (k_m_slices_partitionEqualOrdered_uint32_l1 : (List Int) → Int → Int → Option (Int × (List Int))) (y9_4 : Int) : Option (Int × (List Int)) :=
  m_slices_partitionEqualOrdered_uint32_l5 p1 y0_1 y9_4 k_m_slices_partitionEqualOrdered_uint32_l1 1152921504606846976 y10_1
def m_slices_partitionEqualOrdered_uint32_l2 (p1 : Int) (y0_1 : List Int) (y10_1 : Int) (k_m_slices_partitionEqualOrdered_uint32_l1 : (List Int) → Int → Int → Option (Int × (List Int))) : Nat → Int → Option (Int × (List Int))
  | 0, _ => none
  | fu_2 + 1, y9_2 =>
    cond (decide (y9_2 ≤ y10_1))
    (Option.bind (geti y0_1 p1) fun x35_3 =>
    Option.bind (geti y0_1 y9_2) fun x39_3 =>
    Option.bind (m_cmp_Less_uint32 x35_3 x39_3) fun r41_3 =>
    cond (!r41_3)
    (m_slices_partitionEqualOrdered_uint32_l2 p1 y0_1 y10_1 k_m_slices_partitionEqualOrdered_uint32_l1 fu_2 (IntKind.i64.wrap (y9_2 + 1)))
    (m_slices_partitionEqualOrdered_uint32_j4 p1 y0_1 y10_1 k_m_slices_partitionEqualOrdered_uint32_l1 y9_2))
    (m_slices_partitionEqualOrdered_uint32_j4 p1 y0_1 y10_1 k_m_slices_partitionEqualOrdered_uint32_l1 y9_2)
def m_slices_partitionEqualOrdered_uint32_l1 (p1 : Int) : Nat → (List Int) → Int → Int → Option (Int × (List Int))
  | 0, _, _, _ => none
  | fu_1 + 1, y0_1, y9_1, y10_1 =>
    m_slices_partitionEqualOrdered_uint32_l2 p1 y0_1 y10_1 (fun y0_1 y9_1 y10_1 => m_slices_partitionEqualOrdered_uint32_l1 p1 fu_1 y0_1 y9_1 y10_1) 1152921504606846976 y9_1
def m_slices_partitionEqualOrdered_uint32 (p0 : (List Int)) (p1 : Int) (p2 : Int) (p3 : Int) : Option (Int × (List Int)) :=
  Option.bind (geti p0 p3) fun x17_0 =>
  Option.bind (geti p0 p1) fun x21_0 =>
  Option.bind (geti p0 p1) fun x23_0 =>
  Option.bind (geti (List.set p0 (Int.toNat p1) x17_0) p3) fun x24_0 =>
  m_slices_partitionEqualOrdered_uint32_l1 p1 1152921504606846976 (List.set (List.set p0 (Int.toNat p1) x17_0) (Int.toNat p3) x21_0) (IntKind.i64.wrap (p1 + 1)) (IntKind.i64.wrap (p2 - 1))

def m_slices_partitionOrdered_uint32_j15 (p1 : Int) (y0_9 : List Int) (y10_12 : Int) (k_m_slices_partitionOrdered_uint32_l9 : (List Int) → Int → Int → Option (Int × Bool × (List Int))) (y11_15 : Int) : Option (Int × Bool × (List Int)) :=
  cond (decide (y11_15 < y10_12))
  (Option.bind (geti y0_9 p1) fun x159_17 =>
  Option.bind (geti y0_9 y11_15) fun x163_17 =>
  Option.bind (geti y0_9 y11_15) fun x165_17 =>
  Option.bind (geti (List.set y0_9 (Int.toNat y11_15) x159_17) p1) fun x166_17 =>
  some (y11_15, false, (List.set (List.set y0_9 (Int.toNat y11_15) x159_17) (Int.toNat p1) x163_17)))
  (Option.bind (geti y0_9 y11_15) fun x141_16 =>
  Option.bind (geti y0_9 y10_12) fun x145_16 =>
  Option.bind (geti y0_9 y10_12) fun x147_16 =>
  Option.bind (geti (List.set y0_9 (Int.toNat y10_12) x141_16) y11_15) fun x148_16 =>
  k_m_slices_partitionOrdered_uint32_l9 (List.set (List.set y0_9 (Int.toNat y10_12) x141_16) (Int.toNat y11_15) x145_16) (IntKind.i64.wrap (y10_12 + 1)) (IntKind.i64.wrap (y11_15 - 1)))
def m_slices_partitionOrdered_uint32_l13 (p1 : Int) (y0_9 : List Int) (y10_12 : Int) (k_m_slices_partitionOrdered_uint32_l9 : (List Int) → Int → Int → Option (Int × Bool × (List Int))) : Nat → Int → Option (Int × Bool × (List Int))
  | 0, _ => none
  | fu_13 + 1, y11_13 =>
    cond (decide (y10_12 ≤ y11_13))
    (Option.bind (geti y0_9 y11_13) fun x121_14 =>
    Option.bind (geti y0_9 p1) fun x125_14 =>
    Option.bind (m_cmp_Less_uint32 x121_14 x125_14) fun r127_14 =>
    cond (!r127_14)
    (m_slices_partitionOrdered_uint32_l13 p1 y0_9 y10_12 k_m_slices_partitionOrdered_uint32_l9 fu_13 (IntKind.i64.wrap (y11_13 - 1)))
    (m_slices_partitionOrdered_uint32_j15 p1 y0_9 y10_12 k_m_slices_partitionOrdered_uint32_l9 y11_13))
    (m_slices_partitionOrdered_uint32_j15 p1 y0_9 y10_12 k_m_slices_partitionOrdered_uint32_l9 y11_13)
def m_slices_partitionOrdered_uint32_j12 (p1 : Int) (y0_9 : List Int) (y11_9 : Int) (k_m_slices_partitionOrdered_uint32_l9 : (List Int) → Int → Int → Option (Int × Bool × (List Int))) (y10_12 : Int) : Option (Int × Bool × (List Int)) :=
  m_slices_partitionOrdered_uint32_l13 p1 y0_9 y10_12 k_m_slices_partitionOrdered_uint32_l9 1152921504606846976 y11_9
def m_slices_partitionOrdered_uint32_l10 (p1 : Int) (y0_9 : List Int) (y11_9 : Int) (k_m_slices_partitionOrdered_uint32_l9 : (List Int) → Int → Int → Option (Int × Bool × (List Int))) : Nat → Int → Option (Int × Bool × (List Int))
  | 0, _ => none
  | fu_10 + 1, y10_10 =>
    cond (decide (y10_10 ≤ y11_9))
    (Option.bind (geti y0_9 y10_10) fun x105_11 =>
    Option.bind (geti y0_9 p1) fun x109_11 =>
    Option.bind (m_cmp_Less_uint32 x105_11 x109_11) fun r111_11 =>
    cond r111_11
    (m_slices_partitionOrdered_uint32_l10 p1 y0_9 y11_9 k_m_slices_partitionOrdered_uint32_l9 fu_10 (IntKind.i64.wrap (y10_10 + 1)))
    (m_slices_partitionOrdered_uint32_j12 p1 y0_9 y11_9 k_m_slices_partitionOrdered_uint32_l9 y10_10))
    (m_slices_partitionOrdered_uint32_j12 p1 y0_9 y11_9 k_m_slices_partitionOrdered_uint32_l9 y10_10)
def m_slices_partitionOrdered_uint32_l9 (p1 : Int) : Nat → (List Int) → Int → Int → Option (Int × Bool × (List Int))
  | 0, _, _, _ => none
  | fu_9 + 1, y0_9, y10_9, y11_9 =>
    m_slices_partitionOrdered_uint32_l10 p1 y0_9 y11_9 (fun y0_9 y10_9 y11_9 => m_slices_partitionOrdered_uint32_l9 p1 fu_9 y0_9 y10_9 y11_9) 1152921504606846976 y10_9
def m_slices_partitionOrdered_uint32_j6 (p0 : (List Int)) (p1 : Int) (p3 : Int) (x18_0 : Int) (x22_0 : Int) (y10_3 : Int) (y11_6 : Int) : Option (Int × Bool × (List Int)) :=
  cond (decide (y11_6 < y10_3))
  (Option.bind (geti (List.set (List.set p0 (Int.toNat p1) x18_0) (Int.toNat p3) x22_0) p1) fun x72_7 =>
  Option.bind (geti (List.set (List.set p0 (Int.toNat p1) x18_0) (Int.toNat p3) x22_0) y11_6) fun x76_7 =>
  Option.bind (geti (List.set (List.set p0 (Int.toNat p1) x18_0) (Int.toNat p3) x22_0) y11_6) fun x78_7 =>
  Option.bind (geti (List.set (List.set (List.set p0 (Int.toNat p1) x18_0) (Int.toNat p3) x22_0) (Int.toNat y11_6) x72_7) p1) fun x79_7 =>
  some (y11_6, true, (List.set (List.set (List.set (List.set p0 (Int.toNat p1) x18_0) (Int.toNat p3) x22_0) (Int.toNat y11_6) x72_7) (Int.toNat p1) x76_7)))
  (Option.bind (geti (List.set (List.set p0 (Int.toNat p1) x18_0) (Int.toNat p3) x22_0) y11_6) fun x87_8 =>
  Option.bind (geti (List.set (List.set p0 (Int.toNat p1) x18_0) (Int.toNat p3) x22_0) y10_3) fun x91_8 =>
  Option.bind (geti (List.set (List.set p0 (Int.toNat p1) x18_0) (Int.toNat p3) x22_0) y10_3) fun x93_8 =>
  Option.bind (geti (List.set (List.set (List.set p0 (Int.toNat p1) x18_0) (Int.toNat p3) x22_0) (Int.toNat y10_3) x87_8) y11_6) fun x94_8 =>
  m_slices_partitionOrdered_uint32_l9 p1 1152921504606846976 (List.set (List.set (List.set (List.set p0 (Int.toNat p1) x18_0) (Int.toNat p3) x22_0) (Int.toNat y10_3) x87_8) (Int.toNat y11_6) x91_8) (IntKind.i64.wrap (y10_3 + 1)) (IntKind.i64.wrap (y11_6 - 1)))
def m_slices_partitionOrdered_uint32_l4 (p0 : (List Int)) (p1 : Int) (p3 : Int) (x18_0 : Int) (x22_0 : Int) (y10_3 : Int) : Nat → Int → Option (Int × Bool × (List Int))
  | 0, _ => none
  | fu_4 + 1, y11_4 =>
    cond (decide (y10_3 ≤ y11_4))
    (Option.bind (geti (List.set (List.set p0 (Int.toNat p1) x18_0) (Int.toNat p3) x22_0) y11_4) fun x52_5 =>
    Option.bind (geti (List.set (List.set p0 (Int.toNat p1) x18_0) (Int.toNat p3) x22_0) p1) fun x56_5 =>
    Option.bind (m_cmp_Less_uint32 x52_5 x56_5) fun r58_5 =>
    cond (!r58_5)
    (m_slices_partitionOrdered_uint32_l4 p0 p1 p3 x18_0 x22_0 y10_3 fu_4 (IntKind.i64.wrap (y11_4 - 1)))
    (m_slices_partitionOrdered_uint32_j6 p0 p1 p3 x18_0 x22_0 y10_3 y11_4))
    (m_slices_partitionOrdered_uint32_j6 p0 p1 p3 x18_0 x22_0 y10_3 y11_4)
def m_slices_partitionOrdered_uint32_j3 (p0 : (List Int)) (p1 : Int) (p2 : Int) (p3 : Int) (x18_0 : Int) (x22_0 : Int) (y10_3 : Int) : Option (Int × Bool × (List Int)) :=
  m_slices_partitionOrdered_uint32_l4 p0 p1 p3 x18_0 x22_0 y10_3 1152921504606846976 (IntKind.i64.wrap (p2 - 1))
def m_slices_partitionOrdered_uint32_l1 (p0 : (List Int)) (p1 : Int) (p2 : Int) (p3 : Int) (x18_0 : Int) (x22_0 : Int) : Nat → Int → Option (Int × Bool × (List Int))
  | 0, _ => none
  | fu_1 + 1, y10_1 =>
    cond (decide (y10_1 ≤ (IntKind.i64.wrap (p2 - 1))))
    (Option.bind (geti (List.set (List.set p0 (Int.toNat p1) x18_0) (Int.toNat p3) x22_0) y10_1) fun x36_2 =>
    Option.bind (geti (List.set (List.set p0 (Int.toNat p1) x18_0) (Int.toNat p3) x22_0) p1) fun x40_2 =>
    Option.bind (m_cmp_Less_uint32 x36_2 x40_2) fun r42_2 =>
    cond r42_2
    (m_slices_partitionOrdered_uint32_l1 p0 p1 p2 p3 x18_0 x22_0 fu_1 (IntKind.i64.wrap (y10_1 + 1)))
    (m_slices_partitionOrdered_uint32_j3 p0 p1 p2 p3 x18_0 x22_0 y10_1))
    (m_slices_partitionOrdered_uint32_j3 p0 p1 p2 p3 x18_0 x22_0 y10_1)
def m_slices_partitionOrdered_uint32 (p0 : (List Int)) (p1 : Int) (p2 : Int) (p3 : Int) : Option (Int × Bool × (List Int)) :=
  Option.bind (geti p0 p3) fun x18_0 =>
  Option.bind (geti p0 p1) fun x22_0 =>
  Option.bind (geti p0 p1) fun x24_0 =>
  Option.bind (geti (List.set p0 (Int.toNat p1) x18_0) p3) fun x25_0 =>
  m_slices_partitionOrdered_uint32_l1 p0 p1 p2 p3 x18_0 x22_0 1152921504606846976 (IntKind.i64.wrap (p1 + 1))

def m_slices_nextPowerOfTwo (p0 : Int) : Option Int :=
  Option.bind (m_math_bits_Len (IntKind.u64.wrap p0)) fun r5_0 =>
  chk (0 ≤ r5_0 ∧ r5_0 ≤ 64) (
  some (IntKind.u64.wrap (1 * 2 ^ (Int.toNat r5_0))))

def m_slices_xorshift_Next (p0 : Int) : Option (Int × Int) :=
  Option.bind (some ((Int.fdiv (IntKind.u64.wrap (((BitVec.ofInt 64 p0 ^^^ BitVec.ofInt 64 (IntKind.u64.wrap (p0 * 2 ^ 13))).toNat : Int))) (2 ^ 7)))) fun v18_0 =>
  Option.bind (some ((IntKind.u64.wrap (((BitVec.ofInt 64 (IntKind.u64.wrap (((BitVec.ofInt 64 p0 ^^^ BitVec.ofInt 64 (IntKind.u64.wrap (p0 * 2 ^ 13))).toNat : Int))) ^^^ BitVec.ofInt 64 v18_0).toNat : Int))))) fun v19_0 =>
  Option.bind (some ((IntKind.u64.wrap (((BitVec.ofInt 64 v19_0 ^^^ BitVec.ofInt 64 (IntKind.u64.wrap (v19_0 * 2 ^ 17))).toNat : Int))))) fun v28_1 =>
  some (v28_1, v28_1)

def m_slices_breakPatternsOrdered_uint32_j6 (p1 : Int) (r36_5 : (Int × Int)) (y0_3 : List Int) (y9_3 : Int) (k_m_slices_breakPatternsOrdered_uint32_l3 : (List Int) → Int → Int → Option (List Int)) (y10_6 : Int) : Option (List Int) :=
  Option.bind (geti y0_3 (IntKind.i64.wrap (p1 + y10_6))) fun x57_6 =>
  Option.bind (geti y0_3 y9_3) fun x61_6 =>
  Option.bind (geti y0_3 y9_3) fun x63_6 =>
  Option.bind (geti (List.set y0_3 (Int.toNat y9_3) x57_6) (IntKind.i64.wrap (p1 + y10_6))) fun x64_6 =>
  k_m_slices_breakPatternsOrdered_uint32_l3 (List.set (List.set y0_3 (Int.toNat y9_3) x57_6) (Int.toNat (IntKind.i64.wrap (p1 + y10_6))) x61_6) r36_5.2 (IntKind.i64.wrap (y9_3 + 1))
def m_slices_breakPatternsOrdered_uint32_l3 (p1 : Int) (p2 : Int) (r19_1 : Int) : Nat → (List Int) → Int → Int → Option (List Int)
  | 0, _, _, _ => none
  | fu_3 + 1, y0_3, y7_d_3, y9_3 =>
    Option.bind (some ((IntKind.i64.wrap (p1 + (IntKind.i64.wrap ((IntKind.i64.wrap (Int.tdiv (IntKind.i64.wrap (p2 - p1)) 4)) * 2)))))) fun v31_4 =>
    cond (decide (y9_3 ≤ (IntKind.i64.wrap (v31_4 + 1))))
    (Option.bind (m_slices_xorshift_Next y7_d_3) fun r36_5 =>
    Option.bind (some ((IntKind.u64.wrap (((BitVec.ofInt 64 r36_5.1 &&& BitVec.ofInt 64 (IntKind.u64.wrap (r19_1 - 1))).toNat : Int))))) fun v39_5 =>
    cond (decide ((IntKind.i64.wrap (p2 - p1)) ≤ (IntKind.i64.wrap v39_5)))
    (m_slices_breakPatternsOrdered_uint32_j6 p1 r36_5 y0_3 y9_3 (fun y0_3 y7_d_3 y9_3 => m_slices_breakPatternsOrdered_uint32_l3 p1 p2 r19_1 fu_3 y0_3 y7_d_3 y9_3) (IntKind.i64.wrap ((IntKind.i64.wrap v39_5) - (IntKind.i64.wrap (p2 - p1)))))
    (m_slices_breakPatternsOrdered_uint32_j6 p1 r36_5 y0_3 y9_3 (fun y0_3 y7_d_3 y9_3 => m_slices_breakPatternsOrdered_uint32_l3 p1 p2 r19_1 fu_3 y0_3 y7_d_3 y9_3) (IntKind.i64.wrap v39_5)))
    (some y0_3)
def m_slices_breakPatternsOrdered_uint32 (p0 : (List Int)) (p1 : Int) (p2 : Int) : Option (List Int) :=
  cond (decide ((8 : Int) ≤ (IntKind.i64.wrap (p2 - p1))))
  (Option.bind (m_slices_nextPowerOfTwo (IntKind.i64.wrap (p2 - p1))) fun r19_1 =>
  Option.bind (some ((IntKind.i64.wrap (p1 + (IntKind.i64.wrap ((IntKind.i64.wrap (Int.tdiv (IntKind.i64.wrap (p2 - p1)) 4)) * 2)))))) fun v24_2 =>
  m_slices_breakPatternsOrdered_uint32_l3 p1 p2 r19_1 1152921504606846976 p0 (IntKind.u64.wrap (IntKind.i64.wrap (p2 - p1))) (IntKind.i64.wrap (v24_2 - 1)))
  (some p0)

def m_slices_pdqsortOrdered_uint32_j10 (y0_7 : List Int) (y11_5 : Int) (y1_0 : Int) (y2_0 : Int) (y3_15 : Int) (k_m_slices_pdqsortOrdered_uint32_l0 : (List Int) → Int → Int → Int → Bool → Bool → Option (List Int)) (k_rec : (List Int) → Int → Int → Int → Option (List Int)) : Option (List Int) :=
  Option.bind (m_slices_partitionOrdered_uint32 y0_7 y1_0 y2_0 y11_5) fun r99_11 =>
  cond (decide ((IntKind.i64.wrap (r99_11.1 - y1_0)) < (IntKind.i64.wrap (y2_0 - r99_11.1))))
  (Option.bind (some (decide ((IntKind.i64.wrap (Int.tdiv (IntKind.i64.wrap (y2_0 - y1_0)) 8)) ≤ (IntKind.i64.wrap (r99_11.1 - y1_0))))) fun v116_18 =>
  Option.bind (k_rec r99_11.2.2 y1_0 r99_11.1 y3_15) fun r121_12 =>
  k_m_slices_pdqsortOrdered_uint32_l0 r121_12 (IntKind.i64.wrap (r99_11.1 + 1)) y2_0 y3_15 v116_18 r99_11.2.1)
  (Option.bind (some (decide ((IntKind.i64.wrap (Int.tdiv (IntKind.i64.wrap (y2_0 - y1_0)) 8)) ≤ (IntKind.i64.wrap (y2_0 - r99_11.1))))) fun v126_19 =>
  Option.bind (k_rec r99_11.2.2 (IntKind.i64.wrap (r99_11.1 + 1)) y2_0 y3_15) fun r132_13 =>
  k_m_slices_pdqsortOrdered_uint32_l0 r132_13 y1_0 r99_11.1 y3_15 v126_19 r99_11.2.1)
def m_slices_pdqsortOrdered_uint32_j7 (y11_5 : Int) (y1_0 : Int) (y2_0 : Int) (y3_15 : Int) (y8_0 : Bool) (y9_0 : Bool) (k_m_slices_pdqsortOrdered_uint32_l0 : (List Int) → Int → Int → Int → Bool → Bool → Option (List Int)) (k_rec : (List Int) → Int → Int → Int → Option (List Int)) (y0_7 : List Int) : Option (List Int) :=
  cond (decide ((0 : Int) < y1_0))
  (Option.bind (geti y0_7 (IntKind.i64.wrap (y1_0 - 1))) fun x79_8 =>
  Option.bind (geti y0_7 y11_5) fun x83_8 =>
  Option.bind (m_cmp_Less_uint32 x79_8 x83_8) fun r85_8 =>
  cond (!r85_8)
  (Option.bind (m_slices_partitionEqualOrdered_uint32 y0_7 y1_0 y2_0 y11_5) fun r92_9 =>
  k_m_slices_pdqsortOrdered_uint32_l0 r92_9.2 r92_9.1 y2_0 y3_15 y8_0 y9_0)
  (m_slices_pdqsortOrdered_uint32_j10 y0_7 y11_5 y1_0 y2_0 y3_15 k_m_slices_pdqsortOrdered_uint32_l0 k_rec))
  (m_slices_pdqsortOrdered_uint32_j10 y0_7 y11_5 y1_0 y2_0 y3_15 k_m_slices_pdqsortOrdered_uint32_l0 k_rec)
def m_slices_pdqsortOrdered_uint32_j17 (y0_5 : List Int) (y11_5 : Int) (y1_0 : Int) (y2_0 : Int) (y3_15 : Int) (y8_0 : Bool) (y9_0 : Bool) (k_m_slices_pdqsortOrdered_uint32_l0 : (List Int) → Int → Int → Int → Bool → Bool → Option (List Int)) (k_rec : (List Int) → Int → Int → Int → Option (List Int)) : Option (List Int) :=
  m_slices_pdqsortOrdered_uint32_j7 y11_5 y1_0 y2_0 y3_15 y8_0 y9_0 k_m_slices_pdqsortOrdered_uint32_l0 k_rec y0_5
def m_slices_pdqsortOrdered_uint32_j5 (y1_0 : Int) (y2_0 : Int) (y3_15 : Int) (y8_0 : Bool) (y9_0 : Bool) (k_m_slices_pdqsortOrdered_uint32_l0 : (List Int) → Int → Int → Int → Bool → Bool → Option (List Int)) (k_rec : (List Int) → Int → Int → Int → Option (List Int)) (y0_5 : List Int) (y11_5 : Int) (y12_5 : Int) : Option (List Int) :=
  cond y8_0
  (cond y9_0
  (cond (decide (y12_5 = 1))
  (Option.bind (m_slices_partialInsertionSortOrdered_uint32 y0_5 y1_0 y2_0) fun r72_6 =>
  cond r72_6.1
  (some r72_6.2)
  (m_slices_pdqsortOrdered_uint32_j7 y11_5 y1_0 y2_0 y3_15 y8_0 y9_0 k_m_slices_pdqsortOrdered_uint32_l0 k_rec r72_6.2))
  (m_slices_pdqsortOrdered_uint32_j7 y11_5 y1_0 y2_0 y3_15 y8_0 y9_0 k_m_slices_pdqsortOrdered_uint32_l0 k_rec y0_5))
  (m_slices_pdqsortOrdered_uint32_j17 y0_5 y11_5 y1_0 y2_0 y3_15 y8_0 y9_0 k_m_slices_pdqsortOrdered_uint32_l0 k_rec))
  (m_slices_pdqsortOrdered_uint32_j17 y0_5 y11_5 y1_0 y2_0 y3_15 y8_0 y9_0 k_m_slices_pdqsortOrdered_uint32_l0 k_rec)
def m_slices_pdqsortOrdered_uint32_j15 (y1_0 : Int) (y2_0 : Int) (y8_0 : Bool) (y9_0 : Bool) (k_m_slices_pdqsortOrdered_uint32_l0 : (List Int) → Int → Int → Int → Bool → Bool → Option (List Int)) (k_rec : (List Int) → Int → Int → Int → Option (List Int)) (y0_15 : List Int) (y3_15 : Int) : Option (List Int) :=
  Option.bind (m_slices_choosePivotOrdered_uint32 y0_15 y1_0 y2_0) fun r46_3 =>
  cond (decide (r46_3.2 = 2))
  (Option.bind (m_slices_reverseRangeOrdered_uint32 y0_15 y1_0 y2_0) fun r54_4 =>
  m_slices_pdqsortOrdered_uint32_j5 y1_0 y2_0 y3_15 y8_0 y9_0 k_m_slices_pdqsortOrdered_uint32_l0 k_rec r54_4 (IntKind.i64.wrap ((IntKind.i64.wrap (y2_0 - 1)) - (IntKind.i64.wrap (r46_3.1 - y1_0)))) 1)
  (m_slices_pdqsortOrdered_uint32_j5 y1_0 y2_0 y3_15 y8_0 y9_0 k_m_slices_pdqsortOrdered_uint32_l0 k_rec y0_15 r46_3.1 r46_3.2)
def m_slices_pdqsortOrdered_uint32_l0 (k_rec : (List Int) → Int → Int → Int → Option (List Int)) : Nat → (List Int) → Int → Int → Int → Bool → Bool → Option (List Int)
  | 0, _, _, _, _, _, _ => none
  | fu_0 + 1, y0_0, y1_0, y2_0, y3_0, y8_0, y9_0 =>
    cond (decide ((IntKind.i64.wrap (y2_0 - y1_0)) ≤ 12))
    (Option.bind (m_slices_insertionSortOrdered_uint32 y0_0 y1_0 y2_0) fun r27_1 =>
    some r27_1)
    (cond (decide (y3_0 = 0))
    (Option.bind (m_slices_heapSortOrdered_uint32 y0_0 y1_0 y2_0) fun r33_2 =>
    some r33_2)
    (cond (!y8_0)
    (Option.bind (m_slices_breakPatternsOrdered_uint32 y0_0 y1_0 y2_0) fun r39_14 =>
    m_slices_pdqsortOrdered_uint32_j15 y1_0 y2_0 y8_0 y9_0 (fun y0_0 y1_0 y2_0 y3_0 y8_0 y9_0 => m_slices_pdqsortOrdered_uint32_l0 k_rec fu_0 y0_0 y1_0 y2_0 y3_0 y8_0 y9_0) k_rec r39_14 (IntKind.i64.wrap (y3_0 - 1)))
    (m_slices_pdqsortOrdered_uint32_j15 y1_0 y2_0 y8_0 y9_0 (fun y0_0 y1_0 y2_0 y3_0 y8_0 y9_0 => m_slices_pdqsortOrdered_uint32_l0 k_rec fu_0 y0_0 y1_0 y2_0 y3_0 y8_0 y9_0) k_rec y0_0 y3_0)))
def m_slices_pdqsortOrdered_uint32 : Nat → (List Int) → Int → Int → Int → Option (List Int)
  | 0, _, _, _, _ => none
  | fuR + 1, p0, p1, p2, p3 =>
    m_slices_pdqsortOrdered_uint32_l0 (fun p0 p1 p2 p3 => m_slices_pdqsortOrdered_uint32 fuR p0 p1 p2 p3) 1152921504606846976 p0 p1 p2 p3 true true

def m_slices_Sort_uint32 (p0 : (List Int)) : Option (List Int) :=
  Option.bind (m_math_bits_Len (IntKind.u64.wrap ((List.length p0 : Nat) : Int))) fun r9_1 =>
  Option.bind (m_slices_pdqsortOrdered_uint32 1152921504606846976 p0 0 ((List.length p0 : Nat) : Int) r9_1) fun r10_1 =>
  some r10_1

def m_slices_Compact_uint32_l5 (p0 : (List Int)) (y3_1 : Int) : Nat → (List Int) → Int → Int → Option (List Int)
  | 0, _, _, _ => none
  | fu_5 + 1, y0_5, y3_5, y5_5 =>
    cond (decide (y5_5 < ((List.length p0 - (Int.toNat y3_1) - 1 + 1 : Nat) : Int)))
    (chk (0 ≤ y5_5 ∧ y5_5 < ((List.length p0 - (Int.toNat y3_1) - 1 + 1 : Nat) : Int)) (
    Option.bind (geti y0_5 (y3_1 + y5_5)) fun x37_7 =>
    chk (0 ≤ (IntKind.i64.wrap (y5_5 - 1)) ∧ (IntKind.i64.wrap (y5_5 - 1)) < ((List.length p0 - (Int.toNat y3_1) - 1 + 1 : Nat) : Int)) (
    Option.bind (geti y0_5 (y3_1 + (IntKind.i64.wrap (y5_5 - 1)))) fun x42_7 =>
    cond (decide (x37_7 ≠ x42_7))
    (chk (0 ≤ y5_5 ∧ y5_5 < ((List.length p0 - (Int.toNat y3_1) - 1 + 1 : Nat) : Int)) (
    Option.bind (geti y0_5 (y3_1 + y5_5)) fun x49_8 =>
    Option.bind (geti y0_5 y3_5) fun x51_8 =>
    m_slices_Compact_uint32_l5 p0 y3_1 fu_5 (List.set y0_5 (Int.toNat y3_5) x49_8) (IntKind.i64.wrap (y3_5 + 1)) (IntKind.i64.wrap (y5_5 + 1))))
    (m_slices_Compact_uint32_l5 p0 y3_1 fu_5 y0_5 y3_5 (IntKind.i64.wrap (y5_5 + 1))))))
    (chk (0 ≤ y3_5 ∧ y3_5 < ((List.length y0_5 : Nat) : Int)) (
    Option.bind (cut (clr y0_5 (Int.toNat y3_5) (0 : Int)) 0 y3_5) fun s59_10 =>
    some s59_10))
def m_slices_Compact_uint32_l1 (p0 : (List Int)) : Nat → Int → Option (List Int)
  | 0, _ => none
  | fu_1 + 1, y3_1 =>
    cond (decide (y3_1 < ((List.length p0 : Nat) : Int)))
    (Option.bind (geti p0 y3_1) fun x18_3 =>
    Option.bind (geti p0 (IntKind.i64.wrap (y3_1 - 1))) fun x23_3 =>
    cond (decide (x18_3 = x23_3))
    (chk (0 ≤ y3_1 ∧ y3_1 < ((List.length p0 : Nat) : Int)) (
    m_slices_Compact_uint32_l5 p0 y3_1 1152921504606846976 p0 y3_1 1))
    (m_slices_Compact_uint32_l1 p0 fu_1 (IntKind.i64.wrap (y3_1 + 1))))
    (some p0)
def m_slices_Compact_uint32 (p0 : (List Int)) : Option (List Int) :=
  cond (decide (((List.length p0 : Nat) : Int) < 2))
  (some p0)
  (m_slices_Compact_uint32_l1 p0 1152921504606846976 1)

def m_trail_Merge (p0 : (List Int)) (p1 : (List Int)) : Option (List Int) :=
  Option.bind (m_slices_Concat_uint32 ([p0, p1] : List (List Int))) fun r9_0 =>
  Option.bind (m_slices_Sort_uint32 r9_0) fun r11_1 =>
  Option.bind (m_slices_Compact_uint32 r11_1) fun r13_2 =>
  some r13_2

def m_trail_Trail_Add (p0 : GTrail) (p1 : GWait) : Option (GTrail × Int) :=
  Option.bind (m_trail_copied p0.L) fun r13_0 =>
  cond (decide (((List.length p1.Sets : Nat) : Int) = 0))
  (some ((GTrail.mk p0.Cap r13_0), 2))
  (Option.bind (m_slices_IndexFunc_Wait__trail_Trail_Add_1 r13_0 p1) fun r24_2 =>
  cond (decide ((0 : Int) ≤ r24_2))
  (Option.bind (geti r13_0 r24_2) fun x33_3 =>
  Option.bind (m_trail_Merge x33_3.Sets p1.Sets) fun r38_3 =>
  Option.bind (geti r13_0 r24_2) fun x39_3 =>
  some ((GTrail.mk p0.Cap (List.set r13_0 (Int.toNat r24_2) (GWait.mk x39_3.Bound r38_3 x39_3.End))), 0))
  (cond (decide (p0.Cap ≤ ((List.length r13_0 : Nat) : Int)))
  (some ((GTrail.mk p0.Cap r13_0), 7))
  (Option.bind (m_slices_Clone_Pair p1.Bound) fun r53_5 =>
  Option.bind (m_trail_Merge ([] : List Int) p1.Sets) fun r56_5 =>
  Option.bind (app r13_0 ([(GWait.mk r53_5 r56_5 p1.End)] : List GWait)) fun a61_5 =>
  some ((GTrail.mk p0.Cap a61_5), 0))))

def m_trail_Trail_Hit_1 (p0 : Int) (p1 : Int) : Option Bool :=
  some (decide ((IntKind.u32.wrap (((BitVec.ofInt 32 p0 &&& BitVec.ofInt 32 p1).toNat : Int))) ≠ 0))

def m_slices_IndexFunc_uint32__trail_Trail_Hit_1_l1 (p0 : (List Int)) (p1c0 : Int) : Nat → Int → Option Int
  | 0, _ => none
  | fu_1 + 1, y8_1 =>
    cond (decide (y8_1 < ((List.length p0 : Nat) : Int)))
    (Option.bind (geti p0 y8_1) fun x14_2 =>
    Option.bind (m_trail_Trail_Hit_1 x14_2 p1c0) fun r16_2 =>
    cond r16_2
    (some y8_1)
    (m_slices_IndexFunc_uint32__trail_Trail_Hit_1_l1 p0 p1c0 fu_1 (IntKind.i64.wrap (y8_1 + 1))))
    (some (-1))
def m_slices_IndexFunc_uint32__trail_Trail_Hit_1 (p0 : (List Int)) (p1c0 : Int) : Option Int :=
  m_slices_IndexFunc_uint32__trail_Trail_Hit_1_l1 p0 p1c0 1152921504606846976 0

def m_slices_DeleteFunc_uint32__trail_Trail_Hit_1_l1 (p1c0 : Int) : Nat → (List Int) → Int → Int → Option (List Int)
  | 0, _, _, _ => none
  | fu_1 + 1, y0_1, y5_1, y6_1 =>
    cond (decide (y6_1 < ((List.length y0_1 : Nat) : Int)))
    (Option.bind (geti y0_1 y6_1) fun x24_3 =>
    Option.bind (m_trail_Trail_Hit_1 x24_3 p1c0) fun r28_4 =>
    cond (!r28_4)
    (Option.bind (geti y0_1 y5_1) fun x33_5 =>
    m_slices_DeleteFunc_uint32__trail_Trail_Hit_1_l1 p1c0 fu_1 (List.set y0_1 (Int.toNat y5_1) x24_3) (IntKind.i64.wrap (y5_1 + 1)) (IntKind.i64.wrap (y6_1 + 1)))
    (m_slices_DeleteFunc_uint32__trail_Trail_Hit_1_l1 p1c0 fu_1 y0_1 y5_1 (IntKind.i64.wrap (y6_1 + 1))))
    (chk (0 ≤ y5_1 ∧ y5_1 < ((List.length y0_1 : Nat) : Int)) (
    Option.bind (cut (clr y0_1 (Int.toNat y5_1) (0 : Int)) 0 y5_1) fun s41_7 =>
    some s41_7))
def m_slices_DeleteFunc_uint32__trail_Trail_Hit_1 (p0 : (List Int)) (p1c0 : Int) : Option (List Int) :=
  Option.bind (m_slices_IndexFunc_uint32__trail_Trail_Hit_1 p0 p1c0) fun r10_0 =>
  cond (decide (r10_0 = (-1)))
  (some p0)
  (m_slices_DeleteFunc_uint32__trail_Trail_Hit_1_l1 p1c0 1152921504606846976 p0 r10_0 (IntKind.i64.wrap (r10_0 + 1)))

def m_trail_Trail_Hit (p0 : GTrail) (p1 : Int) (p2 : Int) : Option GTrail :=
  Option.bind (m_trail_copied p0.L) fun r12_0 =>
  cond (decide (p1 < 0))
  (some (GTrail.mk p0.Cap r12_0))
  (cond (decide (((List.length r12_0 : Nat) : Int) ≤ p1))
  (some (GTrail.mk p0.Cap r12_0))
  (Option.bind (geti r12_0 p1) fun x30_2 =>
  Option.bind (m_slices_DeleteFunc_uint32__trail_Trail_Hit_1 x30_2.Sets p2) fun r34_2 =>
  Option.bind (geti r12_0 p1) fun x35_2 =>
  Option.bind (geti (List.set r12_0 (Int.toNat p1) (GWait.mk x35_2.Bound r34_2 x35_2.End)) p1) fun x40_3 =>
  cond (decide (((List.length x40_3.Sets : Nat) : Int) = 0))
  (some (GTrail.mk p0.Cap (List.eraseIdx (List.set r12_0 (Int.toNat p1) (GWait.mk x35_2.Bound r34_2 x35_2.End)) (Int.toNat p1))))
  (some (GTrail.mk p0.Cap (List.set r12_0 (Int.toNat p1) (GWait.mk x35_2.Bound r34_2 x35_2.End))))))

def m_trail_Trail_Ripe_1 (p0 : GWait) (p1 : GWait) : Option Int :=
  Option.bind (m_cmp_Compare_int p0.End p1.End) fun r9_0 =>
  Option.bind (m_bind_Rank p0.Bound p1.Bound) fun r14_0 =>
  Option.bind (m_cmp_Or_int ([r9_0, r14_0] : List Int)) fun r16_0 =>
  some r16_0

def m_slices_insertionSortCmpFunc_trail_Wait__trail_Trail_Ripe_1_l1 (p1 : Int) (y8_0 : Int) (k_m_slices_insertionSortCmpFunc_trail_Wait__trail_Trail_Ripe_1_l0 : (List GWait) → Int → Option (List GWait)) : Nat → (List GWait) → Int → Option (List GWait)
  | 0, _, _ => none
  | fu_1 + 1, y0_1, y9_1 =>
    cond (decide (p1 < y9_1))
    (Option.bind (geti y0_1 y9_1) fun x25_2 =>
    Option.bind (geti y0_1 (IntKind.i64.wrap (y9_1 - 1))) fun x30_2 =>
    Option.bind (m_trail_Trail_Ripe_1 x25_2 x30_2) fun r32_2 =>
    cond (decide (r32_2 < 0))
    (Option.bind (geti y0_1 (IntKind.i64.wrap (y9_1 - 1))) fun x45_3 =>
    Option.bind (geti y0_1 y9_1) fun x49_3 =>
    Option.bind (geti y0_1 y9_1) fun x51_3 =>
    Option.bind (geti (List.set y0_1 (Int.toNat y9_1) x45_3) (IntKind.i64.wrap (y9_1 - 1))) fun x52_3 =>
    m_slices_insertionSortCmpFunc_trail_Wait__trail_Trail_Ripe_1_l1 p1 y8_0 k_m_slices_insertionSortCmpFunc_trail_Wait__trail_Trail_Ripe_1_l0 fu_1 (List.set (List.set y0_1 (Int.toNat y9_1) x45_3) (Int.toNat (IntKind.i64.wrap (y9_1 - 1))) x49_3) (IntKind.i64.wrap (y9_1 - 1)))
    (k_m_slices_insertionSortCmpFunc_trail_Wait__trail_Trail_Ripe_1_l0 y0_1 (IntKind.i64.wrap (y8_0 + 1))))
    (k_m_slices_insertionSortCmpFunc_trail_Wait__trail_Trail_Ripe_1_l0 y0_1 (IntKind.i64.wrap (y8_0 + 1)))
def m_slices_insertionSortCmpFunc_trail_Wait__trail_Trail_Ripe_1_l0 (p1 : Int) (p2 : Int) : Nat → (List GWait) → Int → Option (List GWait)
  | 0, _, _ => none
  | fu_0 + 1, y0_0, y8_0 =>
    cond (decide (y8_0 < p2))
    (m_slices_insertionSortCmpFunc_trail_Wait__trail_Trail_Ripe_1_l1 p1 y8_0 (fun y0_0 y8_0 => m_slices_insertionSortCmpFunc_trail_Wait__trail_Trail_Ripe_1_l0 p1 p2 fu_0 y0_0 y8_0) 1152921504606846976 y0_0 y8_0)
    (some y0_0)
def m_slices_insertionSortCmpFunc_trail_Wait__trail_Trail_Ripe_1 (p0 : (List GWait)) (p1 : Int) (p2 : Int) : Option (List GWait) :=
  m_slices_insertionSortCmpFunc_trail_Wait__trail_Trail_Ripe_1_l0 p1 p2 1152921504606846976 p0 (IntKind.i64.wrap (p1 + 1))

def m_slices_swapRangeCmpFunc_trail_Wait__trail_Trail_Ripe_1_l0 (p1 : Int) (p2 : Int) (p3 : Int) : Nat → (List GWait) → Int → Option (List GWait)
  | 0, _, _ => none
  | fu_0 + 1, y0_0, y10_0 =>
    cond (decide (y10_0 < p3))
    (Option.bind (geti y0_0 (IntKind.i64.wrap (p2 + y10_0))) fun x28_1 =>
    Option.bind (geti y0_0 (IntKind.i64.wrap (p1 + y10_0))) fun x34_1 =>
    Option.bind (geti y0_0 (IntKind.i64.wrap (p1 + y10_0))) fun x36_1 =>
    Option.bind (geti (List.set y0_0 (Int.toNat (IntKind.i64.wrap (p1 + y10_0))) x28_1) (IntKind.i64.wrap (p2 + y10_0))) fun x37_1 =>
    m_slices_swapRangeCmpFunc_trail_Wait__trail_Trail_Ripe_1_l0 p1 p2 p3 fu_0 (List.set (List.set y0_0 (Int.toNat (IntKind.i64.wrap (p1 + y10_0))) x28_1) (Int.toNat (IntKind.i64.wrap (p2 + y10_0))) x34_1) (IntKind.i64.wrap (y10_0 + 1)))
    (some y0_0)
def m_slices_swapRangeCmpFunc_trail_Wait__trail_Trail_Ripe_1 (p0 : (List GWait)) (p1 : Int) (p2 : Int) (p3 : Int) : Option (List GWait) :=
  m_slices_swapRangeCmpFunc_trail_Wait__trail_Trail_Ripe_1_l0 p1 p2 p3 1152921504606846976 p0 0

def m_slices_rotateCmpFunc_trail_Wait__trail_Trail_Ripe_1_l0 (p2 : Int) : Nat → (List GWait) → Int → Int → Option (List GWait)
  | 0, _, _, _ => none
  | fu_0 + 1, y0_0, y10_0, y11_0 =>
    cond (decide (y10_0 ≠ y11_0))
    (cond (decide (y11_0 < y10_0))
    (Option.bind (m_slices_swapRangeCmpFunc_trail_Wait__trail_Trail_Ripe_1 y0_0 (IntKind.i64.wrap (p2 - y10_0)) p2 y11_0) fun r31_1 =>
    m_slices_rotateCmpFunc_trail_Wait__trail_Trail_Ripe_1_l0 p2 fu_0 r31_1 (IntKind.i64.wrap (y10_0 - y11_0)) y11_0)
    (Option.bind (m_slices_swapRangeCmpFunc_trail_Wait__trail_Trail_Ripe_1 y0_0 (IntKind.i64.wrap (p2 - y10_0)) (IntKind.i64.wrap ((IntKind.i64.wrap (p2 + y11_0)) - y10_0)) y10_0) fun r46_2 =>
    m_slices_rotateCmpFunc_trail_Wait__trail_Trail_Ripe_1_l0 p2 fu_0 r46_2 y10_0 (IntKind.i64.wrap (y11_0 - y10_0))))
    (Option.bind (m_slices_swapRangeCmpFunc_trail_Wait__trail_Trail_Ripe_1 y0_0 (IntKind.i64.wrap (p2 - y10_0)) p2 y10_0) fun r57_3 =>
    some r57_3)
def m_slices_rotateCmpFunc_trail_Wait__trail_Trail_Ripe_1 (p0 : (List GWait)) (p1 : Int) (p2 : Int) (p3 : Int) : Option (List GWait) :=
  m_slices_rotateCmpFunc_trail_Wait__trail_Trail_Ripe_1_l0 p2 1152921504606846976 p0 (IntKind.i64.wrap (p2 - p1)) (IntKind.i64.wrap (p3 - p2))

def m_slices_symMergeCmpFunc_trail_Wait__trail_Trail_Ripe_1_l4 (y10_0 : Int) : Nat → (List GWait) → Int → Option (List GWait)
  | 0, _, _ => none
  | fu_4 + 1, y0_4, y13_4 =>
    cond (decide (y13_4 < (IntKind.i64.wrap (y10_0 - 1))))
    (Option.bind (geti y0_4 (IntKind.i64.wrap (y13_4 + 1))) fun x69_5 =>
    Option.bind (geti y0_4 y13_4) fun x73_5 =>
    Option.bind (geti y0_4 y13_4) fun x75_5 =>
    Option.bind (geti (List.set y0_4 (Int.toNat y13_4) x69_5) (IntKind.i64.wrap (y13_4 + 1))) fun x76_5 =>
    m_slices_symMergeCmpFunc_trail_Wait__trail_Trail_Ripe_1_l4 y10_0 fu_4 (List.set (List.set y0_4 (Int.toNat y13_4) x69_5) (Int.toNat (IntKind.i64.wrap (y13_4 + 1))) x73_5) (IntKind.i64.wrap (y13_4 + 1)))
    (some y0_4)
def m_slices_symMergeCmpFunc_trail_Wait__trail_Trail_Ripe_1_l0 (p0 : (List GWait)) (p1 : Int) : Nat → Int → Int → Option (List GWait)
  | 0, _, _ => none
  | fu_0 + 1, y10_0, y11_0 =>
    cond (decide (y10_0 < y11_0))
    (Option.bind (geti p0 (IntKind.i64.wrap (Int.fdiv (IntKind.u64.wrap (IntKind.i64.wrap (y10_0 + y11_0))) (2 ^ 1)))) fun x43_2 =>
    Option.bind (geti p0 p1) fun x47_2 =>
    Option.bind (m_trail_Trail_Ripe_1 x43_2 x47_2) fun r49_2 =>
    cond (decide (r49_2 < 0))
    (Option.bind (some ((IntKind.i64.wrap ((IntKind.i64.wrap (Int.fdiv (IntKind.u64.wrap (IntKind.i64.wrap (y10_0 + y11_0))) (2 ^ 1))) + 1)))) fun v52_3 =>
    m_slices_symMergeCmpFunc_trail_Wait__trail_Trail_Ripe_1_l0 p0 p1 fu_0 v52_3 y11_0)
    (m_slices_symMergeCmpFunc_trail_Wait__trail_Trail_Ripe_1_l0 p0 p1 fu_0 y10_0 (IntKind.i64.wrap (Int.fdiv (IntKind.u64.wrap (IntKind.i64.wrap (y10_0 + y11_0))) (2 ^ 1)))))
    (m_slices_symMergeCmpFunc_trail_Wait__trail_Trail_Ripe_1_l4 y10_0 1152921504606846976 p0 p1)
def m_slices_symMergeCmpFunc_trail_Wait__trail_Trail_Ripe_1_l10 (y14_6 : Int) : Nat → (List GWait) → Int → Option (List GWait)
  | 0, _, _ => none
  | fu_10 + 1, y0_10, y17_10 =>
    cond (decide (y14_6 < y17_10))
    (Option.bind (geti y0_10 (IntKind.i64.wrap (y17_10 - 1))) fun x121_11 =>
    Option.bind (geti y0_10 y17_10) fun x125_11 =>
    Option.bind (geti y0_10 y17_10) fun x127_11 =>
    Option.bind (geti (List.set y0_10 (Int.toNat y17_10) x121_11) (IntKind.i64.wrap (y17_10 - 1))) fun x128_11 =>
    m_slices_symMergeCmpFunc_trail_Wait__trail_Trail_Ripe_1_l10 y14_6 fu_10 (List.set (List.set y0_10 (Int.toNat y17_10) x121_11) (Int.toNat (IntKind.i64.wrap (y17_10 - 1))) x125_11) (IntKind.i64.wrap (y17_10 - 1)))
    (some y0_10)
def m_slices_symMergeCmpFunc_trail_Wait__trail_Trail_Ripe_1_l6 (p0 : (List GWait)) (p2 : Int) : Nat → Int → Int → Option (List GWait)
  | 0, _, _ => none
  | fu_6 + 1, y14_6, y15_6 =>
    cond (decide (y14_6 < y15_6))
    (Option.bind (geti p0 p2) fun x95_8 =>
    Option.bind (geti p0 (IntKind.i64.wrap (Int.fdiv (IntKind.u64.wrap (IntKind.i64.wrap (y14_6 + y15_6))) (2 ^ 1)))) fun x99_8 =>
    Option.bind (m_trail_Trail_Ripe_1 x95_8 x99_8) fun r101_8 =>
    cond (!decide (r101_8 < 0))
    (Option.bind (some ((IntKind.i64.wrap ((IntKind.i64.wrap (Int.fdiv (IntKind.u64.wrap (IntKind.i64.wrap (y14_6 + y15_6))) (2 ^ 1))) + 1)))) fun v105_9 =>
    m_slices_symMergeCmpFunc_trail_Wait__trail_Trail_Ripe_1_l6 p0 p2 fu_6 v105_9 y15_6)
    (m_slices_symMergeCmpFunc_trail_Wait__trail_Trail_Ripe_1_l6 p0 p2 fu_6 y14_6 (IntKind.i64.wrap (Int.fdiv (IntKind.u64.wrap (IntKind.i64.wrap (y14_6 + y15_6))) (2 ^ 1)))))
    (m_slices_symMergeCmpFunc_trail_Wait__trail_Trail_Ripe_1_l10 y14_6 1152921504606846976 p0 p2)
def m_slices_symMergeCmpFunc_trail_Wait__trail_Trail_Ripe_1_j24 (p1 : Int) (p3 : Int) (v137_13 : Int) (y20_15 : Int) (k_rec : (List GWait) → Int → Int → Int → Option (List GWait)) (y0_24 : List GWait) : Option (List GWait) :=
  Option.bind (some (decide ((IntKind.i64.wrap (Int.fdiv (IntKind.u64.wrap (IntKind.i64.wrap (p1 + p3))) (2 ^ 1))) < (IntKind.i64.wrap (v137_13 - y20_15))))) fun v208_25 =>
  cond v208_25
  (cond (decide ((IntKind.i64.wrap (v137_13 - y20_15)) < p3))
  (Option.bind (k_rec y0_24 (IntKind.i64.wrap (Int.fdiv (IntKind.u64.wrap (IntKind.i64.wrap (p1 + p3))) (2 ^ 1))) (IntKind.i64.wrap (v137_13 - y20_15)) p3) fun r219_26 =>
  some r219_26)
  (some y0_24))
  (some y0_24)
def m_slices_symMergeCmpFunc_trail_Wait__trail_Trail_Ripe_1_j21 (p1 : Int) (p3 : Int) (v137_13 : Int) (y20_15 : Int) (k_rec : (List GWait) → Int → Int → Int → Option (List GWait)) (y0_21 : List GWait) : Option (List GWait) :=
  cond (decide (p1 < y20_15))
  (cond (decide (y20_15 < (IntKind.i64.wrap (Int.fdiv (IntKind.u64.wrap (IntKind.i64.wrap (p1 + p3))) (2 ^ 1)))))
  (Option.bind (k_rec y0_21 p1 y20_15 (IntKind.i64.wrap (Int.fdiv (IntKind.u64.wrap (IntKind.i64.wrap (p1 + p3))) (2 ^ 1)))) fun r205_23 =>
  m_slices_symMergeCmpFunc_trail_Wait__trail_Trail_Ripe_1_j24 p1 p3 v137_13 y20_15 k_rec r205_23)
  (m_slices_symMergeCmpFunc_trail_Wait__trail_Trail_Ripe_1_j24 p1 p3 v137_13 y20_15 k_rec y0_21))
  (m_slices_symMergeCmpFunc_trail_Wait__trail_Trail_Ripe_1_j24 p1 p3 v137_13 y20_15 k_rec y0_21)
def m_slices_symMergeCmpFunc_trail_Wait__trail_Trail_Ripe_1_l15 (p0 : (List GWait)) (p1 : Int) (p2 : Int) (p3 : Int) (v137_13 : Int) (k_rec : (List GWait) → Int → Int → Int → Option (List GWait)) : Nat → Int → Int → Option (List GWait)
  | 0, _, _ => none
  | fu_15 + 1, y20_15, y21_15 =>
    cond (decide (y20_15 < y21_15))
    (Option.bind (some ((IntKind.i64.wrap ((IntKind.i64.wrap (v137_13 - 1)) - (IntKind.i64.wrap (Int.fdiv (IntKind.u64.wrap (IntKind.i64.wrap (y20_15 + y21_15))) (2 ^ 1))))))) fun v162_17 =>
    Option.bind (geti p0 v162_17) fun x163_17 =>
    Option.bind (geti p0 (IntKind.i64.wrap (Int.fdiv (IntKind.u64.wrap (IntKind.i64.wrap (y20_15 + y21_15))) (2 ^ 1)))) fun x167_17 =>
    Option.bind (m_trail_Trail_Ripe_1 x163_17 x167_17) fun r169_17 =>
    cond (!decide (r169_17 < 0))
    (Option.bind (some ((IntKind.i64.wrap ((IntKind.i64.wrap (Int.fdiv (IntKind.u64.wrap (IntKind.i64.wrap (y20_15 + y21_15))) (2 ^ 1))) + 1)))) fun v173_18 =>
    m_slices_symMergeCmpFunc_trail_Wait__trail_Trail_Ripe_1_l15 p0 p1 p2 p3 v137_13 k_rec fu_15 v173_18 y21_15)
    (m_slices_symMergeCmpFunc_trail_Wait__trail_Trail_Ripe_1_l15 p0 p1 p2 p3 v137_13 k_rec fu_15 y20_15 (IntKind.i64.wrap (Int.fdiv (IntKind.u64.wrap (IntKind.i64.wrap (y20_15 + y21_15))) (2 ^ 1)))))
    (cond (decide (y20_15 < p2))
    (cond (decide (p2 < (IntKind.i64.wrap (v137_13 - y20_15))))
    (Option.bind (m_slices_rotateCmpFunc_trail_Wait__trail_Trail_Ripe_1 p0 y20_15 p2 (IntKind.i64.wrap (v137_13 - y20_15))) fun r191_20 =>
    m_slices_symMergeCmpFunc_trail_Wait__trail_Trail_Ripe_1_j21 p1 p3 v137_13 y20_15 k_rec r191_20)
    (m_slices_symMergeCmpFunc_trail_Wait__trail_Trail_Ripe_1_j21 p1 p3 v137_13 y20_15 k_rec p0))
    (m_slices_symMergeCmpFunc_trail_Wait__trail_Trail_Ripe_1_j21 p1 p3 v137_13 y20_15 k_rec p0))
def m_slices_symMergeCmpFunc_trail_Wait__trail_Trail_Ripe_1_j14 (p0 : (List GWait)) (p1 : Int) (p2 : Int) (p3 : Int) (v137_13 : Int) (k_rec : (List GWait) → Int → Int → Int → Option (List GWait)) (y20_14 : Int) (y21_14 : Int) : Option (List GWait) :=
  m_slices_symMergeCmpFunc_trail_Wait__trail_Trail_Ripe_1_l15 p0 p1 p2 p3 v137_13 k_rec 1152921504606846976 y20_14 y21_14
def m_slices_symMergeCmpFunc_trail_Wait__trail_Trail_Ripe_1 : Nat → (List GWait) → Int → Int → Int → Option (List GWait)
  | 0, _, _, _, _ => none
  | fuR + 1, p0, p1, p2, p3 =>
    cond (decide ((IntKind.i64.wrap (p2 - p1)) = 1))
    (m_slices_symMergeCmpFunc_trail_Wait__trail_Trail_Ripe_1_l0 p0 p1 1152921504606846976 p2 p3)
    (cond (decide ((IntKind.i64.wrap (p3 - p2)) = 1))
    (m_slices_symMergeCmpFunc_trail_Wait__trail_Trail_Ripe_1_l6 p0 p2 1152921504606846976 p1 p2)
    (Option.bind (some ((IntKind.i64.wrap ((IntKind.i64.wrap (Int.fdiv (IntKind.u64.wrap (IntKind.i64.wrap (p1 + p3))) (2 ^ 1))) + p2)))) fun v137_13 =>
    cond (decide ((IntKind.i64.wrap (Int.fdiv (IntKind.u64.wrap (IntKind.i64.wrap (p1 + p3))) (2 ^ 1))) < p2))
    (m_slices_symMergeCmpFunc_trail_Wait__trail_Trail_Ripe_1_j14 p0 p1 p2 p3 v137_13 (fun p0 p1 p2 p3 => m_slices_symMergeCmpFunc_trail_Wait__trail_Trail_Ripe_1 fuR p0 p1 p2 p3) (IntKind.i64.wrap (v137_13 - p3)) (IntKind.i64.wrap (Int.fdiv (IntKind.u64.wrap (IntKind.i64.wrap (p1 + p3))) (2 ^ 1))))
    (m_slices_symMergeCmpFunc_trail_Wait__trail_Trail_Ripe_1_j14 p0 p1 p2 p3 v137_13 (fun p0 p1 p2 p3 => m_slices_symMergeCmpFunc_trail_Wait__trail_Trail_Ripe_1 fuR p0 p1 p2 p3) p1 p2)))

def m_slices_stableCmpFunc_trail_Wait__trail_Trail_Ripe_1_l4 (p1 : Int) (y6_3 : Int) (k_m_slices_stableCmpFunc_trail_Wait__trail_Trail_Ripe_1_l3 : (List GWait) → Int → Option (List GWait)) : Nat → (List GWait) → Int → Int → Option (List GWait)
  | 0, _, _, _ => none
  | fu_4 + 1, y0_4, y7_4, y8_4 =>
    cond (decide (y8_4 ≤ p1))
    (Option.bind (m_slices_symMergeCmpFunc_trail_Wait__trail_Trail_Ripe_1 1152921504606846976 y0_4 y7_4 (IntKind.i64.wrap (y7_4 + y6_3)) y8_4) fun r43_5 =>
    m_slices_stableCmpFunc_trail_Wait__trail_Trail_Ripe_1_l4 p1 y6_3 k_m_slices_stableCmpFunc_trail_Wait__trail_Trail_Ripe_1_l3 fu_4 r43_5 y8_4 (IntKind.i64.wrap (y8_4 + (IntKind.i64.wrap (2 * y6_3)))))
    (cond (decide ((IntKind.i64.wrap (y7_4 + y6_3)) < p1))
    (Option.bind (m_slices_symMergeCmpFunc_trail_Wait__trail_Trail_Ripe_1 1152921504606846976 y0_4 y7_4 (IntKind.i64.wrap (y7_4 + y6_3)) p1) fun r60_6 =>
    k_m_slices_stableCmpFunc_trail_Wait__trail_Trail_Ripe_1_l3 r60_6 (IntKind.i64.wrap (y6_3 * 2)))
    (k_m_slices_stableCmpFunc_trail_Wait__trail_Trail_Ripe_1_l3 y0_4 (IntKind.i64.wrap (y6_3 * 2))))
def m_slices_stableCmpFunc_trail_Wait__trail_Trail_Ripe_1_l3 (p1 : Int) : Nat → (List GWait) → Int → Option (List GWait)
  | 0, _, _ => none
  | fu_3 + 1, y0_3, y6_3 =>
    cond (decide (y6_3 < p1))
    (m_slices_stableCmpFunc_trail_Wait__trail_Trail_Ripe_1_l4 p1 y6_3 (fun y0_3 y6_3 => m_slices_stableCmpFunc_trail_Wait__trail_Trail_Ripe_1_l3 p1 fu_3 y0_3 y6_3) 1152921504606846976 y0_3 0 (IntKind.i64.wrap (2 * y6_3)))
    (some y0_3)
def m_slices_stableCmpFunc_trail_Wait__trail_Trail_Ripe_1_l0 (p1 : Int) : Nat → (List GWait) → Int → Int → Option (List GWait)
  | 0, _, _, _ => none
  | fu_0 + 1, y0_0, y7_0, y8_0 =>
    cond (decide (y8_0 ≤ p1))
    (Option.bind (m_slices_insertionSortCmpFunc_trail_Wait__trail_Trail_Ripe_1 y0_0 y7_0 y8_0) fun r18_1 =>
    m_slices_stableCmpFunc_trail_Wait__trail_Trail_Ripe_1_l0 p1 fu_0 r18_1 y8_0 (IntKind.i64.wrap (y8_0 + 20)))
    (Option.bind (m_slices_insertionSortCmpFunc_trail_Wait__trail_Trail_Ripe_1 y0_0 y7_0 p1) fun r27_2 =>
    m_slices_stableCmpFunc_trail_Wait__trail_Trail_Ripe_1_l3 p1 1152921504606846976 r27_2 20)
def m_slices_stableCmpFunc_trail_Wait__trail_Trail_Ripe_1 (p0 : (List GWait)) (p1 : Int) : Option (List GWait) :=
  m_slices_stableCmpFunc_trail_Wait__trail_Trail_Ripe_1_l0 p1 1152921504606846976 p0 0 20

def m_slices_SortStableFunc_Wait__trail_Trail_Ripe_1 (p0 : (List GWait)) : Option (List GWait) :=
  Option.bind (m_slices_stableCmpFunc_trail_Wait__trail_Trail_Ripe_1 p0 ((List.length p0 : Nat) : Int)) fun r8_0 =>
  some r8_0

def m_trail_Trail_Ripe_l1 (p0 : GTrail) (p1 : Int) (r15_0 : (List GWait)) : Nat → (List GWait) → (List GWait) → Int → Option ((List GWait) × GTrail)
  | 0, _, _, _ => none
  | fu_1 + 1, y6_1, y7_d_1_1, y17_1 =>
    cond (decide (y17_1 < ((List.length r15_0 : Nat) : Int)))
    (Option.bind (geti r15_0 y17_1) fun x19_2 =>
    cond (decide (x19_2.End < p1))
    (Option.bind (app y6_1 ([x19_2] : List GWait)) fun a28_3 =>
    m_trail_Trail_Ripe_l1 p0 p1 r15_0 fu_1 a28_3 y7_d_1_1 (IntKind.i64.wrap (y17_1 + 1)))
    (Option.bind (app y7_d_1_1 ([x19_2] : List GWait)) fun a33_4 =>
    m_trail_Trail_Ripe_l1 p0 p1 r15_0 fu_1 y6_1 a33_4 (IntKind.i64.wrap (y17_1 + 1))))
    (Option.bind (m_slices_SortStableFunc_Wait__trail_Trail_Ripe_1 y6_1) fun r37_5 =>
    some (r37_5, (GTrail.mk p0.Cap y7_d_1_1)))
def m_trail_Trail_Ripe (p0 : GTrail) (p1 : Int) : Option ((List GWait) × GTrail) :=
  Option.bind (m_trail_copied p0.L) fun r15_0 =>
  m_trail_Trail_Ripe_l1 p0 p1 r15_0 1152921504606846976 ([] : List GWait) ([] : List GWait) 0

def m_trail_Trail_Least_l1 (p0 : GTrail) : Nat → Int → Bool → Int → Option (Int × Bool)
  | 0, _, _, _ => none
  | fu_1 + 1, y4_1, y5_1, y11_1 =>
    cond (decide (y11_1 < ((List.length p0.L : Nat) : Int)))
    (Option.bind (geti p0.L y11_1) fun x13_2 =>
    cond (!y5_1)
    (m_trail_Trail_Least_l1 p0 fu_1 x13_2.End true (IntKind.i64.wrap (y11_1 + 1)))
    (cond (decide (x13_2.End < y4_1))
    (m_trail_Trail_Least_l1 p0 fu_1 x13_2.End true (IntKind.i64.wrap (y11_1 + 1)))
    (m_trail_Trail_Least_l1 p0 fu_1 y4_1 y5_1 (IntKind.i64.wrap (y11_1 + 1)))))
    (some (y4_1, y5_1))
def m_trail_Trail_Least (p0 : GTrail) : Option (Int × Bool) :=
  m_trail_Trail_Least_l1 p0 1152921504606846976 0 false 0

def m_trail_Watched_l1 (p0 : (List Int)) : Nat → Int → Int → Option Int
  | 0, _, _ => none
  | fu_1 + 1, y3_1, y8_1 =>
    cond (decide (y8_1 < ((List.length p0 : Nat) : Int)))
    (Option.bind (geti p0 y8_1) fun x10_2 =>
    m_trail_Watched_l1 p0 fu_1 (IntKind.u32.wrap (((BitVec.ofInt 32 y3_1 ||| BitVec.ofInt 32 x10_2).toNat : Int))) (IntKind.i64.wrap (y8_1 + 1)))
    (some y3_1)
def m_trail_Watched (p0 : (List Int)) : Option Int :=
  m_trail_Watched_l1 p0 1152921504606846976 0 0

def m_slices_Equal_uint32_l2 (p0 : (List Int)) (p1 : (List Int)) : Nat → Int → Option Bool
  | 0, _ => none
  | fu_2 + 1, y13_2 =>
    cond (decide (y13_2 < ((List.length p0 : Nat) : Int)))
    (Option.bind (geti p0 y13_2) fun x18_3 =>
    Option.bind (geti p1 y13_2) fun x22_3 =>
    cond (decide (x18_3 ≠ x22_3))
    (some false)
    (m_slices_Equal_uint32_l2 p0 p1 fu_2 (IntKind.i64.wrap (y13_2 + 1))))
    (some true)
def m_slices_Equal_uint32 (p0 : (List Int)) (p1 : (List Int)) : Option Bool :=
  cond (decide (((List.length p0 : Nat) : Int) ≠ ((List.length p1 : Nat) : Int)))
  (some false)
  (m_slices_Equal_uint32_l2 p0 p1 1152921504606846976 0)

def m_trail_Same_1 (p0 : GWait) (p1 : GWait) : Option Bool :=
  cond (decide (p0.End = p1.End))
  (Option.bind (m_slices_Equal_uint32 p0.Sets p1.Sets) fun r15_0 =>
  cond r15_0
  (Option.bind (m_bind_Rank p0.Bound p1.Bound) fun r22_0 =>
  some (decide (r22_0 = 0)))
  (some false))
  (some false)

def m_slices_EqualFunc_Waittrail_Wait_trail_Wait_trail_Wait__trail_Same_1_l2 (p0 : (List GWait)) (p1 : (List GWait)) : Nat → Int → Option Bool
  | 0, _ => none
  | fu_2 + 1, y17_2 =>
    cond (decide (y17_2 < ((List.length p0 : Nat) : Int)))
    (Option.bind (geti p0 y17_2) fun x20_3 =>
    Option.bind (geti p1 y17_2) fun x24_4 =>
    Option.bind (m_trail_Same_1 x20_3 x24_4) fun r29_5 =>
    cond (!r29_5)
    (some false)
    (m_slices_EqualFunc_Waittrail_Wait_trail_Wait_trail_Wait__trail_Same_1_l2 p0 p1 fu_2 (IntKind.i64.wrap (y17_2 + 1))))
    (some true)
def m_slices_EqualFunc_Waittrail_Wait_trail_Wait_trail_Wait__trail_Same_1 (p0 : (List GWait)) (p1 : (List GWait)) : Option Bool :=
  cond (decide (((List.length p0 : Nat) : Int) ≠ ((List.length p1 : Nat) : Int)))
  (some false)
  (m_slices_EqualFunc_Waittrail_Wait_trail_Wait_trail_Wait__trail_Same_1_l2 p0 p1 1152921504606846976 0)

def m_trail_Same (p0 : GTrail) (p1 : GTrail) : Option Bool :=
  cond (decide (p0.Cap = p1.Cap))
  (Option.bind (m_slices_EqualFunc_Waittrail_Wait_trail_Wait_trail_Wait__trail_Same_1 p0.L p1.L) fun r15_0 =>
  some r15_0)
  (some false)

def m_w22_awake_j9 : Option Bool :=
  some false
def m_w22_awake : Option Bool :=
  Option.bind (m_trail_New 2) fun r17_0 =>
  Option.bind (m_w22_at 1) fun r22_1 =>
  Option.bind (m_trail_Trail_Add r17_0.1 (GWait.mk r22_1 ([6, 1, 6] : List Int) 9)) fun r25_1 =>
  Option.bind (m_w22_at 2) fun r30_2 =>
  Option.bind (m_trail_Trail_Add r25_1.1 (GWait.mk r30_2 ([2] : List Int) 5)) fun r33_2 =>
  Option.bind (m_w22_at 3) fun r38_3 =>
  Option.bind (m_trail_Trail_Add r33_2.1 (GWait.mk r38_3 ([2] : List Int) 5)) fun r41_3 =>
  Option.bind (m_w22_at 1) fun r46_4 =>
  Option.bind (m_trail_Trail_Add r33_2.1 (GWait.mk r46_4 ([] : List Int) 0)) fun r48_4 =>
  Option.bind (m_trail_Trail_Hit r33_2.1 0 2) fun r52_5 =>
  Option.bind (m_trail_Trail_Ripe r52_5 6) fun r55_6 =>
  Option.bind (m_trail_Trail_Least r33_2.1) fun r60_7 =>
  cond (decide (r17_0.2 ≠ 0))
  (m_w22_awake_j9 )
  (cond (decide (r25_1.2 ≠ 0))
  (m_w22_awake_j9 )
  (cond (decide (r33_2.2 ≠ 0))
  (m_w22_awake_j9 )
  (cond (decide (r41_3.2 ≠ 7))
  (m_w22_awake_j9 )
  (cond (decide (r48_4.2 ≠ 2))
  (m_w22_awake_j9 )
  (cond (decide (((List.length r52_5.L : Nat) : Int) ≠ 2))
  (m_w22_awake_j9 )
  (cond (decide (((List.length r55_6.1 : Nat) : Int) ≠ 1))
  (m_w22_awake_j9 )
  (cond (decide (((List.length r55_6.2.L : Nat) : Int) ≠ 1))
  (some false)
  (Option.bind (geti r52_5.L 0) fun x100_10 =>
  cond (decide (((List.length x100_10.Sets : Nat) : Int) = 1))
  (Option.bind (geti r52_5.L 0) fun x108_10 =>
  Option.bind (geti x108_10.Sets 0) fun x111_10 =>
  cond (decide (x111_10 = 1))
  (Option.bind (geti r55_6.1 0) fun x117_10 =>
  cond (decide (x117_10.End = 5))
  (Option.bind (geti r55_6.2.L 0) fun x125_10 =>
  cond (decide (x125_10.End = 9))
  (cond (decide (r60_7.1 = 5))
  (cond r60_7.2
  (Option.bind (m_trail_Trail_Hit r52_5 0 1) fun r139_10 =>
  cond (decide (((List.length r139_10.L : Nat) : Int) = 1))
  (Option.bind (m_trail_Watched ([1, 6] : List Int)) fun r146_10 =>
  cond (decide (r146_10 = 7))
  (Option.bind (m_trail_Same r33_2.1 r33_2.1) fun r152_10 =>
  cond r152_10
  (Option.bind (m_trail_Same r25_1.1 r33_2.1) fun r157_10 =>
  cond (!r157_10)
  (some true)
  (some false))
  (some false))
  (some false))
  (some false))
  (some false))
  (some false))
  (some false))
  (some false))
  (some false))
  (some false)))))))))

def m_w04_Small (p0 : GValue) : Option Int :=
  some (max 0 (IntKind.i64.wrap (((List.length p0.Text : Nat) : Int) - 100)))

def m_w07_Over_l4 (p0 : (List GEvent)) (y5_1 : Int) (k_m_w07_Over_l1 : Int → Option Int) : Nat → Int → Option Int
  | 0, _ => none
  | fu_4 + 1, y6_4 =>
    Option.bind (geti p0 y5_1) fun x36_5 =>
    cond (decide (y6_4 < ((List.length x36_5.Vals : Nat) : Int)))
    (Option.bind (geti p0 y5_1) fun x45_6 =>
    Option.bind (geti x45_6.Vals y6_4) fun x49_6 =>
    Option.bind (m_w04_Small x49_6) fun r51_6 =>
    cond (decide ((0 : Int) < r51_6))
    (some 1)
    (m_w07_Over_l4 p0 y5_1 k_m_w07_Over_l1 fu_4 (IntKind.i64.wrap (y6_4 + 1))))
    (k_m_w07_Over_l1 (IntKind.i64.wrap (y5_1 + 1)))
def m_w07_Over_l1 (p0 : (List GEvent)) : Nat → Int → Option Int
  | 0, _ => none
  | fu_1 + 1, y5_1 =>
    cond (decide (y5_1 < ((List.length p0 : Nat) : Int)))
    (Option.bind (geti p0 y5_1) fun x19_3 =>
    cond (decide ((40 : Int) < ((List.length x19_3.Type_ : Nat) : Int)))
    (some 1)
    (Option.bind (geti p0 y5_1) fun x27_3 =>
    cond (decide ((12 : Int) < ((List.length x27_3.Vals : Nat) : Int)))
    (some 1)
    (m_w07_Over_l4 p0 y5_1 (fun y5_1 => m_w07_Over_l1 p0 fu_1 y5_1) 1152921504606846976 0)))
    (some 0)
def m_w07_Over (p0 : (List GEvent)) (p1 : Int) : Option Int :=
  cond (decide (p1 < ((List.length p0 : Nat) : Int)))
  (some 1)
  (m_w07_Over_l1 p0 1152921504606846976 0)

def m_w19_Long_l1 (p0 : (List GPair)) : Nat → Int → Option Int
  | 0, _ => none
  | fu_1 + 1, y3_1 =>
    cond (decide (y3_1 < ((List.length p0 : Nat) : Int)))
    (Option.bind (geti p0 y3_1) fun x15_3 =>
    cond (decide ((40 : Int) < ((List.length x15_3.Var : Nat) : Int)))
    (some 1)
    (Option.bind (geti p0 y3_1) fun x23_3 =>
    Option.bind (m_w07_Over ([x23_3.E] : List GEvent) 1) fun r27_3 =>
    cond (decide ((0 : Int) < r27_3))
    (some 1)
    (m_w19_Long_l1 p0 fu_1 (IntKind.i64.wrap (y3_1 + 1)))))
    (some 0)
def m_w19_Long (p0 : (List GPair)) : Option Int :=
  cond (decide ((20 : Int) < ((List.length p0 : Nat) : Int)))
  (some 1)
  (m_w19_Long_l1 p0 1152921504606846976 0)

def m_w22_Over_l1 (p0 : GTrail) : Nat → Int → Option Int
  | 0, _ => none
  | fu_1 + 1, y3_1 =>
    cond (decide (y3_1 < ((List.length p0.L : Nat) : Int)))
    (Option.bind (geti p0.L y3_1) fun x18_3 =>
    Option.bind (m_w19_Long x18_3.Bound) fun r21_3 =>
    cond (decide ((0 : Int) < r21_3))
    (some 1)
    (Option.bind (geti p0.L y3_1) fun x27_3 =>
    cond (decide ((20 : Int) < ((List.length x27_3.Sets : Nat) : Int)))
    (some 1)
    (m_w22_Over_l1 p0 fu_1 (IntKind.i64.wrap (y3_1 + 1)))))
    (some 0)
def m_w22_Over (p0 : GTrail) : Option Int :=
  cond (decide ((12 : Int) < ((List.length p0.L : Nat) : Int)))
  (some 1)
  (m_w22_Over_l1 p0 1152921504606846976 0)

def m_w06_Vals_l0 (p0 : (List GValue)) : Nat → (List GValue) → Int → Option (List GValue)
  | 0, _, _ => none
  | fu_0 + 1, y3_0, y4_0 =>
    cond (decide (y4_0 < ((List.length p0 : Nat) : Int)))
    (Option.bind (geti p0 y4_0) fun x14_2 =>
    Option.bind (app y3_0 ([x14_2] : List GValue)) fun a17_2 =>
    m_w06_Vals_l0 p0 fu_0 a17_2 (IntKind.i64.wrap (y4_0 + 1)))
    (some y3_0)
def m_w06_Vals (p0 : (List GValue)) : Option (List GValue) :=
  m_w06_Vals_l0 p0 1152921504606846976 ([] : List GValue) 0

def m_w07_Own (p0 : GEvent) : Option GEvent :=
  Option.bind (m_w06_Vals p0.Vals) fun r13_0 =>
  some (GEvent.mk p0.Time p0.Source p0.Seq p0.Type_ r13_0)

def m_w19_Pairs_l0 (p0 : (List GPair)) : Nat → (List GPair) → Int → Option (List GPair)
  | 0, _, _ => none
  | fu_0 + 1, y3_0, y4_0 =>
    cond (decide (y4_0 < ((List.length p0 : Nat) : Int)))
    (Option.bind (geti p0 y4_0) fun x14_2 =>
    Option.bind (geti p0 y4_0) fun x19_2 =>
    Option.bind (m_w07_Own x19_2.E) fun r22_2 =>
    Option.bind (app y3_0 ([(GPair.mk x14_2.Var r22_2)] : List GPair)) fun a25_2 =>
    m_w19_Pairs_l0 p0 fu_0 a25_2 (IntKind.i64.wrap (y4_0 + 1)))
    (some y3_0)
def m_w19_Pairs (p0 : (List GPair)) : Option (List GPair) :=
  m_w19_Pairs_l0 p0 1152921504606846976 ([] : List GPair) 0

def m_w22_Own (p0 : GWait) : Option GWait :=
  Option.bind (m_w19_Pairs p0.Bound) fun r5_0 =>
  Option.bind (app ([] : List Int) p0.Sets) fun a9_0 =>
  some (GWait.mk r5_0 a9_0 p0.End)

def m_w22_TrailEnds_j1 : Option Bool :=
  Option.bind m_w22_awake fun r42_2 =>
  some r42_2
def m_w22_TrailEnds_j19 : Option Bool :=
  some false
def m_w22_TrailEnds_j27 : Option Bool :=
  some false
def m_w22_TrailEnds_j25 (y22_20 : Int) (k_m_w22_TrailEnds_l20 : Int → Option Bool) (y270_25 : Bool) : Option Bool :=
  cond y270_25
  (some false)
  (k_m_w22_TrailEnds_l20 (IntKind.i64.wrap (y22_20 + 1)))
def m_w22_TrailEnds_j26 (y22_20 : Int) (k_m_w22_TrailEnds_l20 : Int → Option Bool) : Option Bool :=
  k_m_w22_TrailEnds_l20 (IntKind.i64.wrap (y22_20 + 1))
def m_w22_TrailEnds_j28 (r134_15 : ((List GWait) × GTrail)) (r141_16 : ((List GWait) × GTrail)) (x185_22 : GWait) (y22_20 : Int) (k_m_w22_TrailEnds_l20 : Int → Option Bool) : Option Bool :=
  cond (decide (((List.length x185_22.Sets : Nat) : Int) = 0))
  (some false)
  (cond (decide (y22_20 < ((List.length r134_15.1 : Nat) : Int)))
  (Option.bind (geti r134_15.1 y22_20) fun x243_24 =>
  Option.bind (m_bind_Rank x243_24.Bound x185_22.Bound) fun r248_24 =>
  cond (decide (r248_24 ≠ 0))
  (some false)
  (cond (decide (((List.length r134_15.1 : Nat) : Int) ≤ y22_20))
  (Option.bind (geti r141_16.1 (IntKind.i64.wrap (y22_20 - ((List.length r134_15.1 : Nat) : Int)))) fun x262_24 =>
  Option.bind (m_bind_Rank x262_24.Bound x185_22.Bound) fun r267_24 =>
  m_w22_TrailEnds_j25 y22_20 k_m_w22_TrailEnds_l20 (decide (r267_24 ≠ 0)))
  (m_w22_TrailEnds_j26 y22_20 k_m_w22_TrailEnds_l20)))
  (cond (decide (((List.length r134_15.1 : Nat) : Int) ≤ y22_20))
  (Option.bind (geti r141_16.1 (IntKind.i64.wrap (y22_20 - ((List.length r134_15.1 : Nat) : Int)))) fun x262_24 =>
  Option.bind (m_bind_Rank x262_24.Bound x185_22.Bound) fun r267_24 =>
  m_w22_TrailEnds_j25 y22_20 k_m_w22_TrailEnds_l20 (decide (r267_24 ≠ 0)))
  (m_w22_TrailEnds_j26 y22_20 k_m_w22_TrailEnds_l20)))
def m_w22_TrailEnds_l20 (p2 : GArr2_Int) (r134_15 : ((List GWait) × GTrail)) (r141_16 : ((List GWait) × GTrail)) (r148_17 : ((List GWait) × GTrail)) : Nat → Int → Option Bool
  | 0, _ => none
  | fu_20 + 1, y22_20 =>
    cond (decide (y22_20 < ((List.length r148_17.1 : Nat) : Int)))
    (Option.bind (geti r148_17.1 y22_20) fun x185_22 =>
    cond (decide ((0 : Int) < y22_20))
    (Option.bind (geti r148_17.1 (IntKind.i64.wrap (y22_20 - 1))) fun x193_23 =>
    cond (decide (x185_22.End < x193_23.End))
    (m_w22_TrailEnds_j27 )
    (Option.bind (geti r148_17.1 (IntKind.i64.wrap (y22_20 - 1))) fun x203_23 =>
    cond (decide (x203_23.End = x185_22.End))
    (Option.bind (geti r148_17.1 (IntKind.i64.wrap (y22_20 - 1))) fun x213_23 =>
    Option.bind (m_bind_Rank x213_23.Bound x185_22.Bound) fun r218_23 =>
    cond (decide ((0 : Int) ≤ r218_23))
    (m_w22_TrailEnds_j27 )
    (cond (decide (p2.a1 ≤ x185_22.End))
    (m_w22_TrailEnds_j27 )
    (m_w22_TrailEnds_j28 r134_15 r141_16 x185_22 y22_20 (fun y22_20 => m_w22_TrailEnds_l20 p2 r134_15 r141_16 r148_17 fu_20 y22_20))))
    (cond (decide (p2.a1 ≤ x185_22.End))
    (m_w22_TrailEnds_j27 )
    (m_w22_TrailEnds_j28 r134_15 r141_16 x185_22 y22_20 (fun y22_20 => m_w22_TrailEnds_l20 p2 r134_15 r141_16 r148_17 fu_20 y22_20)))))
    (cond (decide (p2.a1 ≤ x185_22.End))
    (m_w22_TrailEnds_j27 )
    (m_w22_TrailEnds_j28 r134_15 r141_16 x185_22 y22_20 (fun y22_20 => m_w22_TrailEnds_l20 p2 r134_15 r141_16 r148_17 fu_20 y22_20))))
    (Option.bind (m_trail_Trail_Least r141_16.2) fun r273_29 =>
    cond (!r273_29.2)
    (cond (decide (r273_29.2 = decide ((0 : Int) < ((List.length r141_16.2.L : Nat) : Int))))
    (Option.bind m_w22_awake fun r293_30 =>
    some r293_30)
    (some false))
    (cond (decide (p2.a1 ≤ r273_29.1))
    (cond (decide (r273_29.2 = decide ((0 : Int) < ((List.length r141_16.2.L : Nat) : Int))))
    (Option.bind m_w22_awake fun r293_30 =>
    some r293_30)
    (some false))
    (some false)))
def m_w22_TrailEnds_l10 (p1 : (List GArr2_Int_)) (p2 : GArr2_Int) (y9_5 : Int) : Nat → GTrail → Int → Int → Option Bool
  | 0, _, _, _ => none
  | fu_10 + 1, y7_d_10, y13_10, y14_10 =>
    cond (decide (y14_10 < ((List.length p1 : Nat) : Int)))
    (Option.bind (geti p1 y14_10) fun x92_12 =>
    Option.bind (geti p1 y14_10) fun x99_12 =>
    Option.bind (m_trail_Trail_Hit y7_d_10 (IntKind.i64.wrap (Int.tmod x92_12.a0 16)) x99_12.a1) fun r102_12 =>
    Option.bind (some ((IntKind.i64.wrap ((IntKind.i64.wrap (y13_10 + ((List.length y7_d_10.L : Nat) : Int))) - ((List.length r102_12.L : Nat) : Int))))) fun v111_13 =>
    Option.bind (some (decide ((1 : Int) < (IntKind.i64.wrap (((List.length y7_d_10.L : Nat) : Int) - ((List.length r102_12.L : Nat) : Int)))))) fun v119_14 =>
    cond v119_14
    (some false)
    (cond (decide (((List.length y7_d_10.L : Nat) : Int) < ((List.length r102_12.L : Nat) : Int)))
    (some false)
    (m_w22_TrailEnds_l10 p1 p2 y9_5 fu_10 r102_12 v111_13 (IntKind.i64.wrap (y14_10 + 1)))))
    (Option.bind (m_trail_Trail_Ripe y7_d_10 p2.a0) fun r134_15 =>
    Option.bind (m_trail_Trail_Ripe r134_15.2 p2.a1) fun r141_16 =>
    Option.bind (m_trail_Trail_Ripe y7_d_10 p2.a1) fun r148_17 =>
    Option.bind (some (decide ((IntKind.i64.wrap (((List.length r134_15.1 : Nat) : Int) + ((List.length r141_16.1 : Nat) : Int))) ≠ ((List.length r148_17.1 : Nat) : Int)))) fun v158_18 =>
    cond v158_18
    (m_w22_TrailEnds_j19 )
    (Option.bind (some ((IntKind.i64.wrap ((IntKind.i64.wrap (((List.length r148_17.1 : Nat) : Int) + ((List.length r141_16.2.L : Nat) : Int))) + y13_10)))) fun v167_18 =>
    cond (decide (v167_18 ≠ y9_5))
    (m_w22_TrailEnds_j19 )
    (Option.bind (m_trail_Same r141_16.2 r148_17.2) fun r174_18 =>
    cond (!r174_18)
    (some false)
    (m_w22_TrailEnds_l20 p2 r134_15 r141_16 r148_17 1152921504606846976 0))))
def m_w22_TrailEnds_l5 (p0 : (List GWait)) (p1 : (List GArr2_Int_)) (p2 : GArr2_Int) : Nat → Int → (List GWait) → Int → Int → Option Bool
  | 0, _, _, _, _ => none
  | fu_5 + 1, y7_d_0_5, y7_d_1_5, y9_5, y10_5 =>
    cond (decide (y10_5 < ((List.length p0 : Nat) : Int)))
    (Option.bind (geti p0 y10_5) fun x59_7 =>
    Option.bind (m_w22_Own x59_7) fun r61_7 =>
    Option.bind (m_trail_Trail_Add (GTrail.mk y7_d_0_5 y7_d_1_5) r61_7) fun r62_7 =>
    Option.bind (geti p0 y10_5) fun x69_8 =>
    cond (decide (decide (r62_7.2 = 0) ≠ decide ((0 : Int) < ((List.length x69_8.Sets : Nat) : Int))))
    (some false)
    (cond (decide (r62_7.2 = 7))
    (some false)
    (m_w22_TrailEnds_l5 p0 p1 p2 fu_5 r62_7.1.Cap r62_7.1.L ((List.length r62_7.1.L : Nat) : Int) (IntKind.i64.wrap (y10_5 + 1)))))
    (m_w22_TrailEnds_l10 p1 p2 y9_5 1152921504606846976 (GTrail.mk y7_d_0_5 y7_d_1_5) 0 0)
def m_w22_TrailEnds (p0 : (List GWait)) (p1 : (List GArr2_Int_)) (p2 : GArr2_Int) : Option Bool :=
  Option.bind (m_w22_Over (GTrail.mk 0 p0)) fun r28_0 =>
  cond (decide ((0 : Int) < r28_0))
  (m_w22_TrailEnds_j1 )
  (cond (decide ((12 : Int) < ((List.length p1 : Nat) : Int)))
  (m_w22_TrailEnds_j1 )
  (cond (decide (p2.a1 < p2.a0))
  (Option.bind m_w22_awake fun r42_3 =>
  some r42_3)
  (Option.bind (m_trail_New 12) fun r44_4 =>
  cond (decide (r44_4.2 ≠ 0))
  (some false)
  (m_w22_TrailEnds_l5 p0 p1 p2 1152921504606846976 r44_4.1.Cap r44_4.1.L 0 0))))
end Go.Proofs.Ytelhmhmgaaebpaa.K
