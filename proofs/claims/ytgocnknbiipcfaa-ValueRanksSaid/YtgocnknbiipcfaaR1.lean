/- what telltalelaw04.ValueRanks needs (1) -/
import Derived.Test.YtgocnknbiipcfaaR0
namespace Go.Proofs.Ytgocnknbiipcfaa.K
open Go.RowKit Go.Lib
set_option linter.unusedVariables false
set_option linter.unusedSimpArgs false

set_option maxRecDepth 20000 in
set_option maxHeartbeats 4000000 in
theorem ok_real_Rank (p0 : Int) (r : Int) (h : m_real_Rank p0 = some r) : GCall Try.prog 40 [(.d (.lit (.int .u64 p0)))] [] (.d (.lit (.int .u64 r))) [] := by
  refine GCall.of_body (n := 12) (rs := [(.tmp 2)]) Try.func40 rfl rfl rfl ?_
  refine Ato ⟨((.d (.lit (.int .u64 p0))) :: (tu 11 [])), [], 0⟩ ?_
  have hm := h
  unfold m_real_Rank at hm
  refine AWP.seq ?_
  refine AWP.text ?_
  refine Wy (.d (.lit (.int .u64 0))) [] (Omv rfl) ?_
  refine Walk.nil ?_
  refine Then.normal ?_
  refine Amk 1 0 ⟨((.d (.lit (.int .u64 p0))) :: (tp 11 [])), [], 0⟩ ?_
  refine AWP.seq ?_
  refine AWP.text ?_
  refine Wy (.d (.lit (.int .u64 p0))) [] (Omv rfl) ?_
  obtain ⟨r4_0, hr4_0, hm⟩ := bnd hm
  refine Wy (.d (.lit (.int .u64 r4_0))) [] (Ocf [] [] [] 0 (ok_real_Clean p0 r4_0 hr4_0) (fun a w => Try.call35 a w) rfl trivial) ?_
  refine Wy (.d (.lit (.int .u64 r4_0))) [] (Omv rfl) ?_
  refine Walk.nil ?_
  refine Then.normal ?_
  refine Amk 1 0 ⟨((.d (.lit (.int .u64 r4_0))) :: (tp 11 [])), [], 0⟩ ?_
  refine AWP.seq ?_
  refine AWP.seq ?_
  refine AWP.text ?_
  refine Wy (.d (.lit (.int .u64 r4_0))) [] (Omv rfl) ?_
  refine Wy (.d (.lit (.int .u64 (IntKind.u64.wrap (((BitVec.ofInt 64 r4_0 &&& BitVec.ofInt 64 9223372036854775808).toNat : Int)))))) [] (Ocs (by kernel_rfl) (op_bin rfl (a1 := .int .u64 r4_0) (a2 := .int .u64 9223372036854775808) (by kernel_rfl) (by kernel_rfl) (fun _ => hb_and))) ?_
  refine Wy (.d (.lit (.bool (decide ((IntKind.u64.wrap (((BitVec.ofInt 64 r4_0 &&& BitVec.ofInt 64 9223372036854775808).toNat : Int))) ≠ 0))))) [] (Obn rfl (fun _ => hb_neq (k := .u64))) ?_
  refine Walk.nil ?_
  refine Then.normal ?_
  refine Amk 129 0 ⟨((.d (.lit (.int .u64 r4_0))) :: (tp 6 ((.d (.lit (.bool (decide ((IntKind.u64.wrap (((BitVec.ofInt 64 r4_0 &&& BitVec.ofInt 64 9223372036854775808).toNat : Int))) ≠ 0))))) :: (tp 4 [])))), [], 0⟩ ?_
  rcases tf_ (decide ((IntKind.u64.wrap (((BitVec.ofInt 64 r4_0 &&& BitVec.ofInt 64 9223372036854775808).toNat : Int))) ≠ 0)) with hc7_1 | hc7_1
  · replace hm := cT hc7_1 hm
    refine AWP.if_ true (Eq.trans (by kernel_rfl) (lit_tf (b := decide ((IntKind.u64.wrap (((BitVec.ofInt 64 r4_0 &&& BitVec.ofInt 64 9223372036854775808).toNat : Int))) ≠ 0)) hc7_1)) ?_
    refine AWP.seq ?_
    refine AWP.text ?_
    refine Wy (.d (.lit (.int .u64 r4_0))) [] (Omv rfl) ?_
    refine Wy (.d (.lit (.int .u64 (IntKind.u64.wrap ((BitVec.ofInt 64 18446744073709551615 ^^^ BitVec.ofInt 64 r4_0).toNat : Int))))) [] (Ocs (by kernel_rfl) (op_un rfl (a1 := .int .u64 r4_0) (by kernel_rfl) (fun _ => hu_xor))) ?_
    refine Wy (.d (.lit (.int .u64 (IntKind.u64.wrap ((BitVec.ofInt 64 18446744073709551615 ^^^ BitVec.ofInt 64 r4_0).toNat : Int))))) [] (Omv rfl) ?_
    refine Walk.nil ?_
    refine Then.normal ?_
    refine AWP.ret ?_
    refine Then.ret ?_
    obtain rfl := Option.some.inj hm
    exact ret_i []
  · replace hm := cF hc7_1 hm
    refine AWP.if_ false (Eq.trans (by kernel_rfl) (lit_tf (b := decide ((IntKind.u64.wrap (((BitVec.ofInt 64 r4_0 &&& BitVec.ofInt 64 9223372036854775808).toNat : Int))) ≠ 0)) hc7_1)) ?_
    refine AWP.skip ?_
    refine Then.normal ?_
    refine Amk 1 0 ⟨((.d (.lit (.int .u64 r4_0))) :: (tp 11 [])), [], 0⟩ ?_
    refine AWP.seq ?_
    refine AWP.text ?_
    refine Wy (.d (.lit (.int .u64 r4_0))) [] (Omv rfl) ?_
    refine Wy (.d (.lit (.int .u64 (IntKind.u64.wrap (((BitVec.ofInt 64 r4_0 ||| BitVec.ofInt 64 9223372036854775808).toNat : Int)))))) [] (Ocs (by kernel_rfl) (op_bin rfl (a1 := .int .u64 r4_0) (a2 := .int .u64 9223372036854775808) (by kernel_rfl) (by kernel_rfl) (fun _ => hb_or))) ?_
    refine Wy (.d (.lit (.int .u64 (IntKind.u64.wrap (((BitVec.ofInt 64 r4_0 ||| BitVec.ofInt 64 9223372036854775808).toNat : Int)))))) [] (Omv rfl) ?_
    refine Walk.nil ?_
    refine Then.normal ?_
    refine AWP.ret ?_
    obtain rfl := Option.some.inj hm
    exact ret_i []

set_option maxRecDepth 20000 in
set_option maxHeartbeats 4000000 in
theorem ok_cmp_isNaN_uint64 (p0 : Int) (r : Bool) (h : m_cmp_isNaN_uint64 p0 = some r) : GCall Try.prog 57 [(.d (.lit (.int .u64 p0)))] [] (.d (.lit (.bool r))) [] := by
  refine GCall.of_body (n := 6) (rs := [(.tmp 2)]) Try.func57 rfl rfl rfl ?_
  refine Ato ⟨((.d (.lit (.int .u64 p0))) :: (tu 5 [])), [], 0⟩ ?_
  have hm := h
  unfold m_cmp_isNaN_uint64 at hm
  refine AWP.seq ?_
  refine AWP.text ?_
  refine Wy (.d (.lit (.bool false))) [] (Omv rfl) ?_
  refine Walk.nil ?_
  refine Then.normal ?_
  refine Amk 1 0 ⟨((.d (.lit (.int .u64 p0))) :: (tp 5 [])), [], 0⟩ ?_
  refine AWP.seq ?_
  refine AWP.text ?_
  refine Wy (.d (.lit (.int .u64 p0))) [] (Omv rfl) ?_
  refine Wy (.d (.lit (.int .u64 p0))) [] (Omv rfl) ?_
  refine Wy (.d (.lit (.bool (decide (p0 ≠ p0))))) [] (Obn rfl (fun _ => hb_neq (k := .u64))) ?_
  refine Wy (.d (.lit (.bool (decide (p0 ≠ p0))))) [] (Omv rfl) ?_
  refine Walk.nil ?_
  refine Then.normal ?_
  refine AWP.ret ?_
  obtain rfl := Option.some.inj hm
  exact ret_i []

set_option maxRecDepth 20000 in
set_option maxHeartbeats 4000000 in
theorem ok_cmp_Compare_uint64 (p0 : Int) (p1 : Int) (r : Int) (h : m_cmp_Compare_uint64 p0 p1 = some r) : GCall Try.prog 39 [(.d (.lit (.int .u64 p0))), (.d (.lit (.int .u64 p1)))] [] (.d (.lit (.int .i64 r))) [] := by
  refine GCall.of_body (n := 20) (rs := [(.tmp 4)]) Try.func39 rfl rfl rfl ?_
  refine Ato ⟨((.d (.lit (.int .u64 p0))) :: ((.d (.lit (.int .u64 p1))) :: (tu 18 []))), [], 0⟩ ?_
  have hm := h
  unfold m_cmp_Compare_uint64 at hm
  refine AWP.seq ?_
  refine AWP.text ?_
  refine Wy (.d (.lit (.int .i64 0))) [] (Omv rfl) ?_
  refine Walk.nil ?_
  refine Then.normal ?_
  refine Amk 3 0 ⟨((.d (.lit (.int .u64 p0))) :: ((.d (.lit (.int .u64 p1))) :: (tp 18 []))), [], 0⟩ ?_
  refine AWP.seq ?_
  refine AWP.text ?_
  refine Wy (.d (.lit (.int .u64 p0))) [] (Omv rfl) ?_
  obtain ⟨r8_0, hr8_0, hm⟩ := bnd hm
  refine Wy (.d (.lit (.bool r8_0))) [] (Ocf [] [] [] 0 (ok_cmp_isNaN_uint64 p0 r8_0 hr8_0) (fun a w => Try.call57 a w) rfl trivial) ?_
  refine Wy (.d (.lit (.bool r8_0))) [] (Omv rfl) ?_
  refine Walk.nil ?_
  refine Then.normal ?_
  refine Amk 35 0 ⟨((.d (.lit (.int .u64 p0))) :: ((.d (.lit (.int .u64 p1))) :: (tp 3 ((.d (.lit (.bool r8_0))) :: (tp 14 []))))), [], 0⟩ ?_
  refine AWP.seq ?_
  refine AWP.text ?_
  refine Wy (.d (.lit (.int .u64 p1))) [] (Omv rfl) ?_
  obtain ⟨r10_1, hr10_1, hm⟩ := bnd hm
  refine Wy (.d (.lit (.bool r10_1))) [] (Ocf [] [] [] 0 (ok_cmp_isNaN_uint64 p1 r10_1 hr10_1) (fun a w => Try.call57 a w) rfl trivial) ?_
  refine Wy (.d (.lit (.bool r10_1))) [] (Omv rfl) ?_
  refine Walk.nil ?_
  refine Then.normal ?_
  refine Amk 99 0 ⟨((.d (.lit (.int .u64 p0))) :: ((.d (.lit (.int .u64 p1))) :: (tp 3 ((.d (.lit (.bool r8_0))) :: ((.d (.lit (.bool r10_1))) :: (tp 13 [])))))), [], 0⟩ ?_
  refine AWP.seq ?_
  refine AWP.seq ?_
  refine AWP.text ?_
  refine Wy (.d (.lit (.bool r8_0))) [] (Omv rfl) ?_
  refine Walk.nil ?_
  refine Then.normal ?_
  refine Amk 2115 0 ⟨((.d (.lit (.int .u64 p0))) :: ((.d (.lit (.int .u64 p1))) :: (tp 4 ((.d (.lit (.bool r10_1))) :: (tp 4 ((.d (.lit (.bool r8_0))) :: (tp 8 []))))))), [], 0⟩ ?_
  rcases tf_ r8_0 with hc11_2 | hc11_2
  · replace hm := cT hc11_2 hm
    refine AWP.if_ true (Eq.trans (by kernel_rfl) (lit_tf (b := r8_0) hc11_2)) ?_
    refine AWP.seq ?_
    refine AWP.seq ?_
    refine AWP.text ?_
    refine Wy (.d (.lit (.bool r10_1))) [] (Omv rfl) ?_
    refine Walk.nil ?_
    refine Then.normal ?_
    refine Amk 4096 0 ⟨(tp 12 ((.d (.lit (.bool r10_1))) :: (tp 7 []))), [], 0⟩ ?_
    rcases tf_ r10_1 with hc12_3 | hc12_3
    · replace hm := cT hc12_3 hm
      refine AWP.if_ true (Eq.trans (by kernel_rfl) (lit_tf (b := r10_1) hc12_3)) ?_
      refine AWP.seq ?_
      refine AWP.text ?_
      refine Wy (.d (.lit (.int .i64 0))) [] (Omv rfl) ?_
      refine Walk.nil ?_
      refine Then.normal ?_
      refine AWP.ret ?_
      refine Then.ret ?_
      refine Then.ret ?_
      obtain rfl := Option.some.inj hm
      exact ret_i []
    · replace hm := cF hc12_3 hm
      refine AWP.if_ false (Eq.trans (by kernel_rfl) (lit_tf (b := r10_1) hc12_3)) ?_
      refine AWP.skip ?_
      refine Then.normal ?_
      refine Amk 0 0 ⟨(tp 20 []), [], 0⟩ ?_
      refine AWP.seq ?_
      refine AWP.text ?_
      refine Wy (.d (.lit (.int .i64 (-1)))) [] (Omv rfl) ?_
      refine Walk.nil ?_
      refine Then.normal ?_
      refine AWP.ret ?_
      refine Then.ret ?_
      obtain rfl := Option.some.inj hm
      exact ret_i []
  · replace hm := cF hc11_2 hm
    refine AWP.if_ false (Eq.trans (by kernel_rfl) (lit_tf (b := r8_0) hc11_2)) ?_
    refine AWP.skip ?_
    refine Then.normal ?_
    refine Amk 67 0 ⟨((.d (.lit (.int .u64 p0))) :: ((.d (.lit (.int .u64 p1))) :: (tp 4 ((.d (.lit (.bool r10_1))) :: (tp 13 []))))), [], 0⟩ ?_
    refine AWP.seq ?_
    refine AWP.seq ?_
    refine AWP.text ?_
    refine Wy (.d (.lit (.bool r10_1))) [] (Omv rfl) ?_
    refine Walk.nil ?_
    refine Then.normal ?_
    refine Amk 8195 0 ⟨((.d (.lit (.int .u64 p0))) :: ((.d (.lit (.int .u64 p1))) :: (tp 11 ((.d (.lit (.bool r10_1))) :: (tp 6 []))))), [], 0⟩ ?_
    rcases tf_ r10_1 with hc13_4 | hc13_4
    · replace hm := cT hc13_4 hm
      refine AWP.if_ true (Eq.trans (by kernel_rfl) (lit_tf (b := r10_1) hc13_4)) ?_
      refine AWP.seq ?_
      refine AWP.text ?_
      refine Wy (.d (.lit (.int .i64 1))) [] (Omv rfl) ?_
      refine Walk.nil ?_
      refine Then.normal ?_
      refine AWP.ret ?_
      refine Then.ret ?_
      obtain rfl := Option.some.inj hm
      exact ret_i []
    · replace hm := cF hc13_4 hm
      refine AWP.if_ false (Eq.trans (by kernel_rfl) (lit_tf (b := r10_1) hc13_4)) ?_
      refine AWP.skip ?_
      refine Then.normal ?_
      refine Amk 3 0 ⟨((.d (.lit (.int .u64 p0))) :: ((.d (.lit (.int .u64 p1))) :: (tp 18 []))), [], 0⟩ ?_
      refine AWP.seq ?_
      refine AWP.seq ?_
      refine AWP.text ?_
      refine Wy (.d (.lit (.int .u64 p0))) [] (Omv rfl) ?_
      refine Wy (.d (.lit (.int .u64 p1))) [] (Omv rfl) ?_
      refine Wy (.d (.lit (.bool (decide (p0 < p1))))) [] (Obn rfl (fun _ => hb_lss (k := .u64))) ?_
      refine Walk.nil ?_
      refine Then.normal ?_
      refine Amk 65539 0 ⟨((.d (.lit (.int .u64 p0))) :: ((.d (.lit (.int .u64 p1))) :: (tp 14 ((.d (.lit (.bool (decide (p0 < p1))))) :: (tp 3 []))))), [], 0⟩ ?_
      rcases tf_ (decide (p0 < p1)) with hc16_5 | hc16_5
      · replace hm := cT hc16_5 hm
        refine AWP.if_ true (Eq.trans (by kernel_rfl) (lit_tf (b := decide (p0 < p1)) hc16_5)) ?_
        refine AWP.seq ?_
        refine AWP.text ?_
        refine Wy (.d (.lit (.int .i64 (-1)))) [] (Omv rfl) ?_
        refine Walk.nil ?_
        refine Then.normal ?_
        refine AWP.ret ?_
        refine Then.ret ?_
        obtain rfl := Option.some.inj hm
        exact ret_i []
      · replace hm := cF hc16_5 hm
        refine AWP.if_ false (Eq.trans (by kernel_rfl) (lit_tf (b := decide (p0 < p1)) hc16_5)) ?_
        refine AWP.skip ?_
        refine Then.normal ?_
        refine Amk 3 0 ⟨((.d (.lit (.int .u64 p0))) :: ((.d (.lit (.int .u64 p1))) :: (tp 18 []))), [], 0⟩ ?_
        refine AWP.seq ?_
        refine AWP.seq ?_
        refine AWP.text ?_
        refine Wy (.d (.lit (.int .u64 p0))) [] (Omv rfl) ?_
        refine Wy (.d (.lit (.int .u64 p1))) [] (Omv rfl) ?_
        refine Wy (.d (.lit (.bool (decide (p1 < p0))))) [] (Obn rfl (fun _ => hb_gtr (k := .u64))) ?_
        refine Walk.nil ?_
        refine Then.normal ?_
        refine Amk 524288 0 ⟨(tp 19 ((.d (.lit (.bool (decide (p1 < p0))))) :: [])), [], 0⟩ ?_
        rcases tf_ (decide (p1 < p0)) with hc19_6 | hc19_6
        · replace hm := cT hc19_6 hm
          refine AWP.if_ true (Eq.trans (by kernel_rfl) (lit_tf (b := decide (p1 < p0)) hc19_6)) ?_
          refine AWP.seq ?_
          refine AWP.text ?_
          refine Wy (.d (.lit (.int .i64 1))) [] (Omv rfl) ?_
          refine Walk.nil ?_
          refine Then.normal ?_
          refine AWP.ret ?_
          refine Then.ret ?_
          obtain rfl := Option.some.inj hm
          exact ret_i []
        · replace hm := cF hc19_6 hm
          refine AWP.if_ false (Eq.trans (by kernel_rfl) (lit_tf (b := decide (p1 < p0)) hc19_6)) ?_
          refine AWP.skip ?_
          refine Then.normal ?_
          refine Amk 0 0 ⟨(tp 20 []), [], 0⟩ ?_
          refine AWP.seq ?_
          refine AWP.text ?_
          refine Wy (.d (.lit (.int .i64 0))) [] (Omv rfl) ?_
          refine Walk.nil ?_
          refine Then.normal ?_
          refine AWP.ret ?_
          obtain rfl := Option.some.inj hm
          exact ret_i []

set_option maxRecDepth 20000 in
set_option maxHeartbeats 4000000 in
theorem ok_cmp_isNaN_string (p0 : (List UInt8)) (r : Bool) (h : m_cmp_isNaN_string p0 = some r) : GCall Try.prog 58 [(.d (.lit (.string (toS p0))))] [] (.d (.lit (.bool r))) [] := by
  refine GCall.of_body (n := 6) (rs := [(.tmp 2)]) Try.func58 rfl rfl rfl ?_
  refine Ato ⟨((.d (.lit (.string (toS p0)))) :: (tu 5 [])), [], 0⟩ ?_
  have hm := h
  unfold m_cmp_isNaN_string at hm
  refine AWP.seq ?_
  refine AWP.text ?_
  refine Wy (.d (.lit (.bool false))) [] (Omv rfl) ?_
  refine Walk.nil ?_
  refine Then.normal ?_
  refine Amk 1 0 ⟨((.d (.lit (.string (toS p0)))) :: (tp 5 [])), [], 0⟩ ?_
  refine AWP.seq ?_
  refine AWP.text ?_
  refine Wy (.d (.lit (.string (toS p0)))) [] (Omv rfl) ?_
  refine Wy (.d (.lit (.string (toS p0)))) [] (Omv rfl) ?_
  refine Wy (.d (.lit (.bool (decide (p0 ≠ p0))))) [] (Ocs (lit_tf (by simp only [toS_inj, ne_eq])) (op_bin rfl (a1 := .string (toS p0)) (a2 := .string (toS p0)) (by kernel_rfl) (by kernel_rfl) (fun _ => hb_sneq))) ?_
  refine Wy (.d (.lit (.bool (decide (p0 ≠ p0))))) [] (Omv rfl) ?_
  refine Walk.nil ?_
  refine Then.normal ?_
  refine AWP.ret ?_
  obtain rfl := Option.some.inj hm
  exact ret_i []

set_option maxRecDepth 20000 in
set_option maxHeartbeats 4000000 in
theorem ok_cmp_Compare_string (p0 : (List UInt8)) (p1 : (List UInt8)) (r : Int) (h : m_cmp_Compare_string p0 p1 = some r) : GCall Try.prog 41 [(.d (.lit (.string (toS p0)))), (.d (.lit (.string (toS p1))))] [] (.d (.lit (.int .i64 r))) [] := by
  refine GCall.of_body (n := 20) (rs := [(.tmp 4)]) Try.func41 rfl rfl rfl ?_
  refine Ato ⟨((.d (.lit (.string (toS p0)))) :: ((.d (.lit (.string (toS p1)))) :: (tu 18 []))), [], 0⟩ ?_
  have hm := h
  unfold m_cmp_Compare_string at hm
  refine AWP.seq ?_
  refine AWP.text ?_
  refine Wy (.d (.lit (.int .i64 0))) [] (Omv rfl) ?_
  refine Walk.nil ?_
  refine Then.normal ?_
  refine Amk 3 0 ⟨((.d (.lit (.string (toS p0)))) :: ((.d (.lit (.string (toS p1)))) :: (tp 18 []))), [], 0⟩ ?_
  refine AWP.seq ?_
  refine AWP.text ?_
  refine Wy (.d (.lit (.string (toS p0)))) [] (Omv rfl) ?_
  obtain ⟨r8_0, hr8_0, hm⟩ := bnd hm
  refine Wy (.d (.lit (.bool r8_0))) [] (Ocf [] [] [] 0 (ok_cmp_isNaN_string p0 r8_0 hr8_0) (fun a w => Try.call58 a w) rfl trivial) ?_
  refine Wy (.d (.lit (.bool r8_0))) [] (Omv rfl) ?_
  refine Walk.nil ?_
  refine Then.normal ?_
  refine Amk 35 0 ⟨((.d (.lit (.string (toS p0)))) :: ((.d (.lit (.string (toS p1)))) :: (tp 3 ((.d (.lit (.bool r8_0))) :: (tp 14 []))))), [], 0⟩ ?_
  refine AWP.seq ?_
  refine AWP.text ?_
  refine Wy (.d (.lit (.string (toS p1)))) [] (Omv rfl) ?_
  obtain ⟨r10_1, hr10_1, hm⟩ := bnd hm
  refine Wy (.d (.lit (.bool r10_1))) [] (Ocf [] [] [] 0 (ok_cmp_isNaN_string p1 r10_1 hr10_1) (fun a w => Try.call58 a w) rfl trivial) ?_
  refine Wy (.d (.lit (.bool r10_1))) [] (Omv rfl) ?_
  refine Walk.nil ?_
  refine Then.normal ?_
  refine Amk 99 0 ⟨((.d (.lit (.string (toS p0)))) :: ((.d (.lit (.string (toS p1)))) :: (tp 3 ((.d (.lit (.bool r8_0))) :: ((.d (.lit (.bool r10_1))) :: (tp 13 [])))))), [], 0⟩ ?_
  refine AWP.seq ?_
  refine AWP.seq ?_
  refine AWP.text ?_
  refine Wy (.d (.lit (.bool r8_0))) [] (Omv rfl) ?_
  refine Walk.nil ?_
  refine Then.normal ?_
  refine Amk 2115 0 ⟨((.d (.lit (.string (toS p0)))) :: ((.d (.lit (.string (toS p1)))) :: (tp 4 ((.d (.lit (.bool r10_1))) :: (tp 4 ((.d (.lit (.bool r8_0))) :: (tp 8 []))))))), [], 0⟩ ?_
  rcases tf_ r8_0 with hc11_2 | hc11_2
  · replace hm := cT hc11_2 hm
    refine AWP.if_ true (Eq.trans (by kernel_rfl) (lit_tf (b := r8_0) hc11_2)) ?_
    refine AWP.seq ?_
    refine AWP.seq ?_
    refine AWP.text ?_
    refine Wy (.d (.lit (.bool r10_1))) [] (Omv rfl) ?_
    refine Walk.nil ?_
    refine Then.normal ?_
    refine Amk 4096 0 ⟨(tp 12 ((.d (.lit (.bool r10_1))) :: (tp 7 []))), [], 0⟩ ?_
    rcases tf_ r10_1 with hc12_3 | hc12_3
    · replace hm := cT hc12_3 hm
      refine AWP.if_ true (Eq.trans (by kernel_rfl) (lit_tf (b := r10_1) hc12_3)) ?_
      refine AWP.seq ?_
      refine AWP.text ?_
      refine Wy (.d (.lit (.int .i64 0))) [] (Omv rfl) ?_
      refine Walk.nil ?_
      refine Then.normal ?_
      refine AWP.ret ?_
      refine Then.ret ?_
      refine Then.ret ?_
      obtain rfl := Option.some.inj hm
      exact ret_i []
    · replace hm := cF hc12_3 hm
      refine AWP.if_ false (Eq.trans (by kernel_rfl) (lit_tf (b := r10_1) hc12_3)) ?_
      refine AWP.skip ?_
      refine Then.normal ?_
      refine Amk 0 0 ⟨(tp 20 []), [], 0⟩ ?_
      refine AWP.seq ?_
      refine AWP.text ?_
      refine Wy (.d (.lit (.int .i64 (-1)))) [] (Omv rfl) ?_
      refine Walk.nil ?_
      refine Then.normal ?_
      refine AWP.ret ?_
      refine Then.ret ?_
      obtain rfl := Option.some.inj hm
      exact ret_i []
  · replace hm := cF hc11_2 hm
    refine AWP.if_ false (Eq.trans (by kernel_rfl) (lit_tf (b := r8_0) hc11_2)) ?_
    refine AWP.skip ?_
    refine Then.normal ?_
    refine Amk 67 0 ⟨((.d (.lit (.string (toS p0)))) :: ((.d (.lit (.string (toS p1)))) :: (tp 4 ((.d (.lit (.bool r10_1))) :: (tp 13 []))))), [], 0⟩ ?_
    refine AWP.seq ?_
    refine AWP.seq ?_
    refine AWP.text ?_
    refine Wy (.d (.lit (.bool r10_1))) [] (Omv rfl) ?_
    refine Walk.nil ?_
    refine Then.normal ?_
    refine Amk 8195 0 ⟨((.d (.lit (.string (toS p0)))) :: ((.d (.lit (.string (toS p1)))) :: (tp 11 ((.d (.lit (.bool r10_1))) :: (tp 6 []))))), [], 0⟩ ?_
    rcases tf_ r10_1 with hc13_4 | hc13_4
    · replace hm := cT hc13_4 hm
      refine AWP.if_ true (Eq.trans (by kernel_rfl) (lit_tf (b := r10_1) hc13_4)) ?_
      refine AWP.seq ?_
      refine AWP.text ?_
      refine Wy (.d (.lit (.int .i64 1))) [] (Omv rfl) ?_
      refine Walk.nil ?_
      refine Then.normal ?_
      refine AWP.ret ?_
      refine Then.ret ?_
      obtain rfl := Option.some.inj hm
      exact ret_i []
    · replace hm := cF hc13_4 hm
      refine AWP.if_ false (Eq.trans (by kernel_rfl) (lit_tf (b := r10_1) hc13_4)) ?_
      refine AWP.skip ?_
      refine Then.normal ?_
      refine Amk 3 0 ⟨((.d (.lit (.string (toS p0)))) :: ((.d (.lit (.string (toS p1)))) :: (tp 18 []))), [], 0⟩ ?_
      refine AWP.seq ?_
      refine AWP.seq ?_
      refine AWP.text ?_
      refine Wy (.d (.lit (.string (toS p0)))) [] (Omv rfl) ?_
      refine Wy (.d (.lit (.string (toS p1)))) [] (Omv rfl) ?_
      refine Wy (.d (.lit (.bool (ltS p0 p1)))) [] (op_bin rfl (a1 := .string (toS p0)) (a2 := .string (toS p1)) (by kernel_rfl) (by kernel_rfl) (fun _ => hb_tlss)) ?_
      refine Walk.nil ?_
      refine Then.normal ?_
      refine Amk 65539 0 ⟨((.d (.lit (.string (toS p0)))) :: ((.d (.lit (.string (toS p1)))) :: (tp 14 ((.d (.lit (.bool (ltS p0 p1)))) :: (tp 3 []))))), [], 0⟩ ?_
      rcases tf_ (ltS p0 p1) with hc16_5 | hc16_5
      · replace hm := cT hc16_5 hm
        refine AWP.if_ true (Eq.trans (by kernel_rfl) (lit_tf (b := (ltS p0 p1)) hc16_5)) ?_
        refine AWP.seq ?_
        refine AWP.text ?_
        refine Wy (.d (.lit (.int .i64 (-1)))) [] (Omv rfl) ?_
        refine Walk.nil ?_
        refine Then.normal ?_
        refine AWP.ret ?_
        refine Then.ret ?_
        obtain rfl := Option.some.inj hm
        exact ret_i []
      · replace hm := cF hc16_5 hm
        refine AWP.if_ false (Eq.trans (by kernel_rfl) (lit_tf (b := (ltS p0 p1)) hc16_5)) ?_
        refine AWP.skip ?_
        refine Then.normal ?_
        refine Amk 3 0 ⟨((.d (.lit (.string (toS p0)))) :: ((.d (.lit (.string (toS p1)))) :: (tp 18 []))), [], 0⟩ ?_
        refine AWP.seq ?_
        refine AWP.seq ?_
        refine AWP.text ?_
        refine Wy (.d (.lit (.string (toS p0)))) [] (Omv rfl) ?_
        refine Wy (.d (.lit (.string (toS p1)))) [] (Omv rfl) ?_
        refine Wy (.d (.lit (.bool (gtS p0 p1)))) [] (op_bin rfl (a1 := .string (toS p0)) (a2 := .string (toS p1)) (by kernel_rfl) (by kernel_rfl) (fun _ => hb_tgtr)) ?_
        refine Walk.nil ?_
        refine Then.normal ?_
        refine Amk 524288 0 ⟨(tp 19 ((.d (.lit (.bool (gtS p0 p1)))) :: [])), [], 0⟩ ?_
        rcases tf_ (gtS p0 p1) with hc19_6 | hc19_6
        · replace hm := cT hc19_6 hm
          refine AWP.if_ true (Eq.trans (by kernel_rfl) (lit_tf (b := (gtS p0 p1)) hc19_6)) ?_
          refine AWP.seq ?_
          refine AWP.text ?_
          refine Wy (.d (.lit (.int .i64 1))) [] (Omv rfl) ?_
          refine Walk.nil ?_
          refine Then.normal ?_
          refine AWP.ret ?_
          refine Then.ret ?_
          obtain rfl := Option.some.inj hm
          exact ret_i []
        · replace hm := cF hc19_6 hm
          refine AWP.if_ false (Eq.trans (by kernel_rfl) (lit_tf (b := (gtS p0 p1)) hc19_6)) ?_
          refine AWP.skip ?_
          refine Then.normal ?_
          refine Amk 0 0 ⟨(tp 20 []), [], 0⟩ ?_
          refine AWP.seq ?_
          refine AWP.text ?_
          refine Wy (.d (.lit (.int .i64 0))) [] (Omv rfl) ?_
          refine Walk.nil ?_
          refine Then.normal ?_
          refine AWP.ret ?_
          obtain rfl := Option.some.inj hm
          exact ret_i []

set_option maxRecDepth 20000 in
set_option maxHeartbeats 4000000 in
theorem ok_value_Rank (p0 : GValue) (p1 : GValue) (r : Int) (h : m_value_Rank p0 p1 = some r) : GCall Try.prog 14 [(.agg [(.d (byteD p0.Kind)), (.d (.lit (.int .i64 p0.N))), (.d (.lit (.int .u64 p0.Bits))), (.d (.lit (.string (toS p0.Text))))]), (.agg [(.d (byteD p1.Kind)), (.d (.lit (.int .i64 p1.N))), (.d (.lit (.int .u64 p1.Bits))), (.d (.lit (.string (toS p1.Text))))])] [] (.d (.lit (.int .i64 r))) [] := by
  refine GCall.of_body (n := 40) (rs := [(.tmp 4)]) Try.func14 rfl rfl rfl ?_
  refine Ato ⟨((.agg [(.d (byteD p0.Kind)), (.d (.lit (.int .i64 p0.N))), (.d (.lit (.int .u64 p0.Bits))), (.d (.lit (.string (toS p0.Text))))]) :: ((.agg [(.d (byteD p1.Kind)), (.d (.lit (.int .i64 p1.N))), (.d (.lit (.int .u64 p1.Bits))), (.d (.lit (.string (toS p1.Text))))]) :: (tu 38 []))), [], 0⟩ ?_
  have hm := h
  unfold m_value_Rank at hm
  refine AWP.seq ?_
  refine AWP.text ?_
  refine Wy (.loc 0 0) [(0, (.box [(.d (byteD p0.Kind)), (.d (.lit (.int .i64 p0.N))), (.d (.lit (.int .u64 p0.Bits))), (.d (.lit (.string (toS p0.Text))))]))] (Obx rfl) ?_
  refine Wy (.loc 1 0) [(1, (.box [(.d (byteD p1.Kind)), (.d (.lit (.int .i64 p1.N))), (.d (.lit (.int .u64 p1.Bits))), (.d (.lit (.string (toS p1.Text))))]))] (Obx rfl) ?_
  refine Wy (.d (.lit (.int .i64 0))) [] (Omv rfl) ?_
  refine Walk.nil ?_
  refine Then.normal ?_
  refine Amk 12 3 ⟨(tp 2 ((.loc 0 0) :: ((.loc 1 0) :: (tp 36 [])))), [(.box [(.d (byteD p0.Kind)), (.d (.lit (.int .i64 p0.N))), (.d (.lit (.int .u64 p0.Bits))), (.d (.lit (.string (toS p0.Text))))]), (.box [(.d (byteD p1.Kind)), (.d (.lit (.int .i64 p1.N))), (.d (.lit (.int .u64 p1.Bits))), (.d (.lit (.string (toS p1.Text))))])], 0⟩ ?_
  refine AWP.seq ?_
  refine AWP.seq ?_
  refine AWP.text ?_
  refine Wy (.loc 0 0) [] (Ofa rfl) ?_
  refine Wy (.d (byteD p0.Kind)) [] (Old rfl) ?_
  refine Wy (.loc 1 0) [] (Ofa rfl) ?_
  refine Wy (.d (byteD p1.Kind)) [] (Old rfl) ?_
  obtain ⟨r10_0, hr10_0, hm⟩ := bnd hm
  refine Wy (.d (.lit (.int .i64 r10_0))) [] (Ocf [] [] [] 0 (ok_cmp_Compare_uint8 p0.Kind p1.Kind r10_0 hr10_0) (fun a w => Try.call37 a w) rfl trivial) ?_
  refine Wy (.d (.lit (.int .i64 r10_0))) [] (Omv rfl) ?_
  refine Walk.nil ?_
  refine Then.normal ?_
  refine Amk 44 3 ⟨(tp 2 ((.loc 0 0) :: ((.loc 1 0) :: (tp 1 ((.d (.lit (.int .i64 r10_0))) :: (tp 34 [])))))), [(.box [(.d (byteD p0.Kind)), (.d (.lit (.int .i64 p0.N))), (.d (.lit (.int .u64 p0.Bits))), (.d (.lit (.string (toS p0.Text))))]), (.box [(.d (byteD p1.Kind)), (.d (.lit (.int .i64 p1.N))), (.d (.lit (.int .u64 p1.Bits))), (.d (.lit (.string (toS p1.Text))))])], 0⟩ ?_
  refine AWP.seq ?_
  refine AWP.text ?_
  refine Wy (.d (.lit (.int .i64 r10_0))) [] (Omv rfl) ?_
  refine Wy (.d (.lit (.bool (decide (r10_0 ≠ 0))))) [] (Obn rfl (fun _ => hb_neq (k := .i64))) ?_
  refine Walk.nil ?_
  refine Then.normal ?_
  refine Amk 4140 3 ⟨(tp 2 ((.loc 0 0) :: ((.loc 1 0) :: (tp 1 ((.d (.lit (.int .i64 r10_0))) :: (tp 6 ((.d (.lit (.bool (decide (r10_0 ≠ 0))))) :: (tp 27 [])))))))), [(.box [(.d (byteD p0.Kind)), (.d (.lit (.int .i64 p0.N))), (.d (.lit (.int .u64 p0.Bits))), (.d (.lit (.string (toS p0.Text))))]), (.box [(.d (byteD p1.Kind)), (.d (.lit (.int .i64 p1.N))), (.d (.lit (.int .u64 p1.Bits))), (.d (.lit (.string (toS p1.Text))))])], 0⟩ ?_
  rcases tf_ (decide (r10_0 ≠ 0)) with hc12_5 | hc12_5
  · replace hm := cT hc12_5 hm
    refine AWP.if_ true (Eq.trans (by kernel_rfl) (lit_tf (b := decide (r10_0 ≠ 0)) hc12_5)) ?_
    refine AWP.seq ?_
    refine AWP.text ?_
    refine Wy (.d (.lit (.int .i64 r10_0))) [] (Omv rfl) ?_
    refine Wy (.d (.lit (.int .i64 r10_0))) [] (Omv rfl) ?_
    refine Walk.nil ?_
    refine Then.normal ?_
    refine AWP.ret ?_
    refine Then.ret ?_
    obtain rfl := Option.some.inj hm
    exact ret_i []
  · replace hm := cF hc12_5 hm
    refine AWP.if_ false (Eq.trans (by kernel_rfl) (lit_tf (b := decide (r10_0 ≠ 0)) hc12_5)) ?_
    refine AWP.skip ?_
    refine Then.normal ?_
    refine Amk 12 3 ⟨(tp 2 ((.loc 0 0) :: ((.loc 1 0) :: (tp 36 [])))), [(.box [(.d (byteD p0.Kind)), (.d (.lit (.int .i64 p0.N))), (.d (.lit (.int .u64 p0.Bits))), (.d (.lit (.string (toS p0.Text))))]), (.box [(.d (byteD p1.Kind)), (.d (.lit (.int .i64 p1.N))), (.d (.lit (.int .u64 p1.Bits))), (.d (.lit (.string (toS p1.Text))))])], 0⟩ ?_
    refine AWP.seq ?_
    refine AWP.seq ?_
    refine AWP.text ?_
    refine Wy (.loc 0 0) [] (Ofa rfl) ?_
    refine Wy (.d (byteD p0.Kind)) [] (Old rfl) ?_
    refine Walk.nil ?_
    refine Then.normal ?_
    refine Amk 32780 3 ⟨(tp 2 ((.loc 0 0) :: ((.loc 1 0) :: (tp 11 ((.d (byteD p0.Kind)) :: (tp 24 [])))))), [(.box [(.d (byteD p0.Kind)), (.d (.lit (.int .i64 p0.N))), (.d (.lit (.int .u64 p0.Bits))), (.d (.lit (.string (toS p0.Text))))]), (.box [(.d (byteD p1.Kind)), (.d (.lit (.int .i64 p1.N))), (.d (.lit (.int .u64 p1.Bits))), (.d (.lit (.string (toS p1.Text))))])], 0⟩ ?_
    refine AWP.block ?_
    refine AWP.cutJ (α := Bool) (fun x => match x with | y16_1 => (⟨(tp 2 ((.loc 0 0) :: ((.loc 1 0) :: (tp 11 ((.d (byteD p0.Kind)) :: ((.d (.lit (.bool y16_1))) :: (tp 23 []))))))), [(.box [(.d (byteD p0.Kind)), (.d (.lit (.int .i64 p0.N))), (.d (.lit (.int .u64 p0.Bits))), (.d (.lit (.string (toS p0.Text))))]), (.box [(.d (byteD p1.Kind)), (.d (.lit (.int .i64 p1.N))), (.d (.lit (.int .u64 p1.Bits))), (.d (.lit (.string (toS p1.Text))))])], 0⟩ : St)) (fun x => match x with | y16_1 => m_value_Rank_j1 p0 p1 y16_1 = some r) ?_ (fun J1 => ?_)
    · rintro y16_1 hm
      try dsimp only at hm ⊢
      unfold m_value_Rank_j1 at hm
      rcases tf_ y16_1 with hc16_1 | hc16_1
      · replace hm := cT hc16_1 hm
        refine AWP.if_ true (Eq.trans (by kernel_rfl) (lit_tf (b := y16_1) hc16_1)) ?_
        refine AWP.seq ?_
        refine AWP.text ?_
        refine Wy (.loc 0 1) [] (Ofa rfl) ?_
        refine Wy (.d (.lit (.int .i64 p0.N))) [] (Old rfl) ?_
        refine Wy (.loc 1 1) [] (Ofa rfl) ?_
        refine Wy (.d (.lit (.int .i64 p1.N))) [] (Old rfl) ?_
        obtain ⟨r23_2, hr23_2, hm⟩ := bnd hm
        refine Wy (.d (.lit (.int .i64 r23_2))) [] (Ocf [] [] [] 0 (ok_cmp_Compare_int p0.N p1.N r23_2 hr23_2) (fun a w => Try.call38 a w) rfl trivial) ?_
        refine Wy (.d (.lit (.int .i64 r23_2))) [] (Omv rfl) ?_
        refine Walk.nil ?_
        refine Then.normal ?_
        refine AWP.ret ?_
        refine InBlock.ret ?_
        refine Then.ret ?_
        obtain rfl := Option.some.inj hm
        exact ret_i []
      · replace hm := cF hc16_1 hm
        refine AWP.if_ false (Eq.trans (by kernel_rfl) (lit_tf (b := y16_1) hc16_1)) ?_
        refine AWP.seq ?_
        refine AWP.text ?_
        refine Wy (.d (.lit (.bool (decide (((p0.Kind.toNat : Nat) : Int) = 3))))) [] (Ocs (by kernel_rfl) (op_bin rfl (a1 := .int .u8 ((p0.Kind.toNat : Nat) : Int)) (a2 := .int .u8 3) (by kernel_rfl) (by kernel_rfl) (fun _ => hb_eql))) ?_
        refine Wy (.d (.lit (.bool (decide (((p0.Kind.toNat : Nat) : Int) = 3))))) [] (Omv rfl) ?_
        refine Walk.nil ?_
        refine Then.normal ?_
        refine Amk 16809996 3 ⟨(tp 2 ((.loc 0 0) :: ((.loc 1 0) :: (tp 11 ((.d (byteD p0.Kind)) :: (tp 8 ((.d (.lit (.bool (decide (((p0.Kind.toNat : Nat) : Int) = 3))))) :: (tp 15 [])))))))), [(.box [(.d (byteD p0.Kind)), (.d (.lit (.int .i64 p0.N))), (.d (.lit (.int .u64 p0.Bits))), (.d (.lit (.string (toS p0.Text))))]), (.box [(.d (byteD p1.Kind)), (.d (.lit (.int .i64 p1.N))), (.d (.lit (.int .u64 p1.Bits))), (.d (.lit (.string (toS p1.Text))))])], 0⟩ ?_
        rcases tf_ (decide (((p0.Kind.toNat : Nat) : Int) = 3)) with hc24_6 | hc24_6
        · replace hm := cT hc24_6 hm
          refine AWP.if_ true (Eq.trans (by kernel_rfl) (lit_tf (b := decide (((p0.Kind.toNat : Nat) : Int) = 3)) hc24_6)) ?_
          refine AWP.seq ?_
          refine Adr ?_
          refine Wy (.loc 0 2) [] (Ofa rfl) ?_
          refine Wy (.d (.lit (.int .u64 p0.Bits))) [] (Old rfl) ?_
          obtain ⟨r28_3, hr28_3, hm⟩ := bnd hm
          refine Wy (.d (.lit (.int .u64 r28_3))) [] (Ocf [] [] [] 0 (ok_real_Rank p0.Bits r28_3 hr28_3) (fun a w => Try.call40 a w) rfl trivial) ?_
          refine Wy (.loc 1 2) [] (Ofa rfl) ?_
          refine Wy (.d (.lit (.int .u64 p1.Bits))) [] (Old rfl) ?_
          obtain ⟨r31_3, hr31_3, hm⟩ := bnd hm
          refine Wy (.d (.lit (.int .u64 r31_3))) [] (Ocf [] [] [] 0 (ok_real_Rank p1.Bits r31_3 hr31_3) (fun a w => Try.call40 a w) rfl trivial) ?_
          obtain ⟨r32_3, hr32_3, hm⟩ := bnd hm
          refine Wy (.d (.lit (.int .i64 r32_3))) [] (Ocf [] [] [] 0 (ok_cmp_Compare_uint64 r28_3 r31_3 r32_3 hr32_3) (fun a w => Try.call39 a w) rfl trivial) ?_
          refine Wy (.d (.lit (.int .i64 r32_3))) [] (Omv rfl) ?_
          refine Wdr ?_
          refine Then.normal ?_
          refine AWP.ret ?_
          refine InBlock.ret ?_
          refine Then.ret ?_
          obtain rfl := Option.some.inj hm
          exact ret_i []
        · replace hm := cF hc24_6 hm
          refine AWP.if_ false (Eq.trans (by kernel_rfl) (lit_tf (b := decide (((p0.Kind.toNat : Nat) : Int) = 3)) hc24_6)) ?_
          refine AWP.seq ?_
          refine AWP.text ?_
          refine Wy (.d (.lit (.bool (decide (((p0.Kind.toNat : Nat) : Int) = 4))))) [] (Ocs (by kernel_rfl) (op_bin rfl (a1 := .int .u8 ((p0.Kind.toNat : Nat) : Int)) (a2 := .int .u8 4) (by kernel_rfl) (by kernel_rfl) (fun _ => hb_eql))) ?_
          refine Wy (.d (.lit (.bool (decide (((p0.Kind.toNat : Nat) : Int) = 4))))) [] (Omv rfl) ?_
          refine Walk.nil ?_
          refine Then.normal ?_
          refine Amk 8589934604 3 ⟨(tp 2 ((.loc 0 0) :: ((.loc 1 0) :: (tp 29 ((.d (.lit (.bool (decide (((p0.Kind.toNat : Nat) : Int) = 4))))) :: (tp 6 [])))))), [(.box [(.d (byteD p0.Kind)), (.d (.lit (.int .i64 p0.N))), (.d (.lit (.int .u64 p0.Bits))), (.d (.lit (.string (toS p0.Text))))]), (.box [(.d (byteD p1.Kind)), (.d (.lit (.int .i64 p1.N))), (.d (.lit (.int .u64 p1.Bits))), (.d (.lit (.string (toS p1.Text))))])], 0⟩ ?_
          rcases tf_ (decide (((p0.Kind.toNat : Nat) : Int) = 4)) with hc33_7 | hc33_7
          · replace hm := cT hc33_7 hm
            refine AWP.if_ true (Eq.trans (by kernel_rfl) (lit_tf (b := decide (((p0.Kind.toNat : Nat) : Int) = 4)) hc33_7)) ?_
            refine AWP.seq ?_
            refine AWP.text ?_
            refine Wy (.loc 0 3) [] (Ofa rfl) ?_
            refine Wy (.d (.lit (.string (toS p0.Text)))) [] (Old rfl) ?_
            refine Wy (.loc 1 3) [] (Ofa rfl) ?_
            refine Wy (.d (.lit (.string (toS p1.Text)))) [] (Old rfl) ?_
            obtain ⟨r39_4, hr39_4, hm⟩ := bnd hm
            refine Wy (.d (.lit (.int .i64 r39_4))) [] (Ocf [] [] [] 0 (ok_cmp_Compare_string p0.Text p1.Text r39_4 hr39_4) (fun a w => Try.call41 a w) rfl trivial) ?_
            refine Wy (.d (.lit (.int .i64 r39_4))) [] (Omv rfl) ?_
            refine Walk.nil ?_
            refine Then.normal ?_
            refine AWP.ret ?_
            refine InBlock.ret ?_
            refine Then.ret ?_
            obtain rfl := Option.some.inj hm
            exact ret_i []
          · replace hm := cF hc33_7 hm
            refine AWP.if_ false (Eq.trans (by kernel_rfl) (lit_tf (b := decide (((p0.Kind.toNat : Nat) : Int) = 4)) hc33_7)) ?_
            refine AWP.skip ?_
            refine InBlock.normal ?_
            refine Then.normal ?_
            refine Amk 0 0 ⟨(tp 40 []), [.gone, .gone], 0⟩ ?_
            refine AWP.seq ?_
            refine AWP.text ?_
            refine Wy (.d (.lit (.int .i64 0))) [] (Omv rfl) ?_
            refine Walk.nil ?_
            refine Then.normal ?_
            refine AWP.ret ?_
            obtain rfl := Option.some.inj hm
            exact ret_i []
    refine AWP.seq ?_
    refine AWP.seq ?_
    refine AWP.text ?_
    refine Wy (.d (.lit (.bool (decide (((p0.Kind.toNat : Nat) : Int) = 1))))) [] (Ocs (by kernel_rfl) (op_bin rfl (a1 := .int .u8 ((p0.Kind.toNat : Nat) : Int)) (a2 := .int .u8 1) (by kernel_rfl) (by kernel_rfl) (fun _ => hb_eql))) ?_
    refine Wy (.d (.lit (.bool (decide (((p0.Kind.toNat : Nat) : Int) = 1))))) [] (Omv rfl) ?_
    refine Walk.nil ?_
    refine Then.normal ?_
    refine Amk 98316 3 ⟨(tp 2 ((.loc 0 0) :: ((.loc 1 0) :: (tp 11 ((.d (byteD p0.Kind)) :: ((.d (.lit (.bool (decide (((p0.Kind.toNat : Nat) : Int) = 1))))) :: (tp 23 []))))))), [(.box [(.d (byteD p0.Kind)), (.d (.lit (.int .i64 p0.N))), (.d (.lit (.int .u64 p0.Bits))), (.d (.lit (.string (toS p0.Text))))]), (.box [(.d (byteD p1.Kind)), (.d (.lit (.int .i64 p1.N))), (.d (.lit (.int .u64 p1.Bits))), (.d (.lit (.string (toS p1.Text))))])], 0⟩ ?_
    rcases tf_ (decide (((p0.Kind.toNat : Nat) : Int) = 1)) with hc16_8 | hc16_8
    · replace hm := cT hc16_8 hm
      refine AWP.if_ true (Eq.trans (by kernel_rfl) (lit_tf (b := decide (((p0.Kind.toNat : Nat) : Int) = 1)) hc16_8)) ?_
      refine AWP.skip ?_
      refine Then.normal ?_
      exact AWP.weak (Weak.toK 98316 0 0 [0, 1]) (J1 (decide (((p0.Kind.toNat : Nat) : Int) = 1)) hm)
    · replace hm := cF hc16_8 hm
      refine AWP.if_ false (Eq.trans (by kernel_rfl) (lit_tf (b := decide (((p0.Kind.toNat : Nat) : Int) = 1)) hc16_8)) ?_
      refine AWP.text ?_
      refine Wy (.d (.lit (.bool (decide (((p0.Kind.toNat : Nat) : Int) = 2))))) [] (Ocs (by kernel_rfl) (op_bin rfl (a1 := .int .u8 ((p0.Kind.toNat : Nat) : Int)) (a2 := .int .u8 2) (by kernel_rfl) (by kernel_rfl) (fun _ => hb_eql))) ?_
      refine Wy (.d (.lit (.bool (decide (((p0.Kind.toNat : Nat) : Int) = 2))))) [] (Omv rfl) ?_
      refine Walk.nil ?_
      refine Then.normal ?_
      exact AWP.weak (Weak.toK 98316 0 0 [0, 1]) (J1 (decide (((p0.Kind.toNat : Nat) : Int) = 2)) hm)

set_option maxRecDepth 20000 in
set_option maxHeartbeats 4000000 in
theorem ok_value_OfReal (p0 : Int) (r : GValue) (h : m_value_OfReal p0 = some r) : GCall Try.prog 20 [(.d (.lit (.int .u64 p0)))] [] (.agg [(.d (byteD r.Kind)), (.d (.lit (.int .i64 r.N))), (.d (.lit (.int .u64 r.Bits))), (.d (.lit (.string (toS r.Text))))]) [] := by
  refine GCall.of_body (n := 6) (rs := [(.cell 2 31)]) Try.func20 rfl rfl rfl ?_
  refine Ato ⟨((.d (.lit (.int .u64 p0))) :: (tu 5 [])), [], 0⟩ ?_
  have hm := h
  unfold m_value_OfReal at hm
  refine AWP.seq ?_
  refine AWP.text ?_
  refine Wy (.loc 0 0) [(0, (.box [(.d (byteD 0)), (.d (.lit (.int .i64 0))), (.d (.lit (.int .u64 0))), (.d (.lit (.string (toS ([] : List UInt8)))))]))] (Oal rfl) ?_
  refine Walk.nil ?_
  refine Then.normal ?_
  refine Amk 5 1 ⟨((.d (.lit (.int .u64 p0))) :: (tp 1 ((.loc 0 0) :: (tp 3 [])))), [(.box [(.d (byteD 0)), (.d (.lit (.int .i64 0))), (.d (.lit (.int .u64 0))), (.d (.lit (.string (toS ([] : List UInt8)))))])], 0⟩ ?_
  refine AWP.seq ?_
  refine AWP.text ?_
  refine Wy (.d (.lit (.int .u64 p0))) [] (Omv rfl) ?_
  obtain ⟨r4_0, hr4_0, hm⟩ := bnd hm
  refine Wy (.d (.lit (.int .u64 r4_0))) [] (Ocf [] [] [] 0 (ok_real_Clean p0 r4_0 hr4_0) (fun a w => Try.call35 a w) rfl trivial) ?_
  refine Wy (.agg [(.d (byteD 3)), (.d (.lit (.int .i64 0))), (.d (.lit (.int .u64 r4_0))), (.d (.lit (.string (toS ([] : List UInt8)))))]) [] (Obd rfl) ?_
  refine Wy (.tup []) [(0, (.box [(.d (byteD 3)), (.d (.lit (.int .i64 0))), (.d (.lit (.int .u64 r4_0))), (.d (.lit (.string (toS ([] : List UInt8)))))]))] (Ost rfl) ?_
  refine Walk.nil ?_
  refine Then.normal ?_
  refine AWP.ret ?_
  obtain rfl := Option.some.inj hm
  exact ret_i []

set_option maxRecDepth 20000 in
set_option maxHeartbeats 4000000 in
theorem ok_value_Word (p0 : UInt8) (r : (List UInt8)) (h : m_value_Word p0 = some r) : GCall Try.prog 26 [(.d (byteD p0))] [] (.d (.lit (.string (toS r)))) [] := by
  refine GCall.of_body (n := 12) (rs := [(.tmp 2)]) Try.func26 rfl rfl rfl ?_
  refine Ato ⟨((.d (byteD p0)) :: (tu 11 [])), [], 0⟩ ?_
  have hm := h
  unfold m_value_Word at hm
  refine AWP.seq ?_
  refine AWP.text ?_
  refine Wy (.d (.lit (.string (toS ([] : List UInt8))))) [] (Omv rfl) ?_
  refine Walk.nil ?_
  refine Then.normal ?_
  refine Amk 1 0 ⟨((.d (byteD p0)) :: (tp 11 [])), [], 0⟩ ?_
  refine AWP.seq ?_
  refine AWP.seq ?_
  refine AWP.text ?_
  refine Wy (.d (byteD p0)) [] (Omv rfl) ?_
  refine Walk.nil ?_
  refine Then.normal ?_
  refine Amk 8 0 ⟨(tp 3 ((.d (byteD p0)) :: (tp 8 []))), [], 0⟩ ?_
  refine AWP.block ?_
  refine AWP.seq ?_
  refine AWP.text ?_
  refine Wy (.d (.lit (.bool (decide (((p0.toNat : Nat) : Int) = 1))))) [] (Ocs (by kernel_rfl) (op_bin rfl (a1 := .int .u8 ((p0.toNat : Nat) : Int)) (a2 := .int .u8 1) (by kernel_rfl) (by kernel_rfl) (fun _ => hb_eql))) ?_
  refine Wy (.d (.lit (.bool (decide (((p0.toNat : Nat) : Int) = 1))))) [] (Omv rfl) ?_
  refine Walk.nil ?_
  refine Then.normal ?_
  refine Amk 24 0 ⟨(tp 3 ((.d (byteD p0)) :: ((.d (.lit (.bool (decide (((p0.toNat : Nat) : Int) = 1))))) :: (tp 7 [])))), [], 0⟩ ?_
  rcases tf_ (decide (((p0.toNat : Nat) : Int) = 1)) with hc4_0 | hc4_0
  · replace hm := cT hc4_0 hm
    refine AWP.if_ true (Eq.trans (by kernel_rfl) (lit_tf (b := decide (((p0.toNat : Nat) : Int) = 1)) hc4_0)) ?_
    refine AWP.seq ?_
    refine AWP.text ?_
    refine Wy (.d (.lit (.string (toS ([105, 110, 116] : List UInt8))))) [] (Omv rfl) ?_
    refine Walk.nil ?_
    refine Then.normal ?_
    refine AWP.ret ?_
    refine InBlock.ret ?_
    refine Then.ret ?_
    obtain rfl := Option.some.inj hm
    exact ret_i []
  · replace hm := cF hc4_0 hm
    refine AWP.if_ false (Eq.trans (by kernel_rfl) (lit_tf (b := decide (((p0.toNat : Nat) : Int) = 1)) hc4_0)) ?_
    refine AWP.seq ?_
    refine AWP.text ?_
    refine Wy (.d (.lit (.bool (decide (((p0.toNat : Nat) : Int) = 2))))) [] (Ocs (by kernel_rfl) (op_bin rfl (a1 := .int .u8 ((p0.toNat : Nat) : Int)) (a2 := .int .u8 2) (by kernel_rfl) (by kernel_rfl) (fun _ => hb_eql))) ?_
    refine Wy (.d (.lit (.bool (decide (((p0.toNat : Nat) : Int) = 2))))) [] (Omv rfl) ?_
    refine Walk.nil ?_
    refine Then.normal ?_
    refine Amk 72 0 ⟨(tp 3 ((.d (byteD p0)) :: (tp 2 ((.d (.lit (.bool (decide (((p0.toNat : Nat) : Int) = 2))))) :: (tp 5 []))))), [], 0⟩ ?_
    rcases tf_ (decide (((p0.toNat : Nat) : Int) = 2)) with hc6_1 | hc6_1
    · replace hm := cT hc6_1 hm
      refine AWP.if_ true (Eq.trans (by kernel_rfl) (lit_tf (b := decide (((p0.toNat : Nat) : Int) = 2)) hc6_1)) ?_
      refine AWP.seq ?_
      refine AWP.text ?_
      refine Wy (.d (.lit (.string (toS ([102, 108, 97, 103] : List UInt8))))) [] (Omv rfl) ?_
      refine Walk.nil ?_
      refine Then.normal ?_
      refine AWP.ret ?_
      refine InBlock.ret ?_
      refine Then.ret ?_
      obtain rfl := Option.some.inj hm
      exact ret_i []
    · replace hm := cF hc6_1 hm
      refine AWP.if_ false (Eq.trans (by kernel_rfl) (lit_tf (b := decide (((p0.toNat : Nat) : Int) = 2)) hc6_1)) ?_
      refine AWP.seq ?_
      refine AWP.text ?_
      refine Wy (.d (.lit (.bool (decide (((p0.toNat : Nat) : Int) = 3))))) [] (Ocs (by kernel_rfl) (op_bin rfl (a1 := .int .u8 ((p0.toNat : Nat) : Int)) (a2 := .int .u8 3) (by kernel_rfl) (by kernel_rfl) (fun _ => hb_eql))) ?_
      refine Wy (.d (.lit (.bool (decide (((p0.toNat : Nat) : Int) = 3))))) [] (Omv rfl) ?_
      refine Walk.nil ?_
      refine Then.normal ?_
      refine Amk 264 0 ⟨(tp 3 ((.d (byteD p0)) :: (tp 4 ((.d (.lit (.bool (decide (((p0.toNat : Nat) : Int) = 3))))) :: (tp 3 []))))), [], 0⟩ ?_
      rcases tf_ (decide (((p0.toNat : Nat) : Int) = 3)) with hc8_2 | hc8_2
      · replace hm := cT hc8_2 hm
        refine AWP.if_ true (Eq.trans (by kernel_rfl) (lit_tf (b := decide (((p0.toNat : Nat) : Int) = 3)) hc8_2)) ?_
        refine AWP.seq ?_
        refine AWP.text ?_
        refine Wy (.d (.lit (.string (toS ([114, 101, 97, 108] : List UInt8))))) [] (Omv rfl) ?_
        refine Walk.nil ?_
        refine Then.normal ?_
        refine AWP.ret ?_
        refine InBlock.ret ?_
        refine Then.ret ?_
        obtain rfl := Option.some.inj hm
        exact ret_i []
      · replace hm := cF hc8_2 hm
        refine AWP.if_ false (Eq.trans (by kernel_rfl) (lit_tf (b := decide (((p0.toNat : Nat) : Int) = 3)) hc8_2)) ?_
        refine AWP.seq ?_
        refine AWP.text ?_
        refine Wy (.d (.lit (.bool (decide (((p0.toNat : Nat) : Int) = 4))))) [] (Ocs (by kernel_rfl) (op_bin rfl (a1 := .int .u8 ((p0.toNat : Nat) : Int)) (a2 := .int .u8 4) (by kernel_rfl) (by kernel_rfl) (fun _ => hb_eql))) ?_
        refine Wy (.d (.lit (.bool (decide (((p0.toNat : Nat) : Int) = 4))))) [] (Omv rfl) ?_
        refine Walk.nil ?_
        refine Then.normal ?_
        refine Amk 1024 0 ⟨(tp 10 ((.d (.lit (.bool (decide (((p0.toNat : Nat) : Int) = 4))))) :: (tp 1 []))), [], 0⟩ ?_
        rcases tf_ (decide (((p0.toNat : Nat) : Int) = 4)) with hc10_3 | hc10_3
        · replace hm := cT hc10_3 hm
          refine AWP.if_ true (Eq.trans (by kernel_rfl) (lit_tf (b := decide (((p0.toNat : Nat) : Int) = 4)) hc10_3)) ?_
          refine AWP.seq ?_
          refine AWP.text ?_
          refine Wy (.d (.lit (.string (toS ([116, 101, 120, 116] : List UInt8))))) [] (Omv rfl) ?_
          refine Walk.nil ?_
          refine Then.normal ?_
          refine AWP.ret ?_
          refine InBlock.ret ?_
          refine Then.ret ?_
          obtain rfl := Option.some.inj hm
          exact ret_i []
        · replace hm := cF hc10_3 hm
          refine AWP.if_ false (Eq.trans (by kernel_rfl) (lit_tf (b := decide (((p0.toNat : Nat) : Int) = 4)) hc10_3)) ?_
          refine AWP.skip ?_
          refine InBlock.normal ?_
          refine Then.normal ?_
          refine Amk 0 0 ⟨(tp 12 []), [], 0⟩ ?_
          refine AWP.seq ?_
          refine AWP.text ?_
          refine Wy (.d (.lit (.string (toS ([] : List UInt8))))) [] (Omv rfl) ?_
          refine Walk.nil ?_
          refine Then.normal ?_
          refine AWP.ret ?_
          obtain rfl := Option.some.inj hm
          exact ret_i []

set_option maxRecDepth 20000 in
set_option maxHeartbeats 4000000 in
theorem ok_telltalelaw04_awake (r : Bool) (h : m_telltalelaw04_awake = some r) : GCall Try.prog 9 [] [] (.d (.lit (.bool r))) [] := by
  refine GCall.of_body (n := 79) (rs := [(.tmp 0)]) Try.func9 rfl rfl rfl ?_
  refine Ato ⟨(tu 79 []), [], 0⟩ ?_
  have hm := h
  unfold m_telltalelaw04_awake at hm
  refine AWP.seq ?_
  refine AWP.text ?_
  refine Wy (.d (.lit (.bool false))) [] (Omv rfl) ?_
  refine Walk.nil ?_
  refine Then.normal ?_
  refine Amk 0 0 ⟨(tp 79 []), [], 0⟩ ?_
  refine AWP.seq ?_
  refine AWP.text ?_
  obtain ⟨r12_0, hr12_0, hm⟩ := bnd hm
  refine Wy (.agg [(.d (byteD r12_0.Kind)), (.d (.lit (.int .i64 r12_0.N))), (.d (.lit (.int .u64 r12_0.Bits))), (.d (.lit (.string (toS r12_0.Text))))]) [] (Ocf [] [] [] 0 (ok_value_OfText ([97, 98] : List UInt8) r12_0 hr12_0) (fun a w => Try.call21 a w) rfl trivial) ?_
  obtain ⟨r13_0, hr13_0, hm⟩ := bnd hm
  refine Wy (.tup [(.own 0), (.d (.lit (.int .i64 r13_0.2)))]) [(0, (.arr 5 1 (List.length r13_0.1) (flatD encU8 r13_0.1)))] (Ocf [] [0] [] 0 (ok_value_Put ([] : List UInt8) r12_0 r13_0 hr13_0) (fun a w => Try.call10 a w) rfl trivial) ?_
  refine Wy (.tup [(.own 0), (.d (.lit (.int .i64 r13_0.2)))]) [] (Omv rfl) ?_
  refine Wy (.own 0) [] (Oex rfl) ?_
  refine Wy (.d (.lit (.int .i64 r13_0.2))) [] (Oex rfl) ?_
  refine Wy (.own 0) [] (Omv rfl) ?_
  refine Wy (.d (.lit (.int .i64 r13_0.2))) [] (Omv rfl) ?_
  refine Walk.nil ?_
  refine Then.normal ?_
  refine Amk 6 1 ⟨(tp 1 ((.own 0) :: ((.d (.lit (.int .i64 r13_0.2))) :: (tp 76 [])))), [(.arr 5 1 (List.length r13_0.1) (flatD encU8 r13_0.1))], 0⟩ ?_
  refine AWP.seq ?_
  refine AWP.text ?_
  obtain ⟨r17_1, hr17_1, hm⟩ := bnd hm
  refine Wy (.tup [(.agg [(.d (byteD r17_1.1.Kind)), (.d (.lit (.int .i64 r17_1.1.N))), (.d (.lit (.int .u64 r17_1.1.Bits))), (.d (.lit (.string (toS r17_1.1.Text))))]), (.d (.lit (.int .i64 r17_1.2.1))), (.d (.lit (.int .i64 r17_1.2.2)))]) [] (Ocf [] [] [] 0 (ok_value_Take ([2, 1] : List UInt8) 0 r17_1 hr17_1) (fun a w => Try.call16 a w) rfl trivial) ?_
  refine Wy (.tup [(.agg [(.d (byteD r17_1.1.Kind)), (.d (.lit (.int .i64 r17_1.1.N))), (.d (.lit (.int .u64 r17_1.1.Bits))), (.d (.lit (.string (toS r17_1.1.Text))))]), (.d (.lit (.int .i64 r17_1.2.1))), (.d (.lit (.int .i64 r17_1.2.2)))]) [] (Omv rfl) ?_
  refine Wy (.agg [(.d (byteD r17_1.1.Kind)), (.d (.lit (.int .i64 r17_1.1.N))), (.d (.lit (.int .u64 r17_1.1.Bits))), (.d (.lit (.string (toS r17_1.1.Text))))]) [] (Oex rfl) ?_
  refine Wy (.d (.lit (.int .i64 r17_1.2.1))) [] (Oex rfl) ?_
  refine Wy (.d (.lit (.int .i64 r17_1.2.2))) [] (Oex rfl) ?_
  refine Wy (.loc 1 0) [(1, (.box [(.d (byteD 0)), (.d (.lit (.int .i64 0))), (.d (.lit (.int .u64 0))), (.d (.lit (.string (toS ([] : List UInt8)))))]))] (Oal rfl) ?_
  refine Wy (.tup []) [(1, (.box [(.d (byteD r17_1.1.Kind)), (.d (.lit (.int .i64 r17_1.1.N))), (.d (.lit (.int .u64 r17_1.1.Bits))), (.d (.lit (.string (toS r17_1.1.Text))))]))] (Ost rfl) ?_
  refine Wy (.d (.lit (.int .i64 r17_1.2.1))) [] (Omv rfl) ?_
  refine Wy (.d (.lit (.int .i64 r17_1.2.2))) [] (Omv rfl) ?_
  refine Walk.nil ?_
  refine Then.normal ?_
  refine Amk 62 3 ⟨(tp 1 ((.own 0) :: ((.d (.lit (.int .i64 r13_0.2))) :: ((.loc 1 0) :: ((.d (.lit (.int .i64 r17_1.2.1))) :: ((.d (.lit (.int .i64 r17_1.2.2))) :: (tp 73 []))))))), [(.arr 5 1 (List.length r13_0.1) (flatD encU8 r13_0.1)), (.box [(.d (byteD r17_1.1.Kind)), (.d (.lit (.int .i64 r17_1.1.N))), (.d (.lit (.int .u64 r17_1.1.Bits))), (.d (.lit (.string (toS r17_1.1.Text))))])], 0⟩ ?_
  refine AWP.seq ?_
  refine AWP.text ?_
  refine Wy (.agg [(.d (byteD 2)), (.d (.lit (.int .i64 2))), (.d (.lit (.int .u64 0))), (.d (.lit (.string (toS ([] : List UInt8)))))]) [] (Obd rfl) ?_
  obtain ⟨r23_2, hr23_2, hm⟩ := bnd hm
  refine Wy (.tup [(.own 2), (.d (.lit (.int .i64 r23_2.2)))]) [(2, (.arr 5 1 (List.length r23_2.1) (flatD encU8 r23_2.1)))] (Ocf [] [2] [] 0 (ok_value_Put ([] : List UInt8) (GValue.mk 2 2 0 ([] : List UInt8)) r23_2 hr23_2) (fun a w => Try.call10 a w) rfl trivial) ?_
  refine Wy (.tup [(.own 2), (.d (.lit (.int .i64 r23_2.2)))]) [] (Omv rfl) ?_
  refine Wy (.own 2) [] (Oex rfl) ?_
  refine Wy (.d (.lit (.int .i64 r23_2.2))) [] (Oex rfl) ?_
  refine Wy (.own 2) [] (Omv rfl) ?_
  refine Wy (.d (.lit (.int .i64 r23_2.2))) [] (Omv rfl) ?_
  refine Walk.nil ?_
  refine Then.normal ?_
  refine Amk 190 3 ⟨(tp 1 ((.own 0) :: ((.d (.lit (.int .i64 r13_0.2))) :: ((.loc 1 0) :: ((.d (.lit (.int .i64 r17_1.2.1))) :: ((.d (.lit (.int .i64 r17_1.2.2))) :: (tp 1 ((.d (.lit (.int .i64 r23_2.2))) :: (tp 71 []))))))))), [(.arr 5 1 (List.length r13_0.1) (flatD encU8 r13_0.1)), (.box [(.d (byteD r17_1.1.Kind)), (.d (.lit (.int .i64 r17_1.1.N))), (.d (.lit (.int .u64 r17_1.1.Bits))), (.d (.lit (.string (toS r17_1.1.Text))))]), .gone], 0⟩ ?_
  refine AWP.seq ?_
  refine AWP.text ?_
  obtain ⟨r27_3, hr27_3, hm⟩ := bnd hm
  refine Wy (.tup [(.agg [(.d (byteD r27_3.1.Kind)), (.d (.lit (.int .i64 r27_3.1.N))), (.d (.lit (.int .u64 r27_3.1.Bits))), (.d (.lit (.string (toS r27_3.1.Text))))]), (.d (.lit (.int .i64 r27_3.2.1))), (.d (.lit (.int .i64 r27_3.2.2)))]) [] (Ocf [] [] [] 0 (ok_value_Take ([4, 25] : List UInt8) 0 r27_3 hr27_3) (fun a w => Try.call16 a w) rfl trivial) ?_
  refine Wy (.tup [(.agg [(.d (byteD r27_3.1.Kind)), (.d (.lit (.int .i64 r27_3.1.N))), (.d (.lit (.int .u64 r27_3.1.Bits))), (.d (.lit (.string (toS r27_3.1.Text))))]), (.d (.lit (.int .i64 r27_3.2.1))), (.d (.lit (.int .i64 r27_3.2.2)))]) [] (Omv rfl) ?_
  refine Wy (.agg [(.d (byteD r27_3.1.Kind)), (.d (.lit (.int .i64 r27_3.1.N))), (.d (.lit (.int .u64 r27_3.1.Bits))), (.d (.lit (.string (toS r27_3.1.Text))))]) [] (Oex rfl) ?_
  refine Wy (.d (.lit (.int .i64 r27_3.2.1))) [] (Oex rfl) ?_
  refine Wy (.d (.lit (.int .i64 r27_3.2.2))) [] (Oex rfl) ?_
  refine Wy (.loc 3 0) [(3, (.box [(.d (byteD 0)), (.d (.lit (.int .i64 0))), (.d (.lit (.int .u64 0))), (.d (.lit (.string (toS ([] : List UInt8)))))]))] (Oal rfl) ?_
  refine Wy (.tup []) [(3, (.box [(.d (byteD r27_3.1.Kind)), (.d (.lit (.int .i64 r27_3.1.N))), (.d (.lit (.int .u64 r27_3.1.Bits))), (.d (.lit (.string (toS r27_3.1.Text))))]))] (Ost rfl) ?_
  refine Wy (.d (.lit (.int .i64 r27_3.2.1))) [] (Omv rfl) ?_
  refine Wy (.d (.lit (.int .i64 r27_3.2.2))) [] (Omv rfl) ?_
  refine Walk.nil ?_
  refine Then.normal ?_
  refine Amk 1214 3 ⟨(tp 1 ((.own 0) :: ((.d (.lit (.int .i64 r13_0.2))) :: ((.loc 1 0) :: ((.d (.lit (.int .i64 r17_1.2.1))) :: ((.d (.lit (.int .i64 r17_1.2.2))) :: (tp 1 ((.d (.lit (.int .i64 r23_2.2))) :: (tp 2 ((.d (.lit (.int .i64 r27_3.2.2))) :: (tp 68 []))))))))))), [(.arr 5 1 (List.length r13_0.1) (flatD encU8 r13_0.1)), (.box [(.d (byteD r17_1.1.Kind)), (.d (.lit (.int .i64 r17_1.1.N))), (.d (.lit (.int .u64 r17_1.1.Bits))), (.d (.lit (.string (toS r17_1.1.Text))))]), .gone, .gone], 0⟩ ?_
  refine AWP.seq ?_
  refine Adr ?_
  refine Wy (.d (.lit (.int .i64 r13_0.2))) [] (Omv rfl) ?_
  refine Wy (.d (.lit (.bool (decide (r13_0.2 = 0))))) [] (Obn rfl (fun _ => hb_eql (k := .i64))) ?_
  rcases tf_ (decide (r13_0.2 = 0)) with hq33_4 | hq33_4
  · replace hm := cT hq33_4 hm
    refine Wy (.d (.lit (.bool true))) [] (Ocs (lit_tf (b := decide (r13_0.2 = 0)) hq33_4) (Omv rfl)) ?_
    refine Wy (.own 0) [] (Omv rfl) ?_
    refine Wy (.d (.lit (.string (toS r13_0.1)))) [] (Ocs (by kernel_rfl) (op_str rfl (e := 5) (by kernel_rfl) (by kernel_rfl) (by kernel_rfl) (y := (.own 0)) (by kernel_rfl) (ds := flatD encU8 r13_0.1) (off := 0) (n := List.length r13_0.1) (by kernel_rfl) (l := r13_0.1) flatU8_take rfl)) ?_
    refine Wy (.d (.lit (.bool (decide (r13_0.1 = ([4, 2, 97, 98] : List UInt8)))))) [] (Ocs (lit_tf (by simp only [toS_inj, ne_eq])) (op_bin rfl (a1 := .string (toS r13_0.1)) (a2 := .string (toS ([4, 2, 97, 98] : List UInt8))) (by kernel_rfl) (by kernel_rfl) (fun _ => hb_seql))) ?_
    refine Wy (.d (.lit (.bool (decide (r13_0.1 = ([4, 2, 97, 98] : List UInt8)))))) [] (OpT rfl) ?_
    rcases tf_ (decide (r13_0.1 = ([4, 2, 97, 98] : List UInt8))) with hq38_4 | hq38_4
    · replace hm := cT hq38_4 hm
      refine Wy (.d (.lit (.bool true))) [] (Ocs (lit_tf (b := decide (r13_0.1 = ([4, 2, 97, 98] : List UInt8))) hq38_4) (Omv rfl)) ?_
      refine Wy (.d (.lit (.int .i64 r17_1.2.2))) [] (Omv rfl) ?_
      refine Wy (.d (.lit (.bool (decide (r17_1.2.2 = 0))))) [] (Obn rfl (fun _ => hb_eql (k := .i64))) ?_
      refine Wy (.d (.lit (.bool (decide (r17_1.2.2 = 0))))) [] (OpT rfl) ?_
      rcases tf_ (decide (r17_1.2.2 = 0)) with hq42_4 | hq42_4
      · replace hm := cT hq42_4 hm
        refine Wy (.d (.lit (.bool true))) [] (Ocs (lit_tf (b := decide (r17_1.2.2 = 0)) hq42_4) (Omv rfl)) ?_
        refine Wy (.agg [(.d (byteD r17_1.1.Kind)), (.d (.lit (.int .i64 r17_1.1.N))), (.d (.lit (.int .u64 r17_1.1.Bits))), (.d (.lit (.string (toS r17_1.1.Text))))]) [] (Old rfl) ?_
        obtain ⟨r44_4, hr44_4, hm⟩ := bnd hm
        refine Wy (.agg [(.d (byteD r44_4.Kind)), (.d (.lit (.int .i64 r44_4.N))), (.d (.lit (.int .u64 r44_4.Bits))), (.d (.lit (.string (toS r44_4.Text))))]) [] (Ocf [] [] [] 0 (ok_value_OfFlag true r44_4 hr44_4) (fun a w => Try.call19 a w) rfl trivial) ?_
        obtain ⟨v45_4, hv45_4, hm⟩ := bnd hm; replace hv45_4 := Option.some.inj hv45_4
        refine Wy (.d (.lit (.bool v45_4))) [] (Ocs (Eq.trans (lit_tf (by simp only [toS_inj])) (congrArg (fun z => A.d (.lit (.bool z))) hv45_4)) (op_eql_struct rfl (la := [(.d (byteD r17_1.1.Kind)), (.d (.lit (.int .i64 r17_1.1.N))), (.d (.lit (.int .u64 r17_1.1.Bits))), (.d (.lit (.string (toS r17_1.1.Text))))]) (lb := [(.d (byteD r44_4.Kind)), (.d (.lit (.int .i64 r44_4.N))), (.d (.lit (.int .u64 r44_4.Bits))), (.d (.lit (.string (toS r44_4.Text))))]) (us := [.int .u8 ((r17_1.1.Kind.toNat : Nat) : Int), .int .i64 r17_1.1.N, .int .u64 r17_1.1.Bits, .string (toS r17_1.1.Text)]) (vs := [.int .u8 ((r44_4.Kind.toNat : Nat) : Int), .int .i64 r44_4.N, .int .u64 r44_4.Bits, .string (toS r44_4.Text)]) (r := (decide (((r17_1.1.Kind.toNat : Nat) : Int) = ((r44_4.Kind.toNat : Nat) : Int)) && (decide (r17_1.1.N = r44_4.N) && (decide (r17_1.1.Bits = r44_4.Bits) && (decide ((toS r17_1.1.Text) = (toS r44_4.Text)) && true))))) (by kernel_rfl) (by kernel_rfl) (by kernel_rfl) (by kernel_rfl) (by kernel_rfl))) ?_
        refine Wy (.d (.lit (.bool v45_4))) [] (OpT rfl) ?_
        rcases tf_ v45_4 with hq47_4 | hq47_4
        · replace hm := cT hq47_4 hm
          refine Wy (.d (.lit (.bool true))) [] (Ocs (lit_tf (b := v45_4) hq47_4) (Omv rfl)) ?_
          refine Wy (.d (.lit (.int .i64 r17_1.2.1))) [] (Omv rfl) ?_
          refine Wy (.d (.lit (.bool (decide (r17_1.2.1 = 2))))) [] (Obn rfl (fun _ => hb_eql (k := .i64))) ?_
          refine Wy (.d (.lit (.bool (decide (r17_1.2.1 = 2))))) [] (OpT rfl) ?_
          rcases tf_ (decide (r17_1.2.1 = 2)) with hq51_4 | hq51_4
          · replace hm := cT hq51_4 hm
            refine Wy (.d (.lit (.bool true))) [] (Ocs (lit_tf (b := decide (r17_1.2.1 = 2)) hq51_4) (Omv rfl)) ?_
            refine Wy (.d (.lit (.int .i64 r23_2.2))) [] (Omv rfl) ?_
            refine Wy (.d (.lit (.bool (decide (r23_2.2 = 8))))) [] (Obn rfl (fun _ => hb_eql (k := .i64))) ?_
            refine Wy (.d (.lit (.bool (decide (r23_2.2 = 8))))) [] (OpT rfl) ?_
            rcases tf_ (decide (r23_2.2 = 8)) with hq55_4 | hq55_4
            · replace hm := cT hq55_4 hm
              refine Wy (.d (.lit (.bool true))) [] (Ocs (lit_tf (b := decide (r23_2.2 = 8)) hq55_4) (Omv rfl)) ?_
              refine Wy (.d (.lit (.int .i64 r27_3.2.2))) [] (Omv rfl) ?_
              refine Wy (.d (.lit (.bool (decide (r27_3.2.2 = 5))))) [] (Obn rfl (fun _ => hb_eql (k := .i64))) ?_
              refine Wy (.d (.lit (.bool (decide (r27_3.2.2 = 5))))) [] (OpT rfl) ?_
              rcases tf_ (decide (r27_3.2.2 = 5)) with hq59_4 | hq59_4
              · replace hm := cT hq59_4 hm
                refine Wy (.d (.lit (.bool true))) [] (Ocs (lit_tf (b := decide (r27_3.2.2 = 5)) hq59_4) (Omv rfl)) ?_
                obtain ⟨r60_4, hr60_4, hm⟩ := bnd hm
                refine Wy (.agg [(.d (byteD r60_4.Kind)), (.d (.lit (.int .i64 r60_4.N))), (.d (.lit (.int .u64 r60_4.Bits))), (.d (.lit (.string (toS r60_4.Text))))]) [] (Ocf [] [] [] 0 (ok_value_OfInt 3 r60_4 hr60_4) (fun a w => Try.call18 a w) rfl trivial) ?_
                obtain ⟨r61_4, hr61_4, hm⟩ := bnd hm
                refine Wy (.agg [(.d (byteD r61_4.Kind)), (.d (.lit (.int .i64 r61_4.N))), (.d (.lit (.int .u64 r61_4.Bits))), (.d (.lit (.string (toS r61_4.Text))))]) [] (Ocf [] [] [] 0 (ok_value_OfFlag false r61_4 hr61_4) (fun a w => Try.call19 a w) rfl trivial) ?_
                obtain ⟨r62_4, hr62_4, hm⟩ := bnd hm
                refine Wy (.d (.lit (.int .i64 r62_4))) [] (Ocf [] [] [] 0 (ok_value_Rank r60_4 r61_4 r62_4 hr62_4) (fun a w => Try.call14 a w) rfl trivial) ?_
                refine Wy (.d (.lit (.bool (decide (r62_4 = (-1)))))) [] (Obn rfl (fun _ => hb_eql (k := .i64))) ?_
                refine Wy (.d (.lit (.bool (decide (r62_4 = (-1)))))) [] (OpT rfl) ?_
                rcases tf_ (decide (r62_4 = (-1))) with hq65_4 | hq65_4
                · replace hm := cT hq65_4 hm
                  refine Wy (.d (.lit (.bool true))) [] (Ocs (lit_tf (b := decide (r62_4 = (-1))) hq65_4) (Omv rfl)) ?_
                  obtain ⟨r66_4, hr66_4, hm⟩ := bnd hm
                  refine Wy (.agg [(.d (byteD r66_4.Kind)), (.d (.lit (.int .i64 r66_4.N))), (.d (.lit (.int .u64 r66_4.Bits))), (.d (.lit (.string (toS r66_4.Text))))]) [] (Ocf [] [] [] 0 (ok_value_OfReal 9223372036854775808 r66_4 hr66_4) (fun a w => Try.call20 a w) rfl trivial) ?_
                  obtain ⟨r67_4, hr67_4, hm⟩ := bnd hm
                  refine Wy (.agg [(.d (byteD r67_4.Kind)), (.d (.lit (.int .i64 r67_4.N))), (.d (.lit (.int .u64 r67_4.Bits))), (.d (.lit (.string (toS r67_4.Text))))]) [] (Ocf [] [] [] 0 (ok_value_OfReal 0 r67_4 hr67_4) (fun a w => Try.call20 a w) rfl trivial) ?_
                  obtain ⟨r68_4, hr68_4, hm⟩ := bnd hm
                  refine Wy (.d (.lit (.int .i64 r68_4))) [] (Ocf [] [] [] 0 (ok_value_Rank r66_4 r67_4 r68_4 hr68_4) (fun a w => Try.call14 a w) rfl trivial) ?_
                  refine Wy (.d (.lit (.bool (decide (r68_4 = (-1)))))) [] (Obn rfl (fun _ => hb_eql (k := .i64))) ?_
                  refine Wy (.d (.lit (.bool (decide (r68_4 = (-1)))))) [] (OpT rfl) ?_
                  rcases tf_ (decide (r68_4 = (-1))) with hq71_4 | hq71_4
                  · replace hm := cT hq71_4 hm
                    refine Wy (.d (.lit (.bool true))) [] (Ocs (lit_tf (b := decide (r68_4 = (-1))) hq71_4) (Omv rfl)) ?_
                    obtain ⟨r72_4, hr72_4, hm⟩ := bnd hm
                    refine Wy (.d (.lit (.string (toS r72_4)))) [] (Ocf [] [] [] 0 (ok_value_Word 3 r72_4 hr72_4) (fun a w => Try.call26 a w) rfl trivial) ?_
                    refine Wy (.d (.lit (.bool (decide (r72_4 = ([114, 101, 97, 108] : List UInt8)))))) [] (Ocs (lit_tf (by simp only [toS_inj, ne_eq])) (op_bin rfl (a1 := .string (toS r72_4)) (a2 := .string (toS ([114, 101, 97, 108] : List UInt8))) (by kernel_rfl) (by kernel_rfl) (fun _ => hb_seql))) ?_
                    refine Wy (.d (.lit (.bool (decide (r72_4 = ([114, 101, 97, 108] : List UInt8)))))) [] (OpT rfl) ?_
                    rcases tf_ (decide (r72_4 = ([114, 101, 97, 108] : List UInt8))) with hq75_4 | hq75_4
                    · replace hm := cT hq75_4 hm
                      refine Wy (.d (.lit (.bool true))) [] (Ocs (lit_tf (b := decide (r72_4 = ([114, 101, 97, 108] : List UInt8))) hq75_4) (Omv rfl)) ?_
                      refine Wy (.d (.lit (.bool true))) [] (OpT rfl) ?_
                      refine Wy (.d (.lit (.bool true))) [] (Omv rfl) ?_
                      refine Wy (.d (.lit (.bool true))) [] (OpT rfl) ?_
                      refine Wy (.d (.lit (.bool true))) [] (Omv rfl) ?_
                      refine Wdr ?_
                      refine Then.normal ?_
                      refine AWP.ret ?_
                      obtain rfl := Option.some.inj hm
                      exact ret_i []
                    · replace hm := cF hq75_4 hm
                      refine Wy (.d (.lit (.bool false))) [] (Ocs (lit_tf (b := decide (r72_4 = ([114, 101, 97, 108] : List UInt8))) hq75_4) (Omv rfl)) ?_
                      refine Wy (.d (.lit (.bool false))) [] (OpF rfl) ?_
                      refine Wy (.d (.lit (.bool false))) [] (Omv rfl) ?_
                      refine Wy (.d (.lit (.bool false))) [] (OpF rfl) ?_
                      refine Wy (.d (.lit (.bool false))) [] (Omv rfl) ?_
                      refine Wdr ?_
                      refine Then.normal ?_
                      refine AWP.ret ?_
                      obtain rfl := Option.some.inj hm
                      exact ret_i []
                  · replace hm := cF hq71_4 hm
                    refine Wy (.d (.lit (.bool false))) [] (Ocs (lit_tf (b := decide (r68_4 = (-1))) hq71_4) (Omv rfl)) ?_
                    refine Wn ?_
                    refine Wn ?_
                    refine Wy (.d (.lit (.bool false))) [] (OpF rfl) ?_
                    refine Wy (.d (.lit (.bool false))) [] (Omv rfl) ?_
                    refine Wy (.d (.lit (.bool false))) [] (OpF rfl) ?_
                    refine Wy (.d (.lit (.bool false))) [] (Omv rfl) ?_
                    refine Wy (.d (.lit (.bool false))) [] (OpF rfl) ?_
                    refine Wy (.d (.lit (.bool false))) [] (Omv rfl) ?_
                    refine Wdr ?_
                    refine Then.normal ?_
                    refine AWP.ret ?_
                    obtain rfl := Option.some.inj hm
                    exact ret_i []
                · replace hm := cF hq65_4 hm
                  refine Wy (.d (.lit (.bool false))) [] (Ocs (lit_tf (b := decide (r62_4 = (-1))) hq65_4) (Omv rfl)) ?_
                  refine Wn ?_
                  refine Wn ?_
                  refine Wn ?_
                  refine Wn ?_
                  refine Wy (.d (.lit (.bool false))) [] (OpF rfl) ?_
                  refine Wy (.d (.lit (.bool false))) [] (Omv rfl) ?_
                  refine Wn ?_
                  refine Wn ?_
                  refine Wy (.d (.lit (.bool false))) [] (OpF rfl) ?_
                  refine Wy (.d (.lit (.bool false))) [] (Omv rfl) ?_
                  refine Wy (.d (.lit (.bool false))) [] (OpF rfl) ?_
                  refine Wy (.d (.lit (.bool false))) [] (Omv rfl) ?_
                  refine Wy (.d (.lit (.bool false))) [] (OpF rfl) ?_
                  refine Wy (.d (.lit (.bool false))) [] (Omv rfl) ?_
                  refine Wdr ?_
                  refine Then.normal ?_
                  refine AWP.ret ?_
                  obtain rfl := Option.some.inj hm
                  exact ret_i []
              · replace hm := cF hq59_4 hm
                refine Wy (.d (.lit (.bool false))) [] (Ocs (lit_tf (b := decide (r27_3.2.2 = 5)) hq59_4) (Omv rfl)) ?_
                refine Wn ?_
                refine Wn ?_
                refine Wn ?_
                refine Wn ?_
                refine Wy (.d (.lit (.bool false))) [] (OpF rfl) ?_
                refine Wy (.d (.lit (.bool false))) [] (Omv rfl) ?_
                refine Wn ?_
                refine Wn ?_
                refine Wn ?_
                refine Wn ?_
                refine Wy (.d (.lit (.bool false))) [] (OpF rfl) ?_
                refine Wy (.d (.lit (.bool false))) [] (Omv rfl) ?_
                refine Wn ?_
                refine Wn ?_
                refine Wy (.d (.lit (.bool false))) [] (OpF rfl) ?_
                refine Wy (.d (.lit (.bool false))) [] (Omv rfl) ?_
                refine Wy (.d (.lit (.bool false))) [] (OpF rfl) ?_
                refine Wy (.d (.lit (.bool false))) [] (Omv rfl) ?_
                refine Wy (.d (.lit (.bool false))) [] (OpF rfl) ?_
                refine Wy (.d (.lit (.bool false))) [] (Omv rfl) ?_
                refine Wdr ?_
                refine Then.normal ?_
                refine AWP.ret ?_
                obtain rfl := Option.some.inj hm
                exact ret_i []
            · replace hm := cF hq55_4 hm
              refine Wy (.d (.lit (.bool false))) [] (Ocs (lit_tf (b := decide (r23_2.2 = 8)) hq55_4) (Omv rfl)) ?_
              refine Wn ?_
              refine Wn ?_
              refine Wy (.d (.lit (.bool false))) [] (OpF rfl) ?_
              refine Wy (.d (.lit (.bool false))) [] (Omv rfl) ?_
              refine Wn ?_
              refine Wn ?_
              refine Wn ?_
              refine Wn ?_
              refine Wy (.d (.lit (.bool false))) [] (OpF rfl) ?_
              refine Wy (.d (.lit (.bool false))) [] (Omv rfl) ?_
              refine Wn ?_
              refine Wn ?_
              refine Wn ?_
              refine Wn ?_
              refine Wy (.d (.lit (.bool false))) [] (OpF rfl) ?_
              refine Wy (.d (.lit (.bool false))) [] (Omv rfl) ?_
              refine Wn ?_
              refine Wn ?_
              refine Wy (.d (.lit (.bool false))) [] (OpF rfl) ?_
              refine Wy (.d (.lit (.bool false))) [] (Omv rfl) ?_
              refine Wy (.d (.lit (.bool false))) [] (OpF rfl) ?_
              refine Wy (.d (.lit (.bool false))) [] (Omv rfl) ?_
              refine Wy (.d (.lit (.bool false))) [] (OpF rfl) ?_
              refine Wy (.d (.lit (.bool false))) [] (Omv rfl) ?_
              refine Wdr ?_
              refine Then.normal ?_
              refine AWP.ret ?_
              obtain rfl := Option.some.inj hm
              exact ret_i []
          · replace hm := cF hq51_4 hm
            refine Wy (.d (.lit (.bool false))) [] (Ocs (lit_tf (b := decide (r17_1.2.1 = 2)) hq51_4) (Omv rfl)) ?_
            refine Wn ?_
            refine Wn ?_
            refine Wy (.d (.lit (.bool false))) [] (OpF rfl) ?_
            refine Wy (.d (.lit (.bool false))) [] (Omv rfl) ?_
            refine Wn ?_
            refine Wn ?_
            refine Wy (.d (.lit (.bool false))) [] (OpF rfl) ?_
            refine Wy (.d (.lit (.bool false))) [] (Omv rfl) ?_
            refine Wn ?_
            refine Wn ?_
            refine Wn ?_
            refine Wn ?_
            refine Wy (.d (.lit (.bool false))) [] (OpF rfl) ?_
            refine Wy (.d (.lit (.bool false))) [] (Omv rfl) ?_
            refine Wn ?_
            refine Wn ?_
            refine Wn ?_
            refine Wn ?_
            refine Wy (.d (.lit (.bool false))) [] (OpF rfl) ?_
            refine Wy (.d (.lit (.bool false))) [] (Omv rfl) ?_
            refine Wn ?_
            refine Wn ?_
            refine Wy (.d (.lit (.bool false))) [] (OpF rfl) ?_
            refine Wy (.d (.lit (.bool false))) [] (Omv rfl) ?_
            refine Wy (.d (.lit (.bool false))) [] (OpF rfl) ?_
            refine Wy (.d (.lit (.bool false))) [] (Omv rfl) ?_
            refine Wy (.d (.lit (.bool false))) [] (OpF rfl) ?_
            refine Wy (.d (.lit (.bool false))) [] (Omv rfl) ?_
            refine Wdr ?_
            refine Then.normal ?_
            refine AWP.ret ?_
            obtain rfl := Option.some.inj hm
            exact ret_i []
        · replace hm := cF hq47_4 hm
          refine Wy (.d (.lit (.bool false))) [] (Ocs (lit_tf (b := v45_4) hq47_4) (Omv rfl)) ?_
          refine Wn ?_
          refine Wn ?_
          refine Wy (.d (.lit (.bool false))) [] (OpF rfl) ?_
          refine Wy (.d (.lit (.bool false))) [] (Omv rfl) ?_
          refine Wn ?_
          refine Wn ?_
          refine Wy (.d (.lit (.bool false))) [] (OpF rfl) ?_
          refine Wy (.d (.lit (.bool false))) [] (Omv rfl) ?_
          refine Wn ?_
          refine Wn ?_
          refine Wy (.d (.lit (.bool false))) [] (OpF rfl) ?_
          refine Wy (.d (.lit (.bool false))) [] (Omv rfl) ?_
          refine Wn ?_
          refine Wn ?_
          refine Wn ?_
          refine Wn ?_
          refine Wy (.d (.lit (.bool false))) [] (OpF rfl) ?_
          refine Wy (.d (.lit (.bool false))) [] (Omv rfl) ?_
          refine Wn ?_
          refine Wn ?_
          refine Wn ?_
          refine Wn ?_
          refine Wy (.d (.lit (.bool false))) [] (OpF rfl) ?_
          refine Wy (.d (.lit (.bool false))) [] (Omv rfl) ?_
          refine Wn ?_
          refine Wn ?_
          refine Wy (.d (.lit (.bool false))) [] (OpF rfl) ?_
          refine Wy (.d (.lit (.bool false))) [] (Omv rfl) ?_
          refine Wy (.d (.lit (.bool false))) [] (OpF rfl) ?_
          refine Wy (.d (.lit (.bool false))) [] (Omv rfl) ?_
          refine Wy (.d (.lit (.bool false))) [] (OpF rfl) ?_
          refine Wy (.d (.lit (.bool false))) [] (Omv rfl) ?_
          refine Wdr ?_
          refine Then.normal ?_
          refine AWP.ret ?_
          obtain rfl := Option.some.inj hm
          exact ret_i []
      · replace hm := cF hq42_4 hm
        refine Wy (.d (.lit (.bool false))) [] (Ocs (lit_tf (b := decide (r17_1.2.2 = 0)) hq42_4) (Omv rfl)) ?_
        refine Wn ?_
        refine Wn ?_
        refine Wn ?_
        refine Wy (.d (.lit (.bool false))) [] (OpF rfl) ?_
        refine Wy (.d (.lit (.bool false))) [] (Omv rfl) ?_
        refine Wn ?_
        refine Wn ?_
        refine Wy (.d (.lit (.bool false))) [] (OpF rfl) ?_
        refine Wy (.d (.lit (.bool false))) [] (Omv rfl) ?_
        refine Wn ?_
        refine Wn ?_
        refine Wy (.d (.lit (.bool false))) [] (OpF rfl) ?_
        refine Wy (.d (.lit (.bool false))) [] (Omv rfl) ?_
        refine Wn ?_
        refine Wn ?_
        refine Wy (.d (.lit (.bool false))) [] (OpF rfl) ?_
        refine Wy (.d (.lit (.bool false))) [] (Omv rfl) ?_
        refine Wn ?_
        refine Wn ?_
        refine Wn ?_
        refine Wn ?_
        refine Wy (.d (.lit (.bool false))) [] (OpF rfl) ?_
        refine Wy (.d (.lit (.bool false))) [] (Omv rfl) ?_
        refine Wn ?_
        refine Wn ?_
        refine Wn ?_
        refine Wn ?_
        refine Wy (.d (.lit (.bool false))) [] (OpF rfl) ?_
        refine Wy (.d (.lit (.bool false))) [] (Omv rfl) ?_
        refine Wn ?_
        refine Wn ?_
        refine Wy (.d (.lit (.bool false))) [] (OpF rfl) ?_
        refine Wy (.d (.lit (.bool false))) [] (Omv rfl) ?_
        refine Wy (.d (.lit (.bool false))) [] (OpF rfl) ?_
        refine Wy (.d (.lit (.bool false))) [] (Omv rfl) ?_
        refine Wy (.d (.lit (.bool false))) [] (OpF rfl) ?_
        refine Wy (.d (.lit (.bool false))) [] (Omv rfl) ?_
        refine Wdr ?_
        refine Then.normal ?_
        refine AWP.ret ?_
        obtain rfl := Option.some.inj hm
        exact ret_i []
    · replace hm := cF hq38_4 hm
      refine Wy (.d (.lit (.bool false))) [] (Ocs (lit_tf (b := decide (r13_0.1 = ([4, 2, 97, 98] : List UInt8))) hq38_4) (Omv rfl)) ?_
      refine Wn ?_
      refine Wn ?_
      refine Wy (.d (.lit (.bool false))) [] (OpF rfl) ?_
      refine Wy (.d (.lit (.bool false))) [] (Omv rfl) ?_
      refine Wn ?_
      refine Wn ?_
      refine Wn ?_
      refine Wy (.d (.lit (.bool false))) [] (OpF rfl) ?_
      refine Wy (.d (.lit (.bool false))) [] (Omv rfl) ?_
      refine Wn ?_
      refine Wn ?_
      refine Wy (.d (.lit (.bool false))) [] (OpF rfl) ?_
      refine Wy (.d (.lit (.bool false))) [] (Omv rfl) ?_
      refine Wn ?_
      refine Wn ?_
      refine Wy (.d (.lit (.bool false))) [] (OpF rfl) ?_
      refine Wy (.d (.lit (.bool false))) [] (Omv rfl) ?_
      refine Wn ?_
      refine Wn ?_
      refine Wy (.d (.lit (.bool false))) [] (OpF rfl) ?_
      refine Wy (.d (.lit (.bool false))) [] (Omv rfl) ?_
      refine Wn ?_
      refine Wn ?_
      refine Wn ?_
      refine Wn ?_
      refine Wy (.d (.lit (.bool false))) [] (OpF rfl) ?_
      refine Wy (.d (.lit (.bool false))) [] (Omv rfl) ?_
      refine Wn ?_
      refine Wn ?_
      refine Wn ?_
      refine Wn ?_
      refine Wy (.d (.lit (.bool false))) [] (OpF rfl) ?_
      refine Wy (.d (.lit (.bool false))) [] (Omv rfl) ?_
      refine Wn ?_
      refine Wn ?_
      refine Wy (.d (.lit (.bool false))) [] (OpF rfl) ?_
      refine Wy (.d (.lit (.bool false))) [] (Omv rfl) ?_
      refine Wy (.d (.lit (.bool false))) [] (OpF rfl) ?_
      refine Wy (.d (.lit (.bool false))) [] (Omv rfl) ?_
      refine Wy (.d (.lit (.bool false))) [] (OpF rfl) ?_
      refine Wy (.d (.lit (.bool false))) [] (Omv rfl) ?_
      refine Wdr ?_
      refine Then.normal ?_
      refine AWP.ret ?_
      obtain rfl := Option.some.inj hm
      exact ret_i []
  · replace hm := cF hq33_4 hm
    refine Wy (.d (.lit (.bool false))) [] (Ocs (lit_tf (b := decide (r13_0.2 = 0)) hq33_4) (Omv rfl)) ?_
    refine Wn ?_
    refine Wn ?_
    refine Wn ?_
    refine Wy (.d (.lit (.bool false))) [] (OpF rfl) ?_
    refine Wy (.d (.lit (.bool false))) [] (Omv rfl) ?_
    refine Wn ?_
    refine Wn ?_
    refine Wy (.d (.lit (.bool false))) [] (OpF rfl) ?_
    refine Wy (.d (.lit (.bool false))) [] (Omv rfl) ?_
    refine Wn ?_
    refine Wn ?_
    refine Wn ?_
    refine Wy (.d (.lit (.bool false))) [] (OpF rfl) ?_
    refine Wy (.d (.lit (.bool false))) [] (Omv rfl) ?_
    refine Wn ?_
    refine Wn ?_
    refine Wy (.d (.lit (.bool false))) [] (OpF rfl) ?_
    refine Wy (.d (.lit (.bool false))) [] (Omv rfl) ?_
    refine Wn ?_
    refine Wn ?_
    refine Wy (.d (.lit (.bool false))) [] (OpF rfl) ?_
    refine Wy (.d (.lit (.bool false))) [] (Omv rfl) ?_
    refine Wn ?_
    refine Wn ?_
    refine Wy (.d (.lit (.bool false))) [] (OpF rfl) ?_
    refine Wy (.d (.lit (.bool false))) [] (Omv rfl) ?_
    refine Wn ?_
    refine Wn ?_
    refine Wn ?_
    refine Wn ?_
    refine Wy (.d (.lit (.bool false))) [] (OpF rfl) ?_
    refine Wy (.d (.lit (.bool false))) [] (Omv rfl) ?_
    refine Wn ?_
    refine Wn ?_
    refine Wn ?_
    refine Wn ?_
    refine Wy (.d (.lit (.bool false))) [] (OpF rfl) ?_
    refine Wy (.d (.lit (.bool false))) [] (Omv rfl) ?_
    refine Wn ?_
    refine Wn ?_
    refine Wy (.d (.lit (.bool false))) [] (OpF rfl) ?_
    refine Wy (.d (.lit (.bool false))) [] (Omv rfl) ?_
    refine Wy (.d (.lit (.bool false))) [] (OpF rfl) ?_
    refine Wy (.d (.lit (.bool false))) [] (Omv rfl) ?_
    refine Wy (.d (.lit (.bool false))) [] (OpF rfl) ?_
    refine Wy (.d (.lit (.bool false))) [] (Omv rfl) ?_
    refine Wdr ?_
    refine Then.normal ?_
    refine AWP.ret ?_
    obtain rfl := Option.some.inj hm
    exact ret_i []

set_option maxRecDepth 20000 in
set_option maxHeartbeats 4000000 in
theorem ok_telltalelaw04_Small (p0 : GValue) (r : Int) (h : m_telltalelaw04_Small p0 = some r) : GCall Try.prog 8 [(.agg [(.d (byteD p0.Kind)), (.d (.lit (.int .i64 p0.N))), (.d (.lit (.int .u64 p0.Bits))), (.d (.lit (.string (toS p0.Text))))])] [] (.d (.lit (.int .i64 r))) [] := by
  refine GCall.of_body (n := 8) (rs := [(.tmp 2)]) Try.func8 rfl rfl rfl ?_
  refine Ato ⟨((.agg [(.d (byteD p0.Kind)), (.d (.lit (.int .i64 p0.N))), (.d (.lit (.int .u64 p0.Bits))), (.d (.lit (.string (toS p0.Text))))]) :: (tu 7 [])), [], 0⟩ ?_
  have hm := h
  unfold m_telltalelaw04_Small at hm
  refine AWP.seq ?_
  refine AWP.text ?_
  refine Wy (.loc 0 0) [(0, (.box [(.d (byteD p0.Kind)), (.d (.lit (.int .i64 p0.N))), (.d (.lit (.int .u64 p0.Bits))), (.d (.lit (.string (toS p0.Text))))]))] (Obx rfl) ?_
  refine Wy (.d (.lit (.int .i64 0))) [] (Omv rfl) ?_
  refine Walk.nil ?_
  refine Then.normal ?_
  refine Amk 2 1 ⟨(tp 1 ((.loc 0 0) :: (tp 6 []))), [(.box [(.d (byteD p0.Kind)), (.d (.lit (.int .i64 p0.N))), (.d (.lit (.int .u64 p0.Bits))), (.d (.lit (.string (toS p0.Text))))])], 0⟩ ?_
  refine AWP.seq ?_
  refine AWP.text ?_
  refine Wy (.loc 0 3) [] (Ofa rfl) ?_
  refine Wy (.d (.lit (.string (toS p0.Text)))) [] (Old rfl) ?_
  refine Wy (.d (.lit (.int .i64 ((List.length p0.Text : Nat) : Int)))) [] (Oln rfl) ?_
  refine Wy (.d (.lit (.int .i64 (IntKind.i64.wrap (((List.length p0.Text : Nat) : Int) - 100))))) [] (Obn rfl (fun _ => hb_sub (k := .i64))) ?_
  refine Wy (.d (.lit (.int .i64 (max 0 (IntKind.i64.wrap (((List.length p0.Text : Nat) : Int) - 100)))))) [] (op_bi2 rfl (a1 := .int .i64 0) (a2 := .int .i64 (IntKind.i64.wrap (((List.length p0.Text : Nat) : Int) - 100))) (by kernel_rfl) (by kernel_rfl) hb_max) ?_
  refine Wy (.d (.lit (.int .i64 (max 0 (IntKind.i64.wrap (((List.length p0.Text : Nat) : Int) - 100)))))) [] (Omv rfl) ?_
  refine Walk.nil ?_
  refine Then.normal ?_
  refine AWP.ret ?_
  obtain rfl := Option.some.inj hm
  exact ret_i []

set_option maxRecDepth 20000 in
set_option maxHeartbeats 4000000 in
theorem ok_telltalelaw04_ValueRanks (p0 : GArr3_GValue) (r : Bool) (h : m_telltalelaw04_ValueRanks p0 = some r) : GCall Try.prog 7 [(.agg [(.d (byteD p0.a0.Kind)), (.d (.lit (.int .i64 p0.a0.N))), (.d (.lit (.int .u64 p0.a0.Bits))), (.d (.lit (.string (toS p0.a0.Text)))), (.d (byteD p0.a1.Kind)), (.d (.lit (.int .i64 p0.a1.N))), (.d (.lit (.int .u64 p0.a1.Bits))), (.d (.lit (.string (toS p0.a1.Text)))), (.d (byteD p0.a2.Kind)), (.d (.lit (.int .i64 p0.a2.N))), (.d (.lit (.int .u64 p0.a2.Bits))), (.d (.lit (.string (toS p0.a2.Text))))])] [] (.d (.lit (.bool r))) [] := by
  refine GCall.of_body (n := 82) (rs := [(.tmp 2)]) Try.func7 rfl rfl rfl ?_
  refine Ato ⟨((.agg [(.d (byteD p0.a0.Kind)), (.d (.lit (.int .i64 p0.a0.N))), (.d (.lit (.int .u64 p0.a0.Bits))), (.d (.lit (.string (toS p0.a0.Text)))), (.d (byteD p0.a1.Kind)), (.d (.lit (.int .i64 p0.a1.N))), (.d (.lit (.int .u64 p0.a1.Bits))), (.d (.lit (.string (toS p0.a1.Text)))), (.d (byteD p0.a2.Kind)), (.d (.lit (.int .i64 p0.a2.N))), (.d (.lit (.int .u64 p0.a2.Bits))), (.d (.lit (.string (toS p0.a2.Text))))]) :: (tu 81 [])), [], 0⟩ ?_
  have hm := h
  unfold m_telltalelaw04_ValueRanks at hm
  refine AWP.seq ?_
  refine AWP.text ?_
  refine Wy (.loc 0 0) [(0, (.box [(.d (byteD p0.a0.Kind)), (.d (.lit (.int .i64 p0.a0.N))), (.d (.lit (.int .u64 p0.a0.Bits))), (.d (.lit (.string (toS p0.a0.Text)))), (.d (byteD p0.a1.Kind)), (.d (.lit (.int .i64 p0.a1.N))), (.d (.lit (.int .u64 p0.a1.Bits))), (.d (.lit (.string (toS p0.a1.Text)))), (.d (byteD p0.a2.Kind)), (.d (.lit (.int .i64 p0.a2.N))), (.d (.lit (.int .u64 p0.a2.Bits))), (.d (.lit (.string (toS p0.a2.Text))))]))] (Obx rfl) ?_
  refine Wy (.d (.lit (.bool false))) [] (Omv rfl) ?_
  refine Walk.nil ?_
  refine Then.normal ?_
  refine Amk 2 1 ⟨(tp 1 ((.loc 0 0) :: (tp 80 []))), [(.box [(.d (byteD p0.a0.Kind)), (.d (.lit (.int .i64 p0.a0.N))), (.d (.lit (.int .u64 p0.a0.Bits))), (.d (.lit (.string (toS p0.a0.Text)))), (.d (byteD p0.a1.Kind)), (.d (.lit (.int .i64 p0.a1.N))), (.d (.lit (.int .u64 p0.a1.Bits))), (.d (.lit (.string (toS p0.a1.Text)))), (.d (byteD p0.a2.Kind)), (.d (.lit (.int .i64 p0.a2.N))), (.d (.lit (.int .u64 p0.a2.Bits))), (.d (.lit (.string (toS p0.a2.Text))))])], 0⟩ ?_
  refine AWP.seq ?_
  refine AWP.seq ?_
  refine AWP.text ?_
  refine Wy (.d (.lit (.int .i64 0))) [] (Omv rfl) ?_
  refine Walk.nil ?_
  refine Then.normal ?_
  refine Amk 10 1 ⟨(tp 1 ((.loc 0 0) :: (tp 1 ((.d (.lit (.int .i64 0))) :: (tp 78 []))))), [(.box [(.d (byteD p0.a0.Kind)), (.d (.lit (.int .i64 p0.a0.N))), (.d (.lit (.int .u64 p0.a0.Bits))), (.d (.lit (.string (toS p0.a0.Text)))), (.d (byteD p0.a1.Kind)), (.d (.lit (.int .i64 p0.a1.N))), (.d (.lit (.int .u64 p0.a1.Bits))), (.d (.lit (.string (toS p0.a1.Text)))), (.d (byteD p0.a2.Kind)), (.d (.lit (.int .i64 p0.a2.N))), (.d (.lit (.int .u64 p0.a2.Bits))), (.d (.lit (.string (toS p0.a2.Text))))])], 0⟩ ?_
  refine AWP.block ?_
  refine AWP.loopI (α := Nat × Int)
    (fun x => match x with | (fu_0, y3_0) => (⟨(tp 1 ((.loc 0 0) :: (tp 1 ((.d (.lit (.int .i64 y3_0))) :: (tp 78 []))))), [(.box [(.d (byteD p0.a0.Kind)), (.d (.lit (.int .i64 p0.a0.N))), (.d (.lit (.int .u64 p0.a0.Bits))), (.d (.lit (.string (toS p0.a0.Text)))), (.d (byteD p0.a1.Kind)), (.d (.lit (.int .i64 p0.a1.N))), (.d (.lit (.int .u64 p0.a1.Bits))), (.d (.lit (.string (toS p0.a1.Text)))), (.d (byteD p0.a2.Kind)), (.d (.lit (.int .i64 p0.a2.N))), (.d (.lit (.int .u64 p0.a2.Bits))), (.d (.lit (.string (toS p0.a2.Text))))])], 0⟩ : St))
    (fun x => match x with | (fu_0, y3_0) => m_telltalelaw04_ValueRanks_l0 p0 fu_0 y3_0 = some r)
    (fun x => match x with | (fu_0, y3_0) => fu_0) (1152921504606846976, 0)
    (Weak.toK 10 0 0 [0]) hm ?_
  rintro ⟨fu_0, y3_0⟩ n_0 hm ih_0
  try dsimp only at hm ih_0 ⊢
  cases fu_0 with
  | zero => exact absurd hm (by unfold m_telltalelaw04_ValueRanks_l0; simp)
  | succ fu_0 =>
    unfold m_telltalelaw04_ValueRanks_l0 at hm
    refine AWP.seq ?_
    refine AWP.seq ?_
    refine AWP.text ?_
    refine Wy (.d (.lit (.int .i64 y3_0))) [] (Omv rfl) ?_
    refine Wy (.d (.lit (.bool (decide (y3_0 < 3))))) [] (Obn rfl (fun _ => hb_lss (k := .i64))) ?_
    refine Walk.nil ?_
    refine Then.normal ?_
    refine Amk 2058 1 ⟨(tp 1 ((.loc 0 0) :: (tp 1 ((.d (.lit (.int .i64 y3_0))) :: (tp 7 ((.d (.lit (.bool (decide (y3_0 < 3))))) :: (tp 70 []))))))), [(.box [(.d (byteD p0.a0.Kind)), (.d (.lit (.int .i64 p0.a0.N))), (.d (.lit (.int .u64 p0.a0.Bits))), (.d (.lit (.string (toS p0.a0.Text)))), (.d (byteD p0.a1.Kind)), (.d (.lit (.int .i64 p0.a1.N))), (.d (.lit (.int .u64 p0.a1.Bits))), (.d (.lit (.string (toS p0.a1.Text)))), (.d (byteD p0.a2.Kind)), (.d (.lit (.int .i64 p0.a2.N))), (.d (.lit (.int .u64 p0.a2.Bits))), (.d (.lit (.string (toS p0.a2.Text))))])], 0⟩ ?_
    rcases tf_ (decide (y3_0 < 3)) with hc11_6 | hc11_6
    · replace hm := cT hc11_6 hm
      refine AWP.if_ true (Eq.trans (by kernel_rfl) (lit_tf (b := decide (y3_0 < 3)) hc11_6)) ?_
      refine AWP.skip ?_
      refine Then.normal ?_
      refine Amk 10 1 ⟨(tp 1 ((.loc 0 0) :: (tp 1 ((.d (.lit (.int .i64 y3_0))) :: (tp 78 []))))), [(.box [(.d (byteD p0.a0.Kind)), (.d (.lit (.int .i64 p0.a0.N))), (.d (.lit (.int .u64 p0.a0.Bits))), (.d (.lit (.string (toS p0.a0.Text)))), (.d (byteD p0.a1.Kind)), (.d (.lit (.int .i64 p0.a1.N))), (.d (.lit (.int .u64 p0.a1.Bits))), (.d (.lit (.string (toS p0.a1.Text)))), (.d (byteD p0.a2.Kind)), (.d (.lit (.int .i64 p0.a2.N))), (.d (.lit (.int .u64 p0.a2.Bits))), (.d (.lit (.string (toS p0.a2.Text))))])], 0⟩ ?_
      refine AWP.seq ?_
      refine AWP.block ?_
      refine AWP.cutJ (α := Bool) (fun x => match x with | y18_3 => (⟨(tp 1 ((.loc 0 0) :: (tp 1 ((.d (.lit (.int .i64 y3_0))) :: (tp 14 ((.d (.lit (.bool y18_3))) :: (tp 63 []))))))), [(.box [(.d (byteD p0.a0.Kind)), (.d (.lit (.int .i64 p0.a0.N))), (.d (.lit (.int .u64 p0.a0.Bits))), (.d (.lit (.string (toS p0.a0.Text)))), (.d (byteD p0.a1.Kind)), (.d (.lit (.int .i64 p0.a1.N))), (.d (.lit (.int .u64 p0.a1.Bits))), (.d (.lit (.string (toS p0.a1.Text)))), (.d (byteD p0.a2.Kind)), (.d (.lit (.int .i64 p0.a2.N))), (.d (.lit (.int .u64 p0.a2.Bits))), (.d (.lit (.string (toS p0.a2.Text))))])], 0⟩ : St)) (fun x => match x with | y18_3 => m_telltalelaw04_ValueRanks_j3 y3_0 (fun y3_0 => m_telltalelaw04_ValueRanks_l0 p0 fu_0 y3_0) y18_3 = some r) ?_ (fun J3 => ?_)
      · rintro y18_3 hm
        try dsimp only at hm ⊢
        unfold m_telltalelaw04_ValueRanks_j3 at hm
        rcases tf_ y18_3 with hc18_3 | hc18_3
        · replace hm := cT hc18_3 hm
          refine AWP.if_ true (Eq.trans (by kernel_rfl) (lit_tf (b := y18_3) hc18_3)) ?_
          refine AWP.seq ?_
          refine AWP.text ?_
          obtain ⟨r19_2, hr19_2, hm⟩ := bnd hm
          refine Wy (.d (.lit (.bool r19_2))) [] (Ocf [] [] [] 0 (ok_telltalelaw04_awake  r19_2 hr19_2) (fun a w => Try.call9 a w) rfl trivial) ?_
          refine Wy (.d (.lit (.bool r19_2))) [] (Omv rfl) ?_
          refine Walk.nil ?_
          refine Then.normal ?_
          refine AWP.ret ?_
          refine InBlock.ret ?_
          refine Then.ret ?_
          refine RoundK.ret ?_
          refine InBlock.ret ?_
          refine Then.ret ?_
          obtain rfl := Option.some.inj hm
          exact ret_i []
        · replace hm := cF hc18_3 hm
          refine AWP.if_ false (Eq.trans (by kernel_rfl) (lit_tf (b := y18_3) hc18_3)) ?_
          refine AWP.skip ?_
          refine InBlock.normal ?_
          refine Then.normal ?_
          refine Amk 10 1 ⟨(tp 1 ((.loc 0 0) :: (tp 1 ((.d (.lit (.int .i64 y3_0))) :: (tp 78 []))))), [(.box [(.d (byteD p0.a0.Kind)), (.d (.lit (.int .i64 p0.a0.N))), (.d (.lit (.int .u64 p0.a0.Bits))), (.d (.lit (.string (toS p0.a0.Text)))), (.d (byteD p0.a1.Kind)), (.d (.lit (.int .i64 p0.a1.N))), (.d (.lit (.int .u64 p0.a1.Bits))), (.d (.lit (.string (toS p0.a1.Text)))), (.d (byteD p0.a2.Kind)), (.d (.lit (.int .i64 p0.a2.N))), (.d (.lit (.int .u64 p0.a2.Bits))), (.d (.lit (.string (toS p0.a2.Text))))])], 0⟩ ?_
          refine AWP.text ?_
          refine Wy (.d (.lit (.int .i64 y3_0))) [] (Omv rfl) ?_
          refine Wy (.d (.lit (.int .i64 (IntKind.i64.wrap (y3_0 + 1))))) [] (Obn rfl (fun _ => hb_add (k := .i64))) ?_
          refine Wy (.d (.lit (.int .i64 (IntKind.i64.wrap (y3_0 + 1))))) [] (Omv rfl) ?_
          refine Walk.nil ?_
          refine RoundK.normal ?_
          exact Rounds.weak (Weak.toK 10 0 0 [0]) (ih_0 (fu_0, (IntKind.i64.wrap (y3_0 + 1))) hm (Nat.lt_succ_self _))
      refine AWP.seq ?_
      refine AWP.text ?_
      refine Wy (.d (.lit (.int .i64 y3_0))) [] (Omv rfl) ?_
      rcases tf_ (decide (y3_0 = 0)) with hq15_1_0 | hq15_1_0
      · replace hm := cT hq15_1_0 hm
        refine Wy (.loc 0 0) [] (Ocs (by kernel_rfl) (op_iaddr_arr rfl (n := 3) (sz := 4) (y := (.loc 0 0)) (by kernel_rfl) (by kernel_rfl) (by kernel_rfl) (k := .i64) (iv := y3_0) (by kernel_rfl) (i := 0) (of_decide_eq_true hq15_1_0) (by decide))) ?_
        refine Wy (.agg [(.d (byteD p0.a0.Kind)), (.d (.lit (.int .i64 p0.a0.N))), (.d (.lit (.int .u64 p0.a0.Bits))), (.d (.lit (.string (toS p0.a0.Text))))]) [] (Old rfl) ?_
        obtain ⟨r17_1, hr17_1, hm⟩ := bnd hm
        refine Wy (.d (.lit (.int .i64 r17_1))) [] (Ocf [] [] [] 0 (ok_telltalelaw04_Small p0.a0 r17_1 hr17_1) (fun a w => Try.call8 a w) rfl trivial) ?_
        refine Wy (.d (.lit (.bool (decide ((0 : Int) < r17_1))))) [] (Obn rfl (fun _ => hb_gtr (k := .i64))) ?_
        refine Walk.nil ?_
        refine Then.normal ?_
        exact AWP.weak (Weak.toK 262154 0 0 [0]) (J3 (decide ((0 : Int) < r17_1)) hm)
      · replace hm := cF hq15_1_0 hm
        rcases tf_ (decide (y3_0 = 1)) with hq15_1_1 | hq15_1_1
        · replace hm := cT hq15_1_1 hm
          refine Wy (.loc 0 4) [] (Ocs (by kernel_rfl) (op_iaddr_arr rfl (n := 3) (sz := 4) (y := (.loc 0 0)) (by kernel_rfl) (by kernel_rfl) (by kernel_rfl) (k := .i64) (iv := y3_0) (by kernel_rfl) (i := 1) (of_decide_eq_true hq15_1_1) (by decide))) ?_
          refine Wy (.agg [(.d (byteD p0.a1.Kind)), (.d (.lit (.int .i64 p0.a1.N))), (.d (.lit (.int .u64 p0.a1.Bits))), (.d (.lit (.string (toS p0.a1.Text))))]) [] (Old rfl) ?_
          obtain ⟨r17_1, hr17_1, hm⟩ := bnd hm
          refine Wy (.d (.lit (.int .i64 r17_1))) [] (Ocf [] [] [] 0 (ok_telltalelaw04_Small p0.a1 r17_1 hr17_1) (fun a w => Try.call8 a w) rfl trivial) ?_
          refine Wy (.d (.lit (.bool (decide ((0 : Int) < r17_1))))) [] (Obn rfl (fun _ => hb_gtr (k := .i64))) ?_
          refine Walk.nil ?_
          refine Then.normal ?_
          exact AWP.weak (Weak.toK 262154 0 0 [0]) (J3 (decide ((0 : Int) < r17_1)) hm)
        · replace hm := cF hq15_1_1 hm
          rcases tf_ (decide (y3_0 = 2)) with hq15_1_2 | hq15_1_2
          · replace hm := cT hq15_1_2 hm
            refine Wy (.loc 0 8) [] (Ocs (by kernel_rfl) (op_iaddr_arr rfl (n := 3) (sz := 4) (y := (.loc 0 0)) (by kernel_rfl) (by kernel_rfl) (by kernel_rfl) (k := .i64) (iv := y3_0) (by kernel_rfl) (i := 2) (of_decide_eq_true hq15_1_2) (by decide))) ?_
            refine Wy (.agg [(.d (byteD p0.a2.Kind)), (.d (.lit (.int .i64 p0.a2.N))), (.d (.lit (.int .u64 p0.a2.Bits))), (.d (.lit (.string (toS p0.a2.Text))))]) [] (Old rfl) ?_
            obtain ⟨r17_1, hr17_1, hm⟩ := bnd hm
            refine Wy (.d (.lit (.int .i64 r17_1))) [] (Ocf [] [] [] 0 (ok_telltalelaw04_Small p0.a2 r17_1 hr17_1) (fun a w => Try.call8 a w) rfl trivial) ?_
            refine Wy (.d (.lit (.bool (decide ((0 : Int) < r17_1))))) [] (Obn rfl (fun _ => hb_gtr (k := .i64))) ?_
            refine Walk.nil ?_
            refine Then.normal ?_
            exact AWP.weak (Weak.toK 262154 0 0 [0]) (J3 (decide ((0 : Int) < r17_1)) hm)
          · replace hm := cF hq15_1_2 hm
            exact nomatch hm
    · replace hm := cF hc11_6 hm
      refine AWP.if_ false (Eq.trans (by kernel_rfl) (lit_tf (b := decide (y3_0 < 3)) hc11_6)) ?_
      refine AWP.exit ?_
      refine Then.exit ?_
      refine RoundK.exit ?_
      refine InBlock.same ?_
      refine Then.normal ?_
      refine Amk 2 1 ⟨(tp 1 ((.loc 0 0) :: (tp 80 []))), [(.box [(.d (byteD p0.a0.Kind)), (.d (.lit (.int .i64 p0.a0.N))), (.d (.lit (.int .u64 p0.a0.Bits))), (.d (.lit (.string (toS p0.a0.Text)))), (.d (byteD p0.a1.Kind)), (.d (.lit (.int .i64 p0.a1.N))), (.d (.lit (.int .u64 p0.a1.Bits))), (.d (.lit (.string (toS p0.a1.Text)))), (.d (byteD p0.a2.Kind)), (.d (.lit (.int .i64 p0.a2.N))), (.d (.lit (.int .u64 p0.a2.Bits))), (.d (.lit (.string (toS p0.a2.Text))))])], 0⟩ ?_
      refine AWP.seq ?_
      refine Adr ?_
      refine Wy (.loc 0 0) [] (Ocs (by kernel_rfl) (op_iaddr_arr rfl (n := 3) (sz := 4) (y := (.loc 0 0)) (by kernel_rfl) (by kernel_rfl) (by kernel_rfl) (k := .i64) (iv := 0) (by kernel_rfl) (i := 0) (by rfl) (by decide))) ?_
      refine Wy (.agg [(.d (byteD p0.a0.Kind)), (.d (.lit (.int .i64 p0.a0.N))), (.d (.lit (.int .u64 p0.a0.Bits))), (.d (.lit (.string (toS p0.a0.Text))))]) [] (Old rfl) ?_
      refine Wy (.loc 0 4) [] (Ocs (by kernel_rfl) (op_iaddr_arr rfl (n := 3) (sz := 4) (y := (.loc 0 0)) (by kernel_rfl) (by kernel_rfl) (by kernel_rfl) (k := .i64) (iv := 1) (by kernel_rfl) (i := 1) (by rfl) (by decide))) ?_
      refine Wy (.agg [(.d (byteD p0.a1.Kind)), (.d (.lit (.int .i64 p0.a1.N))), (.d (.lit (.int .u64 p0.a1.Bits))), (.d (.lit (.string (toS p0.a1.Text))))]) [] (Old rfl) ?_
      refine Wy (.loc 0 8) [] (Ocs (by kernel_rfl) (op_iaddr_arr rfl (n := 3) (sz := 4) (y := (.loc 0 0)) (by kernel_rfl) (by kernel_rfl) (by kernel_rfl) (k := .i64) (iv := 2) (by kernel_rfl) (i := 2) (by rfl) (by decide))) ?_
      refine Wy (.agg [(.d (byteD p0.a2.Kind)), (.d (.lit (.int .i64 p0.a2.N))), (.d (.lit (.int .u64 p0.a2.Bits))), (.d (.lit (.string (toS p0.a2.Text))))]) [] (Old rfl) ?_
      refine Wy (.loc 1 0) [(1, (.box [(.d (byteD 0)), (.d (.lit (.int .i64 0))), (.d (.lit (.int .u64 0))), (.d (.lit (.string (toS ([] : List UInt8)))))]))] (Oal rfl) ?_
      refine Wy (.loc 2 0) [(2, (.box [(.d (byteD 0)), (.d (.lit (.int .i64 0))), (.d (.lit (.int .u64 0))), (.d (.lit (.string (toS ([] : List UInt8)))))]))] (Oal rfl) ?_
      refine Wy (.loc 3 0) [(3, (.box [(.d (byteD 0)), (.d (.lit (.int .i64 0))), (.d (.lit (.int .u64 0))), (.d (.lit (.string (toS ([] : List UInt8)))))]))] (Oal rfl) ?_
      refine Wy (.tup []) [(1, (.box [(.d (byteD p0.a0.Kind)), (.d (.lit (.int .i64 p0.a0.N))), (.d (.lit (.int .u64 p0.a0.Bits))), (.d (.lit (.string (toS p0.a0.Text))))]))] (Ost rfl) ?_
      refine Wy (.tup []) [(2, (.box [(.d (byteD p0.a1.Kind)), (.d (.lit (.int .i64 p0.a1.N))), (.d (.lit (.int .u64 p0.a1.Bits))), (.d (.lit (.string (toS p0.a1.Text))))]))] (Ost rfl) ?_
      refine Wy (.tup []) [(3, (.box [(.d (byteD p0.a2.Kind)), (.d (.lit (.int .i64 p0.a2.N))), (.d (.lit (.int .u64 p0.a2.Bits))), (.d (.lit (.string (toS p0.a2.Text))))]))] (Ost rfl) ?_
      refine Wdr ?_
      refine Then.normal ?_
      refine Amk 112 14 ⟨(tp 4 ((.loc 1 0) :: ((.loc 2 0) :: ((.loc 3 0) :: (tp 75 []))))), [.gone, (.box [(.d (byteD p0.a0.Kind)), (.d (.lit (.int .i64 p0.a0.N))), (.d (.lit (.int .u64 p0.a0.Bits))), (.d (.lit (.string (toS p0.a0.Text))))]), (.box [(.d (byteD p0.a1.Kind)), (.d (.lit (.int .i64 p0.a1.N))), (.d (.lit (.int .u64 p0.a1.Bits))), (.d (.lit (.string (toS p0.a1.Text))))]), (.box [(.d (byteD p0.a2.Kind)), (.d (.lit (.int .i64 p0.a2.N))), (.d (.lit (.int .u64 p0.a2.Bits))), (.d (.lit (.string (toS p0.a2.Text))))])], 0⟩ ?_
      refine AWP.seq ?_
      refine Adr ?_
      refine Wy (.agg [(.d (byteD p0.a0.Kind)), (.d (.lit (.int .i64 p0.a0.N))), (.d (.lit (.int .u64 p0.a0.Bits))), (.d (.lit (.string (toS p0.a0.Text))))]) [] (Old rfl) ?_
      refine Wy (.agg [(.d (byteD p0.a1.Kind)), (.d (.lit (.int .i64 p0.a1.N))), (.d (.lit (.int .u64 p0.a1.Bits))), (.d (.lit (.string (toS p0.a1.Text))))]) [] (Old rfl) ?_
      obtain ⟨r28_4, hr28_4, hm⟩ := bnd hm
      refine Wy (.d (.lit (.int .i64 r28_4))) [] (Ocf [] [] [] 0 (ok_value_Rank p0.a0 p0.a1 r28_4 hr28_4) (fun a w => Try.call14 a w) rfl trivial) ?_
      refine Wy (.agg [(.d (byteD p0.a1.Kind)), (.d (.lit (.int .i64 p0.a1.N))), (.d (.lit (.int .u64 p0.a1.Bits))), (.d (.lit (.string (toS p0.a1.Text))))]) [] (Old rfl) ?_
      refine Wy (.agg [(.d (byteD p0.a2.Kind)), (.d (.lit (.int .i64 p0.a2.N))), (.d (.lit (.int .u64 p0.a2.Bits))), (.d (.lit (.string (toS p0.a2.Text))))]) [] (Old rfl) ?_
      obtain ⟨r31_4, hr31_4, hm⟩ := bnd hm
      refine Wy (.d (.lit (.int .i64 r31_4))) [] (Ocf [] [] [] 0 (ok_value_Rank p0.a1 p0.a2 r31_4 hr31_4) (fun a w => Try.call14 a w) rfl trivial) ?_
      refine Wy (.agg [(.d (byteD p0.a0.Kind)), (.d (.lit (.int .i64 p0.a0.N))), (.d (.lit (.int .u64 p0.a0.Bits))), (.d (.lit (.string (toS p0.a0.Text))))]) [] (Old rfl) ?_
      refine Wy (.agg [(.d (byteD p0.a2.Kind)), (.d (.lit (.int .i64 p0.a2.N))), (.d (.lit (.int .u64 p0.a2.Bits))), (.d (.lit (.string (toS p0.a2.Text))))]) [] (Old rfl) ?_
      obtain ⟨r34_4, hr34_4, hm⟩ := bnd hm
      refine Wy (.d (.lit (.int .i64 r34_4))) [] (Ocf [] [] [] 0 (ok_value_Rank p0.a0 p0.a2 r34_4 hr34_4) (fun a w => Try.call14 a w) rfl trivial) ?_
      refine Wy (.d (.lit (.int .i64 r28_4))) [] (Omv rfl) ?_
      refine Wy (.d (.lit (.int .i64 r31_4))) [] (Omv rfl) ?_
      refine Wy (.d (.lit (.int .i64 r34_4))) [] (Omv rfl) ?_
      refine Wdr ?_
      refine Then.normal ?_
      refine Amk 944 6 ⟨(tp 4 ((.loc 1 0) :: ((.loc 2 0) :: (tp 1 ((.d (.lit (.int .i64 r28_4))) :: ((.d (.lit (.int .i64 r31_4))) :: ((.d (.lit (.int .i64 r34_4))) :: (tp 72 [])))))))), [.gone, (.box [(.d (byteD p0.a0.Kind)), (.d (.lit (.int .i64 p0.a0.N))), (.d (.lit (.int .u64 p0.a0.Bits))), (.d (.lit (.string (toS p0.a0.Text))))]), (.box [(.d (byteD p0.a1.Kind)), (.d (.lit (.int .i64 p0.a1.N))), (.d (.lit (.int .u64 p0.a1.Bits))), (.d (.lit (.string (toS p0.a1.Text))))]), .gone], 0⟩ ?_
      refine AWP.seq ?_
      refine AWP.text ?_
      refine Wy (.d (.lit (.int .i64 r28_4))) [] (Omv rfl) ?_
      refine Wy (.d (.lit (.bool (decide (((-1) : Int) ≤ r28_4))))) [] (Obn rfl (fun _ => hb_geq (k := .i64))) ?_
      rcases tf_ (decide (((-1) : Int) ≤ r28_4)) with hq37_5 | hq37_5
      · replace hm := cT hq37_5 hm
        refine Wy (.d (.lit (.bool true))) [] (Ocs (lit_tf (b := decide (((-1) : Int) ≤ r28_4)) hq37_5) (Omv rfl)) ?_
        refine Wy (.d (.lit (.int .i64 r28_4))) [] (Omv rfl) ?_
        refine Wy (.d (.lit (.bool (decide (r28_4 ≤ 1))))) [] (Obn rfl (fun _ => hb_leq (k := .i64))) ?_
        refine Wy (.d (.lit (.bool (decide (r28_4 ≤ 1))))) [] (OpT rfl) ?_
        rcases tf_ (decide (r28_4 ≤ 1)) with hq41_5 | hq41_5
        · replace hm := cT hq41_5 hm
          refine Wy (.d (.lit (.bool true))) [] (Ocs (lit_tf (b := decide (r28_4 ≤ 1)) hq41_5) (Omv rfl)) ?_
          refine Wy (.agg [(.d (byteD p0.a1.Kind)), (.d (.lit (.int .i64 p0.a1.N))), (.d (.lit (.int .u64 p0.a1.Bits))), (.d (.lit (.string (toS p0.a1.Text))))]) [] (Old rfl) ?_
          refine Wy (.agg [(.d (byteD p0.a0.Kind)), (.d (.lit (.int .i64 p0.a0.N))), (.d (.lit (.int .u64 p0.a0.Bits))), (.d (.lit (.string (toS p0.a0.Text))))]) [] (Old rfl) ?_
          obtain ⟨r44_5, hr44_5, hm⟩ := bnd hm
          refine Wy (.d (.lit (.int .i64 r44_5))) [] (Ocf [] [] [] 0 (ok_value_Rank p0.a1 p0.a0 r44_5 hr44_5) (fun a w => Try.call14 a w) rfl trivial) ?_
          refine Wy (.d (.lit (.int .i64 r28_4))) [] (Omv rfl) ?_
          refine Wy (.d (.lit (.int .i64 (IntKind.i64.wrap (0 - r28_4))))) [] (Ocs (by kernel_rfl) (op_un rfl (a1 := .int .i64 r28_4) (by kernel_rfl) (fun _ => hu_neg))) ?_
          refine Wy (.d (.lit (.bool (decide (r44_5 = (IntKind.i64.wrap (0 - r28_4))))))) [] (Obn rfl (fun _ => hb_eql (k := .i64))) ?_
          refine Wy (.d (.lit (.bool (decide (r44_5 = (IntKind.i64.wrap (0 - r28_4))))))) [] (OpT rfl) ?_
          rcases tf_ (decide (r44_5 = (IntKind.i64.wrap (0 - r28_4)))) with hq49_5 | hq49_5
          · replace hm := cT hq49_5 hm
            refine Wy (.d (.lit (.bool true))) [] (Ocs (lit_tf (b := decide (r44_5 = (IntKind.i64.wrap (0 - r28_4)))) hq49_5) (Omv rfl)) ?_
            refine Wy (.agg [(.d (byteD p0.a0.Kind)), (.d (.lit (.int .i64 p0.a0.N))), (.d (.lit (.int .u64 p0.a0.Bits))), (.d (.lit (.string (toS p0.a0.Text))))]) [] (Old rfl) ?_
            refine Wy (.agg [(.d (byteD p0.a0.Kind)), (.d (.lit (.int .i64 p0.a0.N))), (.d (.lit (.int .u64 p0.a0.Bits))), (.d (.lit (.string (toS p0.a0.Text))))]) [] (Old rfl) ?_
            obtain ⟨r52_5, hr52_5, hm⟩ := bnd hm
            refine Wy (.d (.lit (.int .i64 r52_5))) [] (Ocf [] [] [] 0 (ok_value_Rank p0.a0 p0.a0 r52_5 hr52_5) (fun a w => Try.call14 a w) rfl trivial) ?_
            refine Wy (.d (.lit (.bool (decide (r52_5 = 0))))) [] (Obn rfl (fun _ => hb_eql (k := .i64))) ?_
            refine Wy (.d (.lit (.bool (decide (r52_5 = 0))))) [] (OpT rfl) ?_
            rcases tf_ (decide (r52_5 = 0)) with hq55_5 | hq55_5
            · replace hm := cT hq55_5 hm
              refine Wy (.d (.lit (.bool true))) [] (Ocs (lit_tf (b := decide (r52_5 = 0)) hq55_5) (Omv rfl)) ?_
              refine Wy (.d (.lit (.int .i64 r28_4))) [] (Omv rfl) ?_
              refine Wy (.d (.lit (.bool (decide ((0 : Int) < r28_4))))) [] (Obn rfl (fun _ => hb_gtr (k := .i64))) ?_
              rcases tf_ (decide ((0 : Int) < r28_4)) with hq58_5 | hq58_5
              · replace hm := cT hq58_5 hm
                refine Wy (.d (.lit (.bool true))) [] (Ocs (lit_tf (b := decide ((0 : Int) < r28_4)) hq58_5) (Omv rfl)) ?_
                refine Wn ?_
                refine Wn ?_
                refine Wy (.d (.lit (.bool true))) [] (OpT rfl) ?_
                refine Wy (.d (.lit (.bool true))) [] (Omv rfl) ?_
                refine Wn ?_
                refine Wn ?_
                refine Wy (.d (.lit (.bool true))) [] (OpT rfl) ?_
                refine Wy (.d (.lit (.bool true))) [] (OpT rfl) ?_
                refine Wy (.d (.lit (.bool true))) [] (Omv rfl) ?_
                refine Wy (.d (.lit (.int .i64 r28_4))) [] (Omv rfl) ?_
                refine Wy (.d (.lit (.bool (decide ((0 : Int) < r28_4))))) [] (Obn rfl (fun _ => hb_gtr (k := .i64))) ?_
                rcases tf_ (decide ((0 : Int) < r28_4)) with hq70_5 | hq70_5
                · replace hm := cT hq70_5 hm
                  refine Wy (.d (.lit (.bool true))) [] (Ocs (lit_tf (b := decide ((0 : Int) < r28_4)) hq70_5) (Omv rfl)) ?_
                  refine Wn ?_
                  refine Wn ?_
                  refine Wy (.d (.lit (.bool true))) [] (OpT rfl) ?_
                  refine Wy (.d (.lit (.bool true))) [] (Omv rfl) ?_
                  refine Wn ?_
                  refine Wn ?_
                  refine Wy (.d (.lit (.bool true))) [] (OpT rfl) ?_
                  refine Wy (.d (.lit (.bool true))) [] (OpT rfl) ?_
                  refine Wy (.d (.lit (.bool true))) [] (Omv rfl) ?_
                  obtain ⟨r80_5, hr80_5, hm⟩ := bnd hm
                  refine Wy (.d (.lit (.bool r80_5))) [] (Ocf [] [] [] 0 (ok_telltalelaw04_awake  r80_5 hr80_5) (fun a w => Try.call9 a w) rfl trivial) ?_
                  refine Wy (.d (.lit (.bool r80_5))) [] (OpT rfl) ?_
                  refine Wy (.d (.lit (.bool r80_5))) [] (Omv rfl) ?_
                  refine Walk.nil ?_
                  refine Then.normal ?_
                  refine AWP.ret ?_
                  obtain rfl := Option.some.inj hm
                  exact ret_i []
                · replace hm := cF hq70_5 hm
                  refine Wy (.d (.lit (.bool false))) [] (Ocs (lit_tf (b := decide ((0 : Int) < r28_4)) hq70_5) (Omv rfl)) ?_
                  refine Wy (.d (.lit (.int .i64 r31_4))) [] (Omv rfl) ?_
                  refine Wy (.d (.lit (.bool (decide ((0 : Int) ≤ r31_4))))) [] (Obn rfl (fun _ => hb_geq (k := .i64))) ?_
                  refine Wy (.d (.lit (.bool (decide ((0 : Int) ≤ r31_4))))) [] (OpF rfl) ?_
                  rcases tf_ (decide ((0 : Int) ≤ r31_4)) with hq74_5 | hq74_5
                  · replace hm := cT hq74_5 hm
                    refine Wy (.d (.lit (.bool true))) [] (Ocs (lit_tf (b := decide ((0 : Int) ≤ r31_4)) hq74_5) (Omv rfl)) ?_
                    refine Wn ?_
                    refine Wn ?_
                    refine Wy (.d (.lit (.bool true))) [] (OpT rfl) ?_
                    refine Wy (.d (.lit (.bool true))) [] (OpT rfl) ?_
                    refine Wy (.d (.lit (.bool true))) [] (Omv rfl) ?_
                    obtain ⟨r80_5, hr80_5, hm⟩ := bnd hm
                    refine Wy (.d (.lit (.bool r80_5))) [] (Ocf [] [] [] 0 (ok_telltalelaw04_awake  r80_5 hr80_5) (fun a w => Try.call9 a w) rfl trivial) ?_
                    refine Wy (.d (.lit (.bool r80_5))) [] (OpT rfl) ?_
                    refine Wy (.d (.lit (.bool r80_5))) [] (Omv rfl) ?_
                    refine Walk.nil ?_
                    refine Then.normal ?_
                    refine AWP.ret ?_
                    obtain rfl := Option.some.inj hm
                    exact ret_i []
                  · replace hm := cF hq74_5 hm
                    refine Wy (.d (.lit (.bool false))) [] (Ocs (lit_tf (b := decide ((0 : Int) ≤ r31_4)) hq74_5) (Omv rfl)) ?_
                    refine Wy (.d (.lit (.int .i64 r34_4))) [] (Omv rfl) ?_
                    refine Wy (.d (.lit (.bool (decide (r34_4 < 0))))) [] (Obn rfl (fun _ => hb_lss (k := .i64))) ?_
                    refine Wy (.d (.lit (.bool (decide (r34_4 < 0))))) [] (OpF rfl) ?_
                    refine Wy (.d (.lit (.bool (decide (r34_4 < 0))))) [] (OpT rfl) ?_
                    rcases tf_ (decide (r34_4 < 0)) with hq79_5 | hq79_5
                    · replace hm := cT hq79_5 hm
                      refine Wy (.d (.lit (.bool true))) [] (Ocs (lit_tf (b := decide (r34_4 < 0)) hq79_5) (Omv rfl)) ?_
                      obtain ⟨r80_5, hr80_5, hm⟩ := bnd hm
                      refine Wy (.d (.lit (.bool r80_5))) [] (Ocf [] [] [] 0 (ok_telltalelaw04_awake  r80_5 hr80_5) (fun a w => Try.call9 a w) rfl trivial) ?_
                      refine Wy (.d (.lit (.bool r80_5))) [] (OpT rfl) ?_
                      refine Wy (.d (.lit (.bool r80_5))) [] (Omv rfl) ?_
                      refine Walk.nil ?_
                      refine Then.normal ?_
                      refine AWP.ret ?_
                      obtain rfl := Option.some.inj hm
                      exact ret_i []
                    · replace hm := cF hq79_5 hm
                      refine Wy (.d (.lit (.bool false))) [] (Ocs (lit_tf (b := decide (r34_4 < 0)) hq79_5) (Omv rfl)) ?_
                      refine Wn ?_
                      refine Wy (.d (.lit (.bool false))) [] (OpF rfl) ?_
                      refine Wy (.d (.lit (.bool false))) [] (Omv rfl) ?_
                      refine Walk.nil ?_
                      refine Then.normal ?_
                      refine AWP.ret ?_
                      obtain rfl := Option.some.inj hm
                      exact ret_i []
              · replace hm := cF hq58_5 hm
                refine Wy (.d (.lit (.bool false))) [] (Ocs (lit_tf (b := decide ((0 : Int) < r28_4)) hq58_5) (Omv rfl)) ?_
                refine Wy (.d (.lit (.int .i64 r31_4))) [] (Omv rfl) ?_
                refine Wy (.d (.lit (.bool (decide ((0 : Int) < r31_4))))) [] (Obn rfl (fun _ => hb_gtr (k := .i64))) ?_
                refine Wy (.d (.lit (.bool (decide ((0 : Int) < r31_4))))) [] (OpF rfl) ?_
                rcases tf_ (decide ((0 : Int) < r31_4)) with hq62_5 | hq62_5
                · replace hm := cT hq62_5 hm
                  refine Wy (.d (.lit (.bool true))) [] (Ocs (lit_tf (b := decide ((0 : Int) < r31_4)) hq62_5) (Omv rfl)) ?_
                  refine Wn ?_
                  refine Wn ?_
                  refine Wy (.d (.lit (.bool true))) [] (OpT rfl) ?_
                  refine Wy (.d (.lit (.bool true))) [] (OpT rfl) ?_
                  refine Wy (.d (.lit (.bool true))) [] (Omv rfl) ?_
                  refine Wy (.d (.lit (.int .i64 r28_4))) [] (Omv rfl) ?_
                  refine Wy (.d (.lit (.bool (decide ((0 : Int) < r28_4))))) [] (Obn rfl (fun _ => hb_gtr (k := .i64))) ?_
                  rcases tf_ (decide ((0 : Int) < r28_4)) with hq70_5 | hq70_5
                  · replace hm := cT hq70_5 hm
                    refine Wy (.d (.lit (.bool true))) [] (Ocs (lit_tf (b := decide ((0 : Int) < r28_4)) hq70_5) (Omv rfl)) ?_
                    refine Wn ?_
                    refine Wn ?_
                    refine Wy (.d (.lit (.bool true))) [] (OpT rfl) ?_
                    refine Wy (.d (.lit (.bool true))) [] (Omv rfl) ?_
                    refine Wn ?_
                    refine Wn ?_
                    refine Wy (.d (.lit (.bool true))) [] (OpT rfl) ?_
                    refine Wy (.d (.lit (.bool true))) [] (OpT rfl) ?_
                    refine Wy (.d (.lit (.bool true))) [] (Omv rfl) ?_
                    obtain ⟨r80_5, hr80_5, hm⟩ := bnd hm
                    refine Wy (.d (.lit (.bool r80_5))) [] (Ocf [] [] [] 0 (ok_telltalelaw04_awake  r80_5 hr80_5) (fun a w => Try.call9 a w) rfl trivial) ?_
                    refine Wy (.d (.lit (.bool r80_5))) [] (OpT rfl) ?_
                    refine Wy (.d (.lit (.bool r80_5))) [] (Omv rfl) ?_
                    refine Walk.nil ?_
                    refine Then.normal ?_
                    refine AWP.ret ?_
                    obtain rfl := Option.some.inj hm
                    exact ret_i []
                  · replace hm := cF hq70_5 hm
                    refine Wy (.d (.lit (.bool false))) [] (Ocs (lit_tf (b := decide ((0 : Int) < r28_4)) hq70_5) (Omv rfl)) ?_
                    refine Wy (.d (.lit (.int .i64 r31_4))) [] (Omv rfl) ?_
                    refine Wy (.d (.lit (.bool (decide ((0 : Int) ≤ r31_4))))) [] (Obn rfl (fun _ => hb_geq (k := .i64))) ?_
                    refine Wy (.d (.lit (.bool (decide ((0 : Int) ≤ r31_4))))) [] (OpF rfl) ?_
                    rcases tf_ (decide ((0 : Int) ≤ r31_4)) with hq74_5 | hq74_5
                    · replace hm := cT hq74_5 hm
                      refine Wy (.d (.lit (.bool true))) [] (Ocs (lit_tf (b := decide ((0 : Int) ≤ r31_4)) hq74_5) (Omv rfl)) ?_
                      refine Wn ?_
                      refine Wn ?_
                      refine Wy (.d (.lit (.bool true))) [] (OpT rfl) ?_
                      refine Wy (.d (.lit (.bool true))) [] (OpT rfl) ?_
                      refine Wy (.d (.lit (.bool true))) [] (Omv rfl) ?_
                      obtain ⟨r80_5, hr80_5, hm⟩ := bnd hm
                      refine Wy (.d (.lit (.bool r80_5))) [] (Ocf [] [] [] 0 (ok_telltalelaw04_awake  r80_5 hr80_5) (fun a w => Try.call9 a w) rfl trivial) ?_
                      refine Wy (.d (.lit (.bool r80_5))) [] (OpT rfl) ?_
                      refine Wy (.d (.lit (.bool r80_5))) [] (Omv rfl) ?_
                      refine Walk.nil ?_
                      refine Then.normal ?_
                      refine AWP.ret ?_
                      obtain rfl := Option.some.inj hm
                      exact ret_i []
                    · replace hm := cF hq74_5 hm
                      refine Wy (.d (.lit (.bool false))) [] (Ocs (lit_tf (b := decide ((0 : Int) ≤ r31_4)) hq74_5) (Omv rfl)) ?_
                      refine Wy (.d (.lit (.int .i64 r34_4))) [] (Omv rfl) ?_
                      refine Wy (.d (.lit (.bool (decide (r34_4 < 0))))) [] (Obn rfl (fun _ => hb_lss (k := .i64))) ?_
                      refine Wy (.d (.lit (.bool (decide (r34_4 < 0))))) [] (OpF rfl) ?_
                      refine Wy (.d (.lit (.bool (decide (r34_4 < 0))))) [] (OpT rfl) ?_
                      rcases tf_ (decide (r34_4 < 0)) with hq79_5 | hq79_5
                      · replace hm := cT hq79_5 hm
                        refine Wy (.d (.lit (.bool true))) [] (Ocs (lit_tf (b := decide (r34_4 < 0)) hq79_5) (Omv rfl)) ?_
                        obtain ⟨r80_5, hr80_5, hm⟩ := bnd hm
                        refine Wy (.d (.lit (.bool r80_5))) [] (Ocf [] [] [] 0 (ok_telltalelaw04_awake  r80_5 hr80_5) (fun a w => Try.call9 a w) rfl trivial) ?_
                        refine Wy (.d (.lit (.bool r80_5))) [] (OpT rfl) ?_
                        refine Wy (.d (.lit (.bool r80_5))) [] (Omv rfl) ?_
                        refine Walk.nil ?_
                        refine Then.normal ?_
                        refine AWP.ret ?_
                        obtain rfl := Option.some.inj hm
                        exact ret_i []
                      · replace hm := cF hq79_5 hm
                        refine Wy (.d (.lit (.bool false))) [] (Ocs (lit_tf (b := decide (r34_4 < 0)) hq79_5) (Omv rfl)) ?_
                        refine Wn ?_
                        refine Wy (.d (.lit (.bool false))) [] (OpF rfl) ?_
                        refine Wy (.d (.lit (.bool false))) [] (Omv rfl) ?_
                        refine Walk.nil ?_
                        refine Then.normal ?_
                        refine AWP.ret ?_
                        obtain rfl := Option.some.inj hm
                        exact ret_i []
                · replace hm := cF hq62_5 hm
                  refine Wy (.d (.lit (.bool false))) [] (Ocs (lit_tf (b := decide ((0 : Int) < r31_4)) hq62_5) (Omv rfl)) ?_
                  refine Wy (.d (.lit (.int .i64 r34_4))) [] (Omv rfl) ?_
                  refine Wy (.d (.lit (.bool (decide (r34_4 ≤ 0))))) [] (Obn rfl (fun _ => hb_leq (k := .i64))) ?_
                  refine Wy (.d (.lit (.bool (decide (r34_4 ≤ 0))))) [] (OpF rfl) ?_
                  refine Wy (.d (.lit (.bool (decide (r34_4 ≤ 0))))) [] (OpT rfl) ?_
                  rcases tf_ (decide (r34_4 ≤ 0)) with hq67_5 | hq67_5
                  · replace hm := cT hq67_5 hm
                    refine Wy (.d (.lit (.bool true))) [] (Ocs (lit_tf (b := decide (r34_4 ≤ 0)) hq67_5) (Omv rfl)) ?_
                    refine Wy (.d (.lit (.int .i64 r28_4))) [] (Omv rfl) ?_
                    refine Wy (.d (.lit (.bool (decide ((0 : Int) < r28_4))))) [] (Obn rfl (fun _ => hb_gtr (k := .i64))) ?_
                    rcases tf_ (decide ((0 : Int) < r28_4)) with hq70_5 | hq70_5
                    · replace hm := cT hq70_5 hm
                      refine Wy (.d (.lit (.bool true))) [] (Ocs (lit_tf (b := decide ((0 : Int) < r28_4)) hq70_5) (Omv rfl)) ?_
                      refine Wn ?_
                      refine Wn ?_
                      refine Wy (.d (.lit (.bool true))) [] (OpT rfl) ?_
                      refine Wy (.d (.lit (.bool true))) [] (Omv rfl) ?_
                      refine Wn ?_
                      refine Wn ?_
                      refine Wy (.d (.lit (.bool true))) [] (OpT rfl) ?_
                      refine Wy (.d (.lit (.bool true))) [] (OpT rfl) ?_
                      refine Wy (.d (.lit (.bool true))) [] (Omv rfl) ?_
                      obtain ⟨r80_5, hr80_5, hm⟩ := bnd hm
                      refine Wy (.d (.lit (.bool r80_5))) [] (Ocf [] [] [] 0 (ok_telltalelaw04_awake  r80_5 hr80_5) (fun a w => Try.call9 a w) rfl trivial) ?_
                      refine Wy (.d (.lit (.bool r80_5))) [] (OpT rfl) ?_
                      refine Wy (.d (.lit (.bool r80_5))) [] (Omv rfl) ?_
                      refine Walk.nil ?_
                      refine Then.normal ?_
                      refine AWP.ret ?_
                      obtain rfl := Option.some.inj hm
                      exact ret_i []
                    · replace hm := cF hq70_5 hm
                      refine Wy (.d (.lit (.bool false))) [] (Ocs (lit_tf (b := decide ((0 : Int) < r28_4)) hq70_5) (Omv rfl)) ?_
                      refine Wy (.d (.lit (.int .i64 r31_4))) [] (Omv rfl) ?_
                      refine Wy (.d (.lit (.bool (decide ((0 : Int) ≤ r31_4))))) [] (Obn rfl (fun _ => hb_geq (k := .i64))) ?_
                      refine Wy (.d (.lit (.bool (decide ((0 : Int) ≤ r31_4))))) [] (OpF rfl) ?_
                      rcases tf_ (decide ((0 : Int) ≤ r31_4)) with hq74_5 | hq74_5
                      · replace hm := cT hq74_5 hm
                        refine Wy (.d (.lit (.bool true))) [] (Ocs (lit_tf (b := decide ((0 : Int) ≤ r31_4)) hq74_5) (Omv rfl)) ?_
                        refine Wn ?_
                        refine Wn ?_
                        refine Wy (.d (.lit (.bool true))) [] (OpT rfl) ?_
                        refine Wy (.d (.lit (.bool true))) [] (OpT rfl) ?_
                        refine Wy (.d (.lit (.bool true))) [] (Omv rfl) ?_
                        obtain ⟨r80_5, hr80_5, hm⟩ := bnd hm
                        refine Wy (.d (.lit (.bool r80_5))) [] (Ocf [] [] [] 0 (ok_telltalelaw04_awake  r80_5 hr80_5) (fun a w => Try.call9 a w) rfl trivial) ?_
                        refine Wy (.d (.lit (.bool r80_5))) [] (OpT rfl) ?_
                        refine Wy (.d (.lit (.bool r80_5))) [] (Omv rfl) ?_
                        refine Walk.nil ?_
                        refine Then.normal ?_
                        refine AWP.ret ?_
                        obtain rfl := Option.some.inj hm
                        exact ret_i []
                      · replace hm := cF hq74_5 hm
                        refine Wy (.d (.lit (.bool false))) [] (Ocs (lit_tf (b := decide ((0 : Int) ≤ r31_4)) hq74_5) (Omv rfl)) ?_
                        refine Wy (.d (.lit (.int .i64 r34_4))) [] (Omv rfl) ?_
                        refine Wy (.d (.lit (.bool (decide (r34_4 < 0))))) [] (Obn rfl (fun _ => hb_lss (k := .i64))) ?_
                        refine Wy (.d (.lit (.bool (decide (r34_4 < 0))))) [] (OpF rfl) ?_
                        refine Wy (.d (.lit (.bool (decide (r34_4 < 0))))) [] (OpT rfl) ?_
                        rcases tf_ (decide (r34_4 < 0)) with hq79_5 | hq79_5
                        · replace hm := cT hq79_5 hm
                          refine Wy (.d (.lit (.bool true))) [] (Ocs (lit_tf (b := decide (r34_4 < 0)) hq79_5) (Omv rfl)) ?_
                          obtain ⟨r80_5, hr80_5, hm⟩ := bnd hm
                          refine Wy (.d (.lit (.bool r80_5))) [] (Ocf [] [] [] 0 (ok_telltalelaw04_awake  r80_5 hr80_5) (fun a w => Try.call9 a w) rfl trivial) ?_
                          refine Wy (.d (.lit (.bool r80_5))) [] (OpT rfl) ?_
                          refine Wy (.d (.lit (.bool r80_5))) [] (Omv rfl) ?_
                          refine Walk.nil ?_
                          refine Then.normal ?_
                          refine AWP.ret ?_
                          obtain rfl := Option.some.inj hm
                          exact ret_i []
                        · replace hm := cF hq79_5 hm
                          refine Wy (.d (.lit (.bool false))) [] (Ocs (lit_tf (b := decide (r34_4 < 0)) hq79_5) (Omv rfl)) ?_
                          refine Wn ?_
                          refine Wy (.d (.lit (.bool false))) [] (OpF rfl) ?_
                          refine Wy (.d (.lit (.bool false))) [] (Omv rfl) ?_
                          refine Walk.nil ?_
                          refine Then.normal ?_
                          refine AWP.ret ?_
                          obtain rfl := Option.some.inj hm
                          exact ret_i []
                  · replace hm := cF hq67_5 hm
                    refine Wy (.d (.lit (.bool false))) [] (Ocs (lit_tf (b := decide (r34_4 ≤ 0)) hq67_5) (Omv rfl)) ?_
                    refine Wn ?_
                    refine Wn ?_
                    refine Wn ?_
                    refine Wn ?_
                    refine Wn ?_
                    refine Wn ?_
                    refine Wn ?_
                    refine Wn ?_
                    refine Wn ?_
                    refine Wn ?_
                    refine Wy (.d (.lit (.bool false))) [] (OpF rfl) ?_
                    refine Wy (.d (.lit (.bool false))) [] (Omv rfl) ?_
                    refine Wn ?_
                    refine Wy (.d (.lit (.bool false))) [] (OpF rfl) ?_
                    refine Wy (.d (.lit (.bool false))) [] (Omv rfl) ?_
                    refine Walk.nil ?_
                    refine Then.normal ?_
                    refine AWP.ret ?_
                    obtain rfl := Option.some.inj hm
                    exact ret_i []
            · replace hm := cF hq55_5 hm
              refine Wy (.d (.lit (.bool false))) [] (Ocs (lit_tf (b := decide (r52_5 = 0)) hq55_5) (Omv rfl)) ?_
              refine Wn ?_
              refine Wn ?_
              refine Wn ?_
              refine Wn ?_
              refine Wn ?_
              refine Wn ?_
              refine Wn ?_
              refine Wn ?_
              refine Wn ?_
              refine Wn ?_
              refine Wy (.d (.lit (.bool false))) [] (OpF rfl) ?_
              refine Wy (.d (.lit (.bool false))) [] (Omv rfl) ?_
              refine Wn ?_
              refine Wn ?_
              refine Wn ?_
              refine Wn ?_
              refine Wn ?_
              refine Wn ?_
              refine Wn ?_
              refine Wn ?_
              refine Wn ?_
              refine Wn ?_
              refine Wy (.d (.lit (.bool false))) [] (OpF rfl) ?_
              refine Wy (.d (.lit (.bool false))) [] (Omv rfl) ?_
              refine Wn ?_
              refine Wy (.d (.lit (.bool false))) [] (OpF rfl) ?_
              refine Wy (.d (.lit (.bool false))) [] (Omv rfl) ?_
              refine Walk.nil ?_
              refine Then.normal ?_
              refine AWP.ret ?_
              obtain rfl := Option.some.inj hm
              exact ret_i []
          · replace hm := cF hq49_5 hm
            refine Wy (.d (.lit (.bool false))) [] (Ocs (lit_tf (b := decide (r44_5 = (IntKind.i64.wrap (0 - r28_4)))) hq49_5) (Omv rfl)) ?_
            refine Wn ?_
            refine Wn ?_
            refine Wn ?_
            refine Wn ?_
            refine Wy (.d (.lit (.bool false))) [] (OpF rfl) ?_
            refine Wy (.d (.lit (.bool false))) [] (Omv rfl) ?_
            refine Wn ?_
            refine Wn ?_
            refine Wn ?_
            refine Wn ?_
            refine Wn ?_
            refine Wn ?_
            refine Wn ?_
            refine Wn ?_
            refine Wn ?_
            refine Wn ?_
            refine Wy (.d (.lit (.bool false))) [] (OpF rfl) ?_
            refine Wy (.d (.lit (.bool false))) [] (Omv rfl) ?_
            refine Wn ?_
            refine Wn ?_
            refine Wn ?_
            refine Wn ?_
            refine Wn ?_
            refine Wn ?_
            refine Wn ?_
            refine Wn ?_
            refine Wn ?_
            refine Wn ?_
            refine Wy (.d (.lit (.bool false))) [] (OpF rfl) ?_
            refine Wy (.d (.lit (.bool false))) [] (Omv rfl) ?_
            refine Wn ?_
            refine Wy (.d (.lit (.bool false))) [] (OpF rfl) ?_
            refine Wy (.d (.lit (.bool false))) [] (Omv rfl) ?_
            refine Walk.nil ?_
            refine Then.normal ?_
            refine AWP.ret ?_
            obtain rfl := Option.some.inj hm
            exact ret_i []
        · replace hm := cF hq41_5 hm
          refine Wy (.d (.lit (.bool false))) [] (Ocs (lit_tf (b := decide (r28_4 ≤ 1)) hq41_5) (Omv rfl)) ?_
          refine Wn ?_
          refine Wn ?_
          refine Wn ?_
          refine Wn ?_
          refine Wn ?_
          refine Wn ?_
          refine Wy (.d (.lit (.bool false))) [] (OpF rfl) ?_
          refine Wy (.d (.lit (.bool false))) [] (Omv rfl) ?_
          refine Wn ?_
          refine Wn ?_
          refine Wn ?_
          refine Wn ?_
          refine Wy (.d (.lit (.bool false))) [] (OpF rfl) ?_
          refine Wy (.d (.lit (.bool false))) [] (Omv rfl) ?_
          refine Wn ?_
          refine Wn ?_
          refine Wn ?_
          refine Wn ?_
          refine Wn ?_
          refine Wn ?_
          refine Wn ?_
          refine Wn ?_
          refine Wn ?_
          refine Wn ?_
          refine Wy (.d (.lit (.bool false))) [] (OpF rfl) ?_
          refine Wy (.d (.lit (.bool false))) [] (Omv rfl) ?_
          refine Wn ?_
          refine Wn ?_
          refine Wn ?_
          refine Wn ?_
          refine Wn ?_
          refine Wn ?_
          refine Wn ?_
          refine Wn ?_
          refine Wn ?_
          refine Wn ?_
          refine Wy (.d (.lit (.bool false))) [] (OpF rfl) ?_
          refine Wy (.d (.lit (.bool false))) [] (Omv rfl) ?_
          refine Wn ?_
          refine Wy (.d (.lit (.bool false))) [] (OpF rfl) ?_
          refine Wy (.d (.lit (.bool false))) [] (Omv rfl) ?_
          refine Walk.nil ?_
          refine Then.normal ?_
          refine AWP.ret ?_
          obtain rfl := Option.some.inj hm
          exact ret_i []
      · replace hm := cF hq37_5 hm
        refine Wy (.d (.lit (.bool false))) [] (Ocs (lit_tf (b := decide (((-1) : Int) ≤ r28_4)) hq37_5) (Omv rfl)) ?_
        refine Wn ?_
        refine Wn ?_
        refine Wy (.d (.lit (.bool false))) [] (OpF rfl) ?_
        refine Wy (.d (.lit (.bool false))) [] (Omv rfl) ?_
        refine Wn ?_
        refine Wn ?_
        refine Wn ?_
        refine Wn ?_
        refine Wn ?_
        refine Wn ?_
        refine Wy (.d (.lit (.bool false))) [] (OpF rfl) ?_
        refine Wy (.d (.lit (.bool false))) [] (Omv rfl) ?_
        refine Wn ?_
        refine Wn ?_
        refine Wn ?_
        refine Wn ?_
        refine Wy (.d (.lit (.bool false))) [] (OpF rfl) ?_
        refine Wy (.d (.lit (.bool false))) [] (Omv rfl) ?_
        refine Wn ?_
        refine Wn ?_
        refine Wn ?_
        refine Wn ?_
        refine Wn ?_
        refine Wn ?_
        refine Wn ?_
        refine Wn ?_
        refine Wn ?_
        refine Wn ?_
        refine Wy (.d (.lit (.bool false))) [] (OpF rfl) ?_
        refine Wy (.d (.lit (.bool false))) [] (Omv rfl) ?_
        refine Wn ?_
        refine Wn ?_
        refine Wn ?_
        refine Wn ?_
        refine Wn ?_
        refine Wn ?_
        refine Wn ?_
        refine Wn ?_
        refine Wn ?_
        refine Wn ?_
        refine Wy (.d (.lit (.bool false))) [] (OpF rfl) ?_
        refine Wy (.d (.lit (.bool false))) [] (Omv rfl) ?_
        refine Wn ?_
        refine Wy (.d (.lit (.bool false))) [] (OpF rfl) ?_
        refine Wy (.d (.lit (.bool false))) [] (Omv rfl) ?_
        refine Walk.nil ?_
        refine Then.normal ?_
        refine AWP.ret ?_
        obtain rfl := Option.some.inj hm
        exact ret_i []
end Go.Proofs.Ytgocnknbiipcfaa.K
