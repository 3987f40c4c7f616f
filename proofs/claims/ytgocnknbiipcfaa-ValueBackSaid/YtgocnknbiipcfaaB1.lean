/- what telltalelaw04.ValueBack needs (1) -/
import Derived.Test.YtgocnknbiipcfaaB0
namespace Go.Proofs.Ytgocnknbiipcfaa.K
open Go.RowKit Go.Lib
set_option linter.unusedVariables false
set_option linter.unusedSimpArgs false

set_option maxRecDepth 20000 in
set_option maxHeartbeats 4000000 in
theorem ok_real_Rank (p0 : Int) (r : Int) (h : m_real_Rank p0 = some r) : GCall Try.prog 40 [(.d (.lit (.int .u64 p0)))] [] (.d (.lit (.int .u64 r))) [] := by
  refine GCall.of_body (n := 12) (rs := [(.tmp 2)]) Try.func40 rfl rfl rfl ?_
  refine Ato ⟨((.d (.lit (.int .u64 p0))) :: (tu 11 [])), [], 0⟩ ?_
  have hm := h
  unfold m_real_Rank at hm
  refine AWP.seq ?_
  refine AWP.text ?_
  refine Wy (.d (.lit (.int .u64 0))) [] (Omv rfl) ?_
  refine Walk.nil ?_
  refine Then.normal ?_
  refine Amk 1 0 ⟨((.d (.lit (.int .u64 p0))) :: (tp 11 [])), [], 0⟩ ?_
  refine AWP.seq ?_
  refine AWP.text ?_
  refine Wy (.d (.lit (.int .u64 p0))) [] (Omv rfl) ?_
  obtain ⟨r4_0, hr4_0, hm⟩ := bnd hm
  refine Wy (.d (.lit (.int .u64 r4_0))) [] (Ocf [] [] [] 0 (ok_real_Clean p0 r4_0 hr4_0) (fun a w => Try.call35 a w) rfl trivial) ?_
  refine Wy (.d (.lit (.int .u64 r4_0))) [] (Omv rfl) ?_
  refine Walk.nil ?_
  refine Then.normal ?_
  refine Amk 1 0 ⟨((.d (.lit (.int .u64 r4_0))) :: (tp 11 [])), [], 0⟩ ?_
  refine AWP.seq ?_
  refine AWP.seq ?_
  refine AWP.text ?_
  refine Wy (.d (.lit (.int .u64 r4_0))) [] (Omv rfl) ?_
  refine Wy (.d (.lit (.int .u64 (IntKind.u64.wrap (((BitVec.ofInt 64 r4_0 &&& BitVec.ofInt 64 9223372036854775808).toNat : Int)))))) [] (Ocs (by kernel_rfl) (op_bin rfl (a1 := .int .u64 r4_0) (a2 := .int .u64 9223372036854775808) (by kernel_rfl) (by kernel_rfl) (fun _ => hb_and))) ?_
  refine Wy (.d (.lit (.bool (decide ((IntKind.u64.wrap (((BitVec.ofInt 64 r4_0 &&& BitVec.ofInt 64 9223372036854775808).toNat : Int))) ≠ 0))))) [] (Obn rfl (fun _ => hb_neq (k := .u64))) ?_
  refine Walk.nil ?_
  refine Then.normal ?_
  refine Amk 129 0 ⟨((.d (.lit (.int .u64 r4_0))) :: (tp 6 ((.d (.lit (.bool (decide ((IntKind.u64.wrap (((BitVec.ofInt 64 r4_0 &&& BitVec.ofInt 64 9223372036854775808).toNat : Int))) ≠ 0))))) :: (tp 4 [])))), [], 0⟩ ?_
  rcases tf_ (decide ((IntKind.u64.wrap (((BitVec.ofInt 64 r4_0 &&& BitVec.ofInt 64 9223372036854775808).toNat : Int))) ≠ 0)) with hc7_1 | hc7_1
  · replace hm := cT hc7_1 hm
    refine AWP.if_ true (Eq.trans (by kernel_rfl) (lit_tf (b := decide ((IntKind.u64.wrap (((BitVec.ofInt 64 r4_0 &&& BitVec.ofInt 64 9223372036854775808).toNat : Int))) ≠ 0)) hc7_1)) ?_
    refine AWP.seq ?_
    refine AWP.text ?_
    refine Wy (.d (.lit (.int .u64 r4_0))) [] (Omv rfl) ?_
    refine Wy (.d (.lit (.int .u64 (IntKind.u64.wrap ((BitVec.ofInt 64 18446744073709551615 ^^^ BitVec.ofInt 64 r4_0).toNat : Int))))) [] (Ocs (by kernel_rfl) (op_un rfl (a1 := .int .u64 r4_0) (by kernel_rfl) (fun _ => hu_xor))) ?_
    refine Wy (.d (.lit (.int .u64 (IntKind.u64.wrap ((BitVec.ofInt 64 18446744073709551615 ^^^ BitVec.ofInt 64 r4_0).toNat : Int))))) [] (Omv rfl) ?_
    refine Walk.nil ?_
    refine Then.normal ?_
    refine AWP.ret ?_
    refine Then.ret ?_
    obtain rfl := Option.some.inj hm
    exact ret_i []
  · replace hm := cF hc7_1 hm
    refine AWP.if_ false (Eq.trans (by kernel_rfl) (lit_tf (b := decide ((IntKind.u64.wrap (((BitVec.ofInt 64 r4_0 &&& BitVec.ofInt 64 9223372036854775808).toNat : Int))) ≠ 0)) hc7_1)) ?_
    refine AWP.skip ?_
    refine Then.normal ?_
    refine Amk 1 0 ⟨((.d (.lit (.int .u64 r4_0))) :: (tp 11 [])), [], 0⟩ ?_
    refine AWP.seq ?_
    refine AWP.text ?_
    refine Wy (.d (.lit (.int .u64 r4_0))) [] (Omv rfl) ?_
    refine Wy (.d (.lit (.int .u64 (IntKind.u64.wrap (((BitVec.ofInt 64 r4_0 ||| BitVec.ofInt 64 9223372036854775808).toNat : Int)))))) [] (Ocs (by kernel_rfl) (op_bin rfl (a1 := .int .u64 r4_0) (a2 := .int .u64 9223372036854775808) (by kernel_rfl) (by kernel_rfl) (fun _ => hb_or))) ?_
    refine Wy (.d (.lit (.int .u64 (IntKind.u64.wrap (((BitVec.ofInt 64 r4_0 ||| BitVec.ofInt 64 9223372036854775808).toNat : Int)))))) [] (Omv rfl) ?_
    refine Walk.nil ?_
    refine Then.normal ?_
    refine AWP.ret ?_
    obtain rfl := Option.some.inj hm
    exact ret_i []

set_option maxRecDepth 20000 in
set_option maxHeartbeats 4000000 in
theorem ok_cmp_isNaN_uint64 (p0 : Int) (r : Bool) (h : m_cmp_isNaN_uint64 p0 = some r) : GCall Try.prog 57 [(.d (.lit (.int .u64 p0)))] [] (.d (.lit (.bool r))) [] := by
  refine GCall.of_body (n := 6) (rs := [(.tmp 2)]) Try.func57 rfl rfl rfl ?_
  refine Ato ⟨((.d (.lit (.int .u64 p0))) :: (tu 5 [])), [], 0⟩ ?_
  have hm := h
  unfold m_cmp_isNaN_uint64 at hm
  refine AWP.seq ?_
  refine AWP.text ?_
  refine Wy (.d (.lit (.bool false))) [] (Omv rfl) ?_
  refine Walk.nil ?_
  refine Then.normal ?_
  refine Amk 1 0 ⟨((.d (.lit (.int .u64 p0))) :: (tp 5 [])), [], 0⟩ ?_
  refine AWP.seq ?_
  refine AWP.text ?_
  refine Wy (.d (.lit (.int .u64 p0))) [] (Omv rfl) ?_
  refine Wy (.d (.lit (.int .u64 p0))) [] (Omv rfl) ?_
  refine Wy (.d (.lit (.bool (decide (p0 ≠ p0))))) [] (Obn rfl (fun _ => hb_neq (k := .u64))) ?_
  refine Wy (.d (.lit (.bool (decide (p0 ≠ p0))))) [] (Omv rfl) ?_
  refine Walk.nil ?_
  refine Then.normal ?_
  refine AWP.ret ?_
  obtain rfl := Option.some.inj hm
  exact ret_i []

set_option maxRecDepth 20000 in
set_option maxHeartbeats 4000000 in
theorem ok_cmp_Compare_uint64 (p0 : Int) (p1 : Int) (r : Int) (h : m_cmp_Compare_uint64 p0 p1 = some r) : GCall Try.prog 39 [(.d (.lit (.int .u64 p0))), (.d (.lit (.int .u64 p1)))] [] (.d (.lit (.int .i64 r))) [] := by
  refine GCall.of_body (n := 20) (rs := [(.tmp 4)]) Try.func39 rfl rfl rfl ?_
  refine Ato ⟨((.d (.lit (.int .u64 p0))) :: ((.d (.lit (.int .u64 p1))) :: (tu 18 []))), [], 0⟩ ?_
  have hm := h
  unfold m_cmp_Compare_uint64 at hm
  refine AWP.seq ?_
  refine AWP.text ?_
  refine Wy (.d (.lit (.int .i64 0))) [] (Omv rfl) ?_
  refine Walk.nil ?_
  refine Then.normal ?_
  refine Amk 3 0 ⟨((.d (.lit (.int .u64 p0))) :: ((.d (.lit (.int .u64 p1))) :: (tp 18 []))), [], 0⟩ ?_
  refine AWP.seq ?_
  refine AWP.text ?_
  refine Wy (.d (.lit (.int .u64 p0))) [] (Omv rfl) ?_
  obtain ⟨r8_0, hr8_0, hm⟩ := bnd hm
  refine Wy (.d (.lit (.bool r8_0))) [] (Ocf [] [] [] 0 (ok_cmp_isNaN_uint64 p0 r8_0 hr8_0) (fun a w => Try.call57 a w) rfl trivial) ?_
  refine Wy (.d (.lit (.bool r8_0))) [] (Omv rfl) ?_
  refine Walk.nil ?_
  refine Then.normal ?_
  refine Amk 35 0 ⟨((.d (.lit (.int .u64 p0))) :: ((.d (.lit (.int .u64 p1))) :: (tp 3 ((.d (.lit (.bool r8_0))) :: (tp 14 []))))), [], 0⟩ ?_
  refine AWP.seq ?_
  refine AWP.text ?_
  refine Wy (.d (.lit (.int .u64 p1))) [] (Omv rfl) ?_
  obtain ⟨r10_1, hr10_1, hm⟩ := bnd hm
  refine Wy (.d (.lit (.bool r10_1))) [] (Ocf [] [] [] 0 (ok_cmp_isNaN_uint64 p1 r10_1 hr10_1) (fun a w => Try.call57 a w) rfl trivial) ?_
  refine Wy (.d (.lit (.bool r10_1))) [] (Omv rfl) ?_
  refine Walk.nil ?_
  refine Then.normal ?_
  refine Amk 99 0 ⟨((.d (.lit (.int .u64 p0))) :: ((.d (.lit (.int .u64 p1))) :: (tp 3 ((.d (.lit (.bool r8_0))) :: ((.d (.lit (.bool r10_1))) :: (tp 13 [])))))), [], 0⟩ ?_
  refine AWP.seq ?_
  refine AWP.seq ?_
  refine AWP.text ?_
  refine Wy (.d (.lit (.bool r8_0))) [] (Omv rfl) ?_
  refine Walk.nil ?_
  refine Then.normal ?_
  refine Amk 2115 0 ⟨((.d (.lit (.int .u64 p0))) :: ((.d (.lit (.int .u64 p1))) :: (tp 4 ((.d (.lit (.bool r10_1))) :: (tp 4 ((.d (.lit (.bool r8_0))) :: (tp 8 []))))))), [], 0⟩ ?_
  rcases tf_ r8_0 with hc11_2 | hc11_2
  · replace hm := cT hc11_2 hm
    refine AWP.if_ true (Eq.trans (by kernel_rfl) (lit_tf (b := r8_0) hc11_2)) ?_
    refine AWP.seq ?_
    refine AWP.seq ?_
    refine AWP.text ?_
    refine Wy (.d (.lit (.bool r10_1))) [] (Omv rfl) ?_
    refine Walk.nil ?_
    refine Then.normal ?_
    refine Amk 4096 0 ⟨(tp 12 ((.d (.lit (.bool r10_1))) :: (tp 7 []))), [], 0⟩ ?_
    rcases tf_ r10_1 with hc12_3 | hc12_3
    · replace hm := cT hc12_3 hm
      refine AWP.if_ true (Eq.trans (by kernel_rfl) (lit_tf (b := r10_1) hc12_3)) ?_
      refine AWP.seq ?_
      refine AWP.text ?_
      refine Wy (.d (.lit (.int .i64 0))) [] (Omv rfl) ?_
      refine Walk.nil ?_
      refine Then.normal ?_
      refine AWP.ret ?_
      refine Then.ret ?_
      refine Then.ret ?_
      obtain rfl := Option.some.inj hm
      exact ret_i []
    · replace hm := cF hc12_3 hm
      refine AWP.if_ false (Eq.trans (by kernel_rfl) (lit_tf (b := r10_1) hc12_3)) ?_
      refine AWP.skip ?_
      refine Then.normal ?_
      refine Amk 0 0 ⟨(tp 20 []), [], 0⟩ ?_
      refine AWP.seq ?_
      refine AWP.text ?_
      refine Wy (.d (.lit (.int .i64 (-1)))) [] (Omv rfl) ?_
      refine Walk.nil ?_
      refine Then.normal ?_
      refine AWP.ret ?_
      refine Then.ret ?_
      obtain rfl := Option.some.inj hm
      exact ret_i []
  · replace hm := cF hc11_2 hm
    refine AWP.if_ false (Eq.trans (by kernel_rfl) (lit_tf (b := r8_0) hc11_2)) ?_
    refine AWP.skip ?_
    refine Then.normal ?_
    refine Amk 67 0 ⟨((.d (.lit (.int .u64 p0))) :: ((.d (.lit (.int .u64 p1))) :: (tp 4 ((.d (.lit (.bool r10_1))) :: (tp 13 []))))), [], 0⟩ ?_
    refine AWP.seq ?_
    refine AWP.seq ?_
    refine AWP.text ?_
    refine Wy (.d (.lit (.bool r10_1))) [] (Omv rfl) ?_
    refine Walk.nil ?_
    refine Then.normal ?_
    refine Amk 8195 0 ⟨((.d (.lit (.int .u64 p0))) :: ((.d (.lit (.int .u64 p1))) :: (tp 11 ((.d (.lit (.bool r10_1))) :: (tp 6 []))))), [], 0⟩ ?_
    rcases tf_ r10_1 with hc13_4 | hc13_4
    · replace hm := cT hc13_4 hm
      refine AWP.if_ true (Eq.trans (by kernel_rfl) (lit_tf (b := r10_1) hc13_4)) ?_
      refine AWP.seq ?_
      refine AWP.text ?_
      refine Wy (.d (.lit (.int .i64 1))) [] (Omv rfl) ?_
      refine Walk.nil ?_
      refine Then.normal ?_
      refine AWP.ret ?_
      refine Then.ret ?_
      obtain rfl := Option.some.inj hm
      exact ret_i []
    · replace hm := cF hc13_4 hm
      refine AWP.if_ false (Eq.trans (by kernel_rfl) (lit_tf (b := r10_1) hc13_4)) ?_
      refine AWP.skip ?_
      refine Then.normal ?_
      refine Amk 3 0 ⟨((.d (.lit (.int .u64 p0))) :: ((.d (.lit (.int .u64 p1))) :: (tp 18 []))), [], 0⟩ ?_
      refine AWP.seq ?_
      refine AWP.seq ?_
      refine AWP.text ?_
      refine Wy (.d (.lit (.int .u64 p0))) [] (Omv rfl) ?_
      refine Wy (.d (.lit (.int .u64 p1))) [] (Omv rfl) ?_
      refine Wy (.d (.lit (.bool (decide (p0 < p1))))) [] (Obn rfl (fun _ => hb_lss (k := .u64))) ?_
      refine Walk.nil ?_
      refine Then.normal ?_
      refine Amk 65539 0 ⟨((.d (.lit (.int .u64 p0))) :: ((.d (.lit (.int .u64 p1))) :: (tp 14 ((.d (.lit (.bool (decide (p0 < p1))))) :: (tp 3 []))))), [], 0⟩ ?_
      rcases tf_ (decide (p0 < p1)) with hc16_5 | hc16_5
      · replace hm := cT hc16_5 hm
        refine AWP.if_ true (Eq.trans (by kernel_rfl) (lit_tf (b := decide (p0 < p1)) hc16_5)) ?_
        refine AWP.seq ?_
        refine AWP.text ?_
        refine Wy (.d (.lit (.int .i64 (-1)))) [] (Omv rfl) ?_
        refine Walk.nil ?_
        refine Then.normal ?_
        refine AWP.ret ?_
        refine Then.ret ?_
        obtain rfl := Option.some.inj hm
        exact ret_i []
      · replace hm := cF hc16_5 hm
        refine AWP.if_ false (Eq.trans (by kernel_rfl) (lit_tf (b := decide (p0 < p1)) hc16_5)) ?_
        refine AWP.skip ?_
        refine Then.normal ?_
        refine Amk 3 0 ⟨((.d (.lit (.int .u64 p0))) :: ((.d (.lit (.int .u64 p1))) :: (tp 18 []))), [], 0⟩ ?_
        refine AWP.seq ?_
        refine AWP.seq ?_
        refine AWP.text ?_
        refine Wy (.d (.lit (.int .u64 p0))) [] (Omv rfl) ?_
        refine Wy (.d (.lit (.int .u64 p1))) [] (Omv rfl) ?_
        refine Wy (.d (.lit (.bool (decide (p1 < p0))))) [] (Obn rfl (fun _ => hb_gtr (k := .u64))) ?_
        refine Walk.nil ?_
        refine Then.normal ?_
        refine Amk 524288 0 ⟨(tp 19 ((.d (.lit (.bool (decide (p1 < p0))))) :: [])), [], 0⟩ ?_
        rcases tf_ (decide (p1 < p0)) with hc19_6 | hc19_6
        · replace hm := cT hc19_6 hm
          refine AWP.if_ true (Eq.trans (by kernel_rfl) (lit_tf (b := decide (p1 < p0)) hc19_6)) ?_
          refine AWP.seq ?_
          refine AWP.text ?_
          refine Wy (.d (.lit (.int .i64 1))) [] (Omv rfl) ?_
          refine Walk.nil ?_
          refine Then.normal ?_
          refine AWP.ret ?_
          refine Then.ret ?_
          obtain rfl := Option.some.inj hm
          exact ret_i []
        · replace hm := cF hc19_6 hm
          refine AWP.if_ false (Eq.trans (by kernel_rfl) (lit_tf (b := decide (p1 < p0)) hc19_6)) ?_
          refine AWP.skip ?_
          refine Then.normal ?_
          refine Amk 0 0 ⟨(tp 20 []), [], 0⟩ ?_
          refine AWP.seq ?_
          refine AWP.text ?_
          refine Wy (.d (.lit (.int .i64 0))) [] (Omv rfl) ?_
          refine Walk.nil ?_
          refine Then.normal ?_
          refine AWP.ret ?_
          obtain rfl := Option.some.inj hm
          exact ret_i []

set_option maxRecDepth 20000 in
set_option maxHeartbeats 4000000 in
theorem ok_cmp_isNaN_string (p0 : (List UInt8)) (r : Bool) (h : m_cmp_isNaN_string p0 = some r) : GCall Try.prog 58 [(.d (.lit (.string (toS p0))))] [] (.d (.lit (.bool r))) [] := by
  refine GCall.of_body (n := 6) (rs := [(.tmp 2)]) Try.func58 rfl rfl rfl ?_
  refine Ato ⟨((.d (.lit (.string (toS p0)))) :: (tu 5 [])), [], 0⟩ ?_
  have hm := h
  unfold m_cmp_isNaN_string at hm
  refine AWP.seq ?_
  refine AWP.text ?_
  refine Wy (.d (.lit (.bool false))) [] (Omv rfl) ?_
  refine Walk.nil ?_
  refine Then.normal ?_
  refine Amk 1 0 ⟨((.d (.lit (.string (toS p0)))) :: (tp 5 [])), [], 0⟩ ?_
  refine AWP.seq ?_
  refine AWP.text ?_
  refine Wy (.d (.lit (.string (toS p0)))) [] (Omv rfl) ?_
  refine Wy (.d (.lit (.string (toS p0)))) [] (Omv rfl) ?_
  refine Wy (.d (.lit (.bool (decide (p0 ≠ p0))))) [] (Ocs (lit_tf (by simp only [toS_inj, ne_eq])) (op_bin rfl (a1 := .string (toS p0)) (a2 := .string (toS p0)) (by kernel_rfl) (by kernel_rfl) (fun _ => hb_sneq))) ?_
  refine Wy (.d (.lit (.bool (decide (p0 ≠ p0))))) [] (Omv rfl) ?_
  refine Walk.nil ?_
  refine Then.normal ?_
  refine AWP.ret ?_
  obtain rfl := Option.some.inj hm
  exact ret_i []

set_option maxRecDepth 20000 in
set_option maxHeartbeats 4000000 in
theorem ok_cmp_Compare_string (p0 : (List UInt8)) (p1 : (List UInt8)) (r : Int) (h : m_cmp_Compare_string p0 p1 = some r) : GCall Try.prog 41 [(.d (.lit (.string (toS p0)))), (.d (.lit (.string (toS p1))))] [] (.d (.lit (.int .i64 r))) [] := by
  refine GCall.of_body (n := 20) (rs := [(.tmp 4)]) Try.func41 rfl rfl rfl ?_
  refine Ato ⟨((.d (.lit (.string (toS p0)))) :: ((.d (.lit (.string (toS p1)))) :: (tu 18 []))), [], 0⟩ ?_
  have hm := h
  unfold m_cmp_Compare_string at hm
  refine AWP.seq ?_
  refine AWP.text ?_
  refine Wy (.d (.lit (.int .i64 0))) [] (Omv rfl) ?_
  refine Walk.nil ?_
  refine Then.normal ?_
  refine Amk 3 0 ⟨((.d (.lit (.string (toS p0)))) :: ((.d (.lit (.string (toS p1)))) :: (tp 18 []))), [], 0⟩ ?_
  refine AWP.seq ?_
  refine AWP.text ?_
  refine Wy (.d (.lit (.string (toS p0)))) [] (Omv rfl) ?_
  obtain ⟨r8_0, hr8_0, hm⟩ := bnd hm
  refine Wy (.d (.lit (.bool r8_0))) [] (Ocf [] [] [] 0 (ok_cmp_isNaN_string p0 r8_0 hr8_0) (fun a w => Try.call58 a w) rfl trivial) ?_
  refine Wy (.d (.lit (.bool r8_0))) [] (Omv rfl) ?_
  refine Walk.nil ?_
  refine Then.normal ?_
  refine Amk 35 0 ⟨((.d (.lit (.string (toS p0)))) :: ((.d (.lit (.string (toS p1)))) :: (tp 3 ((.d (.lit (.bool r8_0))) :: (tp 14 []))))), [], 0⟩ ?_
  refine AWP.seq ?_
  refine AWP.text ?_
  refine Wy (.d (.lit (.string (toS p1)))) [] (Omv rfl) ?_
  obtain ⟨r10_1, hr10_1, hm⟩ := bnd hm
  refine Wy (.d (.lit (.bool r10_1))) [] (Ocf [] [] [] 0 (ok_cmp_isNaN_string p1 r10_1 hr10_1) (fun a w => Try.call58 a w) rfl trivial) ?_
  refine Wy (.d (.lit (.bool r10_1))) [] (Omv rfl) ?_
  refine Walk.nil ?_
  refine Then.normal ?_
  refine Amk 99 0 ⟨((.d (.lit (.string (toS p0)))) :: ((.d (.lit (.string (toS p1)))) :: (tp 3 ((.d (.lit (.bool r8_0))) :: ((.d (.lit (.bool r10_1))) :: (tp 13 [])))))), [], 0⟩ ?_
  refine AWP.seq ?_
  refine AWP.seq ?_
  refine AWP.text ?_
  refine Wy (.d (.lit (.bool r8_0))) [] (Omv rfl) ?_
  refine Walk.nil ?_
  refine Then.normal ?_
  refine Amk 2115 0 ⟨((.d (.lit (.string (toS p0)))) :: ((.d (.lit (.string (toS p1)))) :: (tp 4 ((.d (.lit (.bool r10_1))) :: (tp 4 ((.d (.lit (.bool r8_0))) :: (tp 8 []))))))), [], 0⟩ ?_
  rcases tf_ r8_0 with hc11_2 | hc11_2
  · replace hm := cT hc11_2 hm
    refine AWP.if_ true (Eq.trans (by kernel_rfl) (lit_tf (b := r8_0) hc11_2)) ?_
    refine AWP.seq ?_
    refine AWP.seq ?_
    refine AWP.text ?_
    refine Wy (.d (.lit (.bool r10_1))) [] (Omv rfl) ?_
    refine Walk.nil ?_
    refine Then.normal ?_
    refine Amk 4096 0 ⟨(tp 12 ((.d (.lit (.bool r10_1))) :: (tp 7 []))), [], 0⟩ ?_
    rcases tf_ r10_1 with hc12_3 | hc12_3
    · replace hm := cT hc12_3 hm
      refine AWP.if_ true (Eq.trans (by kernel_rfl) (lit_tf (b := r10_1) hc12_3)) ?_
      refine AWP.seq ?_
      refine AWP.text ?_
      refine Wy (.d (.lit (.int .i64 0))) [] (Omv rfl) ?_
      refine Walk.nil ?_
      refine Then.normal ?_
      refine AWP.ret ?_
      refine Then.ret ?_
      refine Then.ret ?_
      obtain rfl := Option.some.inj hm
      exact ret_i []
    · replace hm := cF hc12_3 hm
      refine AWP.if_ false (Eq.trans (by kernel_rfl) (lit_tf (b := r10_1) hc12_3)) ?_
      refine AWP.skip ?_
      refine Then.normal ?_
      refine Amk 0 0 ⟨(tp 20 []), [], 0⟩ ?_
      refine AWP.seq ?_
      refine AWP.text ?_
      refine Wy (.d (.lit (.int .i64 (-1)))) [] (Omv rfl) ?_
      refine Walk.nil ?_
      refine Then.normal ?_
      refine AWP.ret ?_
      refine Then.ret ?_
      obtain rfl := Option.some.inj hm
      exact ret_i []
  · replace hm := cF hc11_2 hm
    refine AWP.if_ false (Eq.trans (by kernel_rfl) (lit_tf (b := r8_0) hc11_2)) ?_
    refine AWP.skip ?_
    refine Then.normal ?_
    refine Amk 67 0 ⟨((.d (.lit (.string (toS p0)))) :: ((.d (.lit (.string (toS p1)))) :: (tp 4 ((.d (.lit (.bool r10_1))) :: (tp 13 []))))), [], 0⟩ ?_
    refine AWP.seq ?_
    refine AWP.seq ?_
    refine AWP.text ?_
    refine Wy (.d (.lit (.bool r10_1))) [] (Omv rfl) ?_
    refine Walk.nil ?_
    refine Then.normal ?_
    refine Amk 8195 0 ⟨((.d (.lit (.string (toS p0)))) :: ((.d (.lit (.string (toS p1)))) :: (tp 11 ((.d (.lit (.bool r10_1))) :: (tp 6 []))))), [], 0⟩ ?_
    rcases tf_ r10_1 with hc13_4 | hc13_4
    · replace hm := cT hc13_4 hm
      refine AWP.if_ true (Eq.trans (by kernel_rfl) (lit_tf (b := r10_1) hc13_4)) ?_
      refine AWP.seq ?_
      refine AWP.text ?_
      refine Wy (.d (.lit (.int .i64 1))) [] (Omv rfl) ?_
      refine Walk.nil ?_
      refine Then.normal ?_
      refine AWP.ret ?_
      refine Then.ret ?_
      obtain rfl := Option.some.inj hm
      exact ret_i []
    · replace hm := cF hc13_4 hm
      refine AWP.if_ false (Eq.trans (by kernel_rfl) (lit_tf (b := r10_1) hc13_4)) ?_
      refine AWP.skip ?_
      refine Then.normal ?_
      refine Amk 3 0 ⟨((.d (.lit (.string (toS p0)))) :: ((.d (.lit (.string (toS p1)))) :: (tp 18 []))), [], 0⟩ ?_
      refine AWP.seq ?_
      refine AWP.seq ?_
      refine AWP.text ?_
      refine Wy (.d (.lit (.string (toS p0)))) [] (Omv rfl) ?_
      refine Wy (.d (.lit (.string (toS p1)))) [] (Omv rfl) ?_
      refine Wy (.d (.lit (.bool (ltS p0 p1)))) [] (op_bin rfl (a1 := .string (toS p0)) (a2 := .string (toS p1)) (by kernel_rfl) (by kernel_rfl) (fun _ => hb_tlss)) ?_
      refine Walk.nil ?_
      refine Then.normal ?_
      refine Amk 65539 0 ⟨((.d (.lit (.string (toS p0)))) :: ((.d (.lit (.string (toS p1)))) :: (tp 14 ((.d (.lit (.bool (ltS p0 p1)))) :: (tp 3 []))))), [], 0⟩ ?_
      rcases tf_ (ltS p0 p1) with hc16_5 | hc16_5
      · replace hm := cT hc16_5 hm
        refine AWP.if_ true (Eq.trans (by kernel_rfl) (lit_tf (b := (ltS p0 p1)) hc16_5)) ?_
        refine AWP.seq ?_
        refine AWP.text ?_
        refine Wy (.d (.lit (.int .i64 (-1)))) [] (Omv rfl) ?_
        refine Walk.nil ?_
        refine Then.normal ?_
        refine AWP.ret ?_
        refine Then.ret ?_
        obtain rfl := Option.some.inj hm
        exact ret_i []
      · replace hm := cF hc16_5 hm
        refine AWP.if_ false (Eq.trans (by kernel_rfl) (lit_tf (b := (ltS p0 p1)) hc16_5)) ?_
        refine AWP.skip ?_
        refine Then.normal ?_
        refine Amk 3 0 ⟨((.d (.lit (.string (toS p0)))) :: ((.d (.lit (.string (toS p1)))) :: (tp 18 []))), [], 0⟩ ?_
        refine AWP.seq ?_
        refine AWP.seq ?_
        refine AWP.text ?_
        refine Wy (.d (.lit (.string (toS p0)))) [] (Omv rfl) ?_
        refine Wy (.d (.lit (.string (toS p1)))) [] (Omv rfl) ?_
        refine Wy (.d (.lit (.bool (gtS p0 p1)))) [] (op_bin rfl (a1 := .string (toS p0)) (a2 := .string (toS p1)) (by kernel_rfl) (by kernel_rfl) (fun _ => hb_tgtr)) ?_
        refine Walk.nil ?_
        refine Then.normal ?_
        refine Amk 524288 0 ⟨(tp 19 ((.d (.lit (.bool (gtS p0 p1)))) :: [])), [], 0⟩ ?_
        rcases tf_ (gtS p0 p1) with hc19_6 | hc19_6
        · replace hm := cT hc19_6 hm
          refine AWP.if_ true (Eq.trans (by kernel_rfl) (lit_tf (b := (gtS p0 p1)) hc19_6)) ?_
          refine AWP.seq ?_
          refine AWP.text ?_
          refine Wy (.d (.lit (.int .i64 1))) [] (Omv rfl) ?_
          refine Walk.nil ?_
          refine Then.normal ?_
          refine AWP.ret ?_
          refine Then.ret ?_
          obtain rfl := Option.some.inj hm
          exact ret_i []
        · replace hm := cF hc19_6 hm
          refine AWP.if_ false (Eq.trans (by kernel_rfl) (lit_tf (b := (gtS p0 p1)) hc19_6)) ?_
          refine AWP.skip ?_
          refine Then.normal ?_
          refine Amk 0 0 ⟨(tp 20 []), [], 0⟩ ?_
          refine AWP.seq ?_
          refine AWP.text ?_
          refine Wy (.d (.lit (.int .i64 0))) [] (Omv rfl) ?_
          refine Walk.nil ?_
          refine Then.normal ?_
          refine AWP.ret ?_
          obtain rfl := Option.some.inj hm
          exact ret_i []

set_option maxRecDepth 20000 in
set_option maxHeartbeats 4000000 in
theorem ok_value_Rank (p0 : GValue) (p1 : GValue) (r : Int) (h : m_value_Rank p0 p1 = some r) : GCall Try.prog 14 [(.agg [(.d (byteD p0.Kind)), (.d (.lit (.int .i64 p0.N))), (.d (.lit (.int .u64 p0.Bits))), (.d (.lit (.string (toS p0.Text))))]), (.agg [(.d (byteD p1.Kind)), (.d (.lit (.int .i64 p1.N))), (.d (.lit (.int .u64 p1.Bits))), (.d (.lit (.string (toS p1.Text))))])] [] (.d (.lit (.int .i64 r))) [] := by
  refine GCall.of_body (n := 40) (rs := [(.tmp 4)]) Try.func14 rfl rfl rfl ?_
  refine Ato ⟨((.agg [(.d (byteD p0.Kind)), (.d (.lit (.int .i64 p0.N))), (.d (.lit (.int .u64 p0.Bits))), (.d (.lit (.string (toS p0.Text))))]) :: ((.agg [(.d (byteD p1.Kind)), (.d (.lit (.int .i64 p1.N))), (.d (.lit (.int .u64 p1.Bits))), (.d (.lit (.string (toS p1.Text))))]) :: (tu 38 []))), [], 0⟩ ?_
  have hm := h
  unfold m_value_Rank at hm
  refine AWP.seq ?_
  refine AWP.text ?_
  refine Wy (.loc 0 0) [(0, (.box [(.d (byteD p0.Kind)), (.d (.lit (.int .i64 p0.N))), (.d (.lit (.int .u64 p0.Bits))), (.d (.lit (.string (toS p0.Text))))]))] (Obx rfl) ?_
  refine Wy (.loc 1 0) [(1, (.box [(.d (byteD p1.Kind)), (.d (.lit (.int .i64 p1.N))), (.d (.lit (.int .u64 p1.Bits))), (.d (.lit (.string (toS p1.Text))))]))] (Obx rfl) ?_
  refine Wy (.d (.lit (.int .i64 0))) [] (Omv rfl) ?_
  refine Walk.nil ?_
  refine Then.normal ?_
  refine Amk 12 3 ⟨(tp 2 ((.loc 0 0) :: ((.loc 1 0) :: (tp 36 [])))), [(.box [(.d (byteD p0.Kind)), (.d (.lit (.int .i64 p0.N))), (.d (.lit (.int .u64 p0.Bits))), (.d (.lit (.string (toS p0.Text))))]), (.box [(.d (byteD p1.Kind)), (.d (.lit (.int .i64 p1.N))), (.d (.lit (.int .u64 p1.Bits))), (.d (.lit (.string (toS p1.Text))))])], 0⟩ ?_
  refine AWP.seq ?_
  refine AWP.seq ?_
  refine AWP.text ?_
  refine Wy (.loc 0 0) [] (Ofa rfl) ?_
  refine Wy (.d (byteD p0.Kind)) [] (Old rfl) ?_
  refine Wy (.loc 1 0) [] (Ofa rfl) ?_
  refine Wy (.d (byteD p1.Kind)) [] (Old rfl) ?_
  obtain ⟨r10_0, hr10_0, hm⟩ := bnd hm
  refine Wy (.d (.lit (.int .i64 r10_0))) [] (Ocf [] [] [] 0 (ok_cmp_Compare_uint8 p0.Kind p1.Kind r10_0 hr10_0) (fun a w => Try.call37 a w) rfl trivial) ?_
  refine Wy (.d (.lit (.int .i64 r10_0))) [] (Omv rfl) ?_
  refine Walk.nil ?_
  refine Then.normal ?_
  refine Amk 44 3 ⟨(tp 2 ((.loc 0 0) :: ((.loc 1 0) :: (tp 1 ((.d (.lit (.int .i64 r10_0))) :: (tp 34 [])))))), [(.box [(.d (byteD p0.Kind)), (.d (.lit (.int .i64 p0.N))), (.d (.lit (.int .u64 p0.Bits))), (.d (.lit (.string (toS p0.Text))))]), (.box [(.d (byteD p1.Kind)), (.d (.lit (.int .i64 p1.N))), (.d (.lit (.int .u64 p1.Bits))), (.d (.lit (.string (toS p1.Text))))])], 0⟩ ?_
  refine AWP.seq ?_
  refine AWP.text ?_
  refine Wy (.d (.lit (.int .i64 r10_0))) [] (Omv rfl) ?_
  refine Wy (.d (.lit (.bool (decide (r10_0 ≠ 0))))) [] (Obn rfl (fun _ => hb_neq (k := .i64))) ?_
  refine Walk.nil ?_
  refine Then.normal ?_
  refine Amk 4140 3 ⟨(tp 2 ((.loc 0 0) :: ((.loc 1 0) :: (tp 1 ((.d (.lit (.int .i64 r10_0))) :: (tp 6 ((.d (.lit (.bool (decide (r10_0 ≠ 0))))) :: (tp 27 [])))))))), [(.box [(.d (byteD p0.Kind)), (.d (.lit (.int .i64 p0.N))), (.d (.lit (.int .u64 p0.Bits))), (.d (.lit (.string (toS p0.Text))))]), (.box [(.d (byteD p1.Kind)), (.d (.lit (.int .i64 p1.N))), (.d (.lit (.int .u64 p1.Bits))), (.d (.lit (.string (toS p1.Text))))])], 0⟩ ?_
  rcases tf_ (decide (r10_0 ≠ 0)) with hc12_5 | hc12_5
  · replace hm := cT hc12_5 hm
    refine AWP.if_ true (Eq.trans (by kernel_rfl) (lit_tf (b := decide (r10_0 ≠ 0)) hc12_5)) ?_
    refine AWP.seq ?_
    refine AWP.text ?_
    refine Wy (.d (.lit (.int .i64 r10_0))) [] (Omv rfl) ?_
    refine Wy (.d (.lit (.int .i64 r10_0))) [] (Omv rfl) ?_
    refine Walk.nil ?_
    refine Then.normal ?_
    refine AWP.ret ?_
    refine Then.ret ?_
    obtain rfl := Option.some.inj hm
    exact ret_i []
  · replace hm := cF hc12_5 hm
    refine AWP.if_ false (Eq.trans (by kernel_rfl) (lit_tf (b := decide (r10_0 ≠ 0)) hc12_5)) ?_
    refine AWP.skip ?_
    refine Then.normal ?_
    refine Amk 12 3 ⟨(tp 2 ((.loc 0 0) :: ((.loc 1 0) :: (tp 36 [])))), [(.box [(.d (byteD p0.Kind)), (.d (.lit (.int .i64 p0.N))), (.d (.lit (.int .u64 p0.Bits))), (.d (.lit (.string (toS p0.Text))))]), (.box [(.d (byteD p1.Kind)), (.d (.lit (.int .i64 p1.N))), (.d (.lit (.int .u64 p1.Bits))), (.d (.lit (.string (toS p1.Text))))])], 0⟩ ?_
    refine AWP.seq ?_
    refine AWP.seq ?_
    refine AWP.text ?_
    refine Wy (.loc 0 0) [] (Ofa rfl) ?_
    refine Wy (.d (byteD p0.Kind)) [] (Old rfl) ?_
    refine Walk.nil ?_
    refine Then.normal ?_
    refine Amk 32780 3 ⟨(tp 2 ((.loc 0 0) :: ((.loc 1 0) :: (tp 11 ((.d (byteD p0.Kind)) :: (tp 24 [])))))), [(.box [(.d (byteD p0.Kind)), (.d (.lit (.int .i64 p0.N))), (.d (.lit (.int .u64 p0.Bits))), (.d (.lit (.string (toS p0.Text))))]), (.box [(.d (byteD p1.Kind)), (.d (.lit (.int .i64 p1.N))), (.d (.lit (.int .u64 p1.Bits))), (.d (.lit (.string (toS p1.Text))))])], 0⟩ ?_
    refine AWP.block ?_
    refine AWP.cutJ (α := Bool) (fun x => match x with | y16_1 => (⟨(tp 2 ((.loc 0 0) :: ((.loc 1 0) :: (tp 11 ((.d (byteD p0.Kind)) :: ((.d (.lit (.bool y16_1))) :: (tp 23 []))))))), [(.box [(.d (byteD p0.Kind)), (.d (.lit (.int .i64 p0.N))), (.d (.lit (.int .u64 p0.Bits))), (.d (.lit (.string (toS p0.Text))))]), (.box [(.d (byteD p1.Kind)), (.d (.lit (.int .i64 p1.N))), (.d (.lit (.int .u64 p1.Bits))), (.d (.lit (.string (toS p1.Text))))])], 0⟩ : St)) (fun x => match x with | y16_1 => m_value_Rank_j1 p0 p1 y16_1 = some r) ?_ (fun J1 => ?_)
    · rintro y16_1 hm
      try dsimp only at hm ⊢
      unfold m_value_Rank_j1 at hm
      rcases tf_ y16_1 with hc16_1 | hc16_1
      · replace hm := cT hc16_1 hm
        refine AWP.if_ true (Eq.trans (by kernel_rfl) (lit_tf (b := y16_1) hc16_1)) ?_
        refine AWP.seq ?_
        refine AWP.text ?_
        refine Wy (.loc 0 1) [] (Ofa rfl) ?_
        refine Wy (.d (.lit (.int .i64 p0.N))) [] (Old rfl) ?_
        refine Wy (.loc 1 1) [] (Ofa rfl) ?_
        refine Wy (.d (.lit (.int .i64 p1.N))) [] (Old rfl) ?_
        obtain ⟨r23_2, hr23_2, hm⟩ := bnd hm
        refine Wy (.d (.lit (.int .i64 r23_2))) [] (Ocf [] [] [] 0 (ok_cmp_Compare_int p0.N p1.N r23_2 hr23_2) (fun a w => Try.call38 a w) rfl trivial) ?_
        refine Wy (.d (.lit (.int .i64 r23_2))) [] (Omv rfl) ?_
        refine Walk.nil ?_
        refine Then.normal ?_
        refine AWP.ret ?_
        refine InBlock.ret ?_
        refine Then.ret ?_
        obtain rfl := Option.some.inj hm
        exact ret_i []
      · replace hm := cF hc16_1 hm
        refine AWP.if_ false (Eq.trans (by kernel_rfl) (lit_tf (b := y16_1) hc16_1)) ?_
        refine AWP.seq ?_
        refine AWP.text ?_
        refine Wy (.d (.lit (.bool (decide (((p0.Kind.toNat : Nat) : Int) = 3))))) [] (Ocs (by kernel_rfl) (op_bin rfl (a1 := .int .u8 ((p0.Kind.toNat : Nat) : Int)) (a2 := .int .u8 3) (by kernel_rfl) (by kernel_rfl) (fun _ => hb_eql))) ?_
        refine Wy (.d (.lit (.bool (decide (((p0.Kind.toNat : Nat) : Int) = 3))))) [] (Omv rfl) ?_
        refine Walk.nil ?_
        refine Then.normal ?_
        refine Amk 16809996 3 ⟨(tp 2 ((.loc 0 0) :: ((.loc 1 0) :: (tp 11 ((.d (byteD p0.Kind)) :: (tp 8 ((.d (.lit (.bool (decide (((p0.Kind.toNat : Nat) : Int) = 3))))) :: (tp 15 [])))))))), [(.box [(.d (byteD p0.Kind)), (.d (.lit (.int .i64 p0.N))), (.d (.lit (.int .u64 p0.Bits))), (.d (.lit (.string (toS p0.Text))))]), (.box [(.d (byteD p1.Kind)), (.d (.lit (.int .i64 p1.N))), (.d (.lit (.int .u64 p1.Bits))), (.d (.lit (.string (toS p1.Text))))])], 0⟩ ?_
        rcases tf_ (decide (((p0.Kind.toNat : Nat) : Int) = 3)) with hc24_6 | hc24_6
        · replace hm := cT hc24_6 hm
          refine AWP.if_ true (Eq.trans (by kernel_rfl) (lit_tf (b := decide (((p0.Kind.toNat : Nat) : Int) = 3)) hc24_6)) ?_
          refine AWP.seq ?_
          refine Adr ?_
          refine Wy (.loc 0 2) [] (Ofa rfl) ?_
          refine Wy (.d (.lit (.int .u64 p0.Bits))) [] (Old rfl) ?_
          obtain ⟨r28_3, hr28_3, hm⟩ := bnd hm
          refine Wy (.d (.lit (.int .u64 r28_3))) [] (Ocf [] [] [] 0 (ok_real_Rank p0.Bits r28_3 hr28_3) (fun a w => Try.call40 a w) rfl trivial) ?_
          refine Wy (.loc 1 2) [] (Ofa rfl) ?_
          refine Wy (.d (.lit (.int .u64 p1.Bits))) [] (Old rfl) ?_
          obtain ⟨r31_3, hr31_3, hm⟩ := bnd hm
          refine Wy (.d (.lit (.int .u64 r31_3))) [] (Ocf [] [] [] 0 (ok_real_Rank p1.Bits r31_3 hr31_3) (fun a w => Try.call40 a w) rfl trivial) ?_
          obtain ⟨r32_3, hr32_3, hm⟩ := bnd hm
          refine Wy (.d (.lit (.int .i64 r32_3))) [] (Ocf [] [] [] 0 (ok_cmp_Compare_uint64 r28_3 r31_3 r32_3 hr32_3) (fun a w => Try.call39 a w) rfl trivial) ?_
          refine Wy (.d (.lit (.int .i64 r32_3))) [] (Omv rfl) ?_
          refine Wdr ?_
          refine Then.normal ?_
          refine AWP.ret ?_
          refine InBlock.ret ?_
          refine Then.ret ?_
          obtain rfl := Option.some.inj hm
          exact ret_i []
        · replace hm := cF hc24_6 hm
          refine AWP.if_ false (Eq.trans (by kernel_rfl) (lit_tf (b := decide (((p0.Kind.toNat : Nat) : Int) = 3)) hc24_6)) ?_
          refine AWP.seq ?_
          refine AWP.text ?_
          refine Wy (.d (.lit (.bool (decide (((p0.Kind.toNat : Nat) : Int) = 4))))) [] (Ocs (by kernel_rfl) (op_bin rfl (a1 := .int .u8 ((p0.Kind.toNat : Nat) : Int)) (a2 := .int .u8 4) (by kernel_rfl) (by kernel_rfl) (fun _ => hb_eql))) ?_
          refine Wy (.d (.lit (.bool (decide (((p0.Kind.toNat : Nat) : Int) = 4))))) [] (Omv rfl) ?_
          refine Walk.nil ?_
          refine Then.normal ?_
          refine Amk 8589934604 3 ⟨(tp 2 ((.loc 0 0) :: ((.loc 1 0) :: (tp 29 ((.d (.lit (.bool (decide (((p0.Kind.toNat : Nat) : Int) = 4))))) :: (tp 6 [])))))), [(.box [(.d (byteD p0.Kind)), (.d (.lit (.int .i64 p0.N))), (.d (.lit (.int .u64 p0.Bits))), (.d (.lit (.string (toS p0.Text))))]), (.box [(.d (byteD p1.Kind)), (.d (.lit (.int .i64 p1.N))), (.d (.lit (.int .u64 p1.Bits))), (.d (.lit (.string (toS p1.Text))))])], 0⟩ ?_
          rcases tf_ (decide (((p0.Kind.toNat : Nat) : Int) = 4)) with hc33_7 | hc33_7
          · replace hm := cT hc33_7 hm
            refine AWP.if_ true (Eq.trans (by kernel_rfl) (lit_tf (b := decide (((p0.Kind.toNat : Nat) : Int) = 4)) hc33_7)) ?_
            refine AWP.seq ?_
            refine AWP.text ?_
            refine Wy (.loc 0 3) [] (Ofa rfl) ?_
            refine Wy (.d (.lit (.string (toS p0.Text)))) [] (Old rfl) ?_
            refine Wy (.loc 1 3) [] (Ofa rfl) ?_
            refine Wy (.d (.lit (.string (toS p1.Text)))) [] (Old rfl) ?_
            obtain ⟨r39_4, hr39_4, hm⟩ := bnd hm
            refine Wy (.d (.lit (.int .i64 r39_4))) [] (Ocf [] [] [] 0 (ok_cmp_Compare_string p0.Text p1.Text r39_4 hr39_4) (fun a w => Try.call41 a w) rfl trivial) ?_
            refine Wy (.d (.lit (.int .i64 r39_4))) [] (Omv rfl) ?_
            refine Walk.nil ?_
            refine Then.normal ?_
            refine AWP.ret ?_
            refine InBlock.ret ?_
            refine Then.ret ?_
            obtain rfl := Option.some.inj hm
            exact ret_i []
          · replace hm := cF hc33_7 hm
            refine AWP.if_ false (Eq.trans (by kernel_rfl) (lit_tf (b := decide (((p0.Kind.toNat : Nat) : Int) = 4)) hc33_7)) ?_
            refine AWP.skip ?_
            refine InBlock.normal ?_
            refine Then.normal ?_
            refine Amk 0 0 ⟨(tp 40 []), [.gone, .gone], 0⟩ ?_
            refine AWP.seq ?_
            refine AWP.text ?_
            refine Wy (.d (.lit (.int .i64 0))) [] (Omv rfl) ?_
            refine Walk.nil ?_
            refine Then.normal ?_
            refine AWP.ret ?_
            obtain rfl := Option.some.inj hm
            exact ret_i []
    refine AWP.seq ?_
    refine AWP.seq ?_
    refine AWP.text ?_
    refine Wy (.d (.lit (.bool (decide (((p0.Kind.toNat : Nat) : Int) = 1))))) [] (Ocs (by kernel_rfl) (op_bin rfl (a1 := .int .u8 ((p0.Kind.toNat : Nat) : Int)) (a2 := .int .u8 1) (by kernel_rfl) (by kernel_rfl) (fun _ => hb_eql))) ?_
    refine Wy (.d (.lit (.bool (decide (((p0.Kind.toNat : Nat) : Int) = 1))))) [] (Omv rfl) ?_
    refine Walk.nil ?_
    refine Then.normal ?_
    refine Amk 98316 3 ⟨(tp 2 ((.loc 0 0) :: ((.loc 1 0) :: (tp 11 ((.d (byteD p0.Kind)) :: ((.d (.lit (.bool (decide (((p0.Kind.toNat : Nat) : Int) = 1))))) :: (tp 23 []))))))), [(.box [(.d (byteD p0.Kind)), (.d (.lit (.int .i64 p0.N))), (.d (.lit (.int .u64 p0.Bits))), (.d (.lit (.string (toS p0.Text))))]), (.box [(.d (byteD p1.Kind)), (.d (.lit (.int .i64 p1.N))), (.d (.lit (.int .u64 p1.Bits))), (.d (.lit (.string (toS p1.Text))))])], 0⟩ ?_
    rcases tf_ (decide (((p0.Kind.toNat : Nat) : Int) = 1)) with hc16_8 | hc16_8
    · replace hm := cT hc16_8 hm
      refine AWP.if_ true (Eq.trans (by kernel_rfl) (lit_tf (b := decide (((p0.Kind.toNat : Nat) : Int) = 1)) hc16_8)) ?_
      refine AWP.skip ?_
      refine Then.normal ?_
      exact AWP.weak (Weak.toK 98316 0 0 [0, 1]) (J1 (decide (((p0.Kind.toNat : Nat) : Int) = 1)) hm)
    · replace hm := cF hc16_8 hm
      refine AWP.if_ false (Eq.trans (by kernel_rfl) (lit_tf (b := decide (((p0.Kind.toNat : Nat) : Int) = 1)) hc16_8)) ?_
      refine AWP.text ?_
      refine Wy (.d (.lit (.bool (decide (((p0.Kind.toNat : Nat) : Int) = 2))))) [] (Ocs (by kernel_rfl) (op_bin rfl (a1 := .int .u8 ((p0.Kind.toNat : Nat) : Int)) (a2 := .int .u8 2) (by kernel_rfl) (by kernel_rfl) (fun _ => hb_eql))) ?_
      refine Wy (.d (.lit (.bool (decide (((p0.Kind.toNat : Nat) : Int) = 2))))) [] (Omv rfl) ?_
      refine Walk.nil ?_
      refine Then.normal ?_
      exact AWP.weak (Weak.toK 98316 0 0 [0, 1]) (J1 (decide (((p0.Kind.toNat : Nat) : Int) = 2)) hm)

set_option maxRecDepth 20000 in
set_option maxHeartbeats 4000000 in
theorem ok_value_OfReal (p0 : Int) (r : GValue) (h : m_value_OfReal p0 = some r) : GCall Try.prog 20 [(.d (.lit (.int .u64 p0)))] [] (.agg [(.d (byteD r.Kind)), (.d (.lit (.int .i64 r.N))), (.d (.lit (.int .u64 r.Bits))), (.d (.lit (.string (toS r.Text))))]) [] := by
  refine GCall.of_body (n := 6) (rs := [(.cell 2 31)]) Try.func20 rfl rfl rfl ?_
  refine Ato ⟨((.d (.lit (.int .u64 p0))) :: (tu 5 [])), [], 0⟩ ?_
  have hm := h
  unfold m_value_OfReal at hm
  refine AWP.seq ?_
  refine AWP.text ?_
  refine Wy (.loc 0 0) [(0, (.box [(.d (byteD 0)), (.d (.lit (.int .i64 0))), (.d (.lit (.int .u64 0))), (.d (.lit (.string (toS ([] : List UInt8)))))]))] (Oal rfl) ?_
  refine Walk.nil ?_
  refine Then.normal ?_
  refine Amk 5 1 ⟨((.d (.lit (.int .u64 p0))) :: (tp 1 ((.loc 0 0) :: (tp 3 [])))), [(.box [(.d (byteD 0)), (.d (.lit (.int .i64 0))), (.d (.lit (.int .u64 0))), (.d (.lit (.string (toS ([] : List UInt8)))))])], 0⟩ ?_
  refine AWP.seq ?_
  refine AWP.text ?_
  refine Wy (.d (.lit (.int .u64 p0))) [] (Omv rfl) ?_
  obtain ⟨r4_0, hr4_0, hm⟩ := bnd hm
  refine Wy (.d (.lit (.int .u64 r4_0))) [] (Ocf [] [] [] 0 (ok_real_Clean p0 r4_0 hr4_0) (fun a w => Try.call35 a w) rfl trivial) ?_
  refine Wy (.agg [(.d (byteD 3)), (.d (.lit (.int .i64 0))), (.d (.lit (.int .u64 r4_0))), (.d (.lit (.string (toS ([] : List UInt8)))))]) [] (Obd rfl) ?_
  refine Wy (.tup []) [(0, (.box [(.d (byteD 3)), (.d (.lit (.int .i64 0))), (.d (.lit (.int .u64 r4_0))), (.d (.lit (.string (toS ([] : List UInt8)))))]))] (Ost rfl) ?_
  refine Walk.nil ?_
  refine Then.normal ?_
  refine AWP.ret ?_
  obtain rfl := Option.some.inj hm
  exact ret_i []

set_option maxRecDepth 20000 in
set_option maxHeartbeats 4000000 in
theorem ok_value_Word (p0 : UInt8) (r : (List UInt8)) (h : m_value_Word p0 = some r) : GCall Try.prog 26 [(.d (byteD p0))] [] (.d (.lit (.string (toS r)))) [] := by
  refine GCall.of_body (n := 12) (rs := [(.tmp 2)]) Try.func26 rfl rfl rfl ?_
  refine Ato ⟨((.d (byteD p0)) :: (tu 11 [])), [], 0⟩ ?_
  have hm := h
  unfold m_value_Word at hm
  refine AWP.seq ?_
  refine AWP.text ?_
  refine Wy (.d (.lit (.string (toS ([] : List UInt8))))) [] (Omv rfl) ?_
  refine Walk.nil ?_
  refine Then.normal ?_
  refine Amk 1 0 ⟨((.d (byteD p0)) :: (tp 11 [])), [], 0⟩ ?_
  refine AWP.seq ?_
  refine AWP.seq ?_
  refine AWP.text ?_
  refine Wy (.d (byteD p0)) [] (Omv rfl) ?_
  refine Walk.nil ?_
  refine Then.normal ?_
  refine Amk 8 0 ⟨(tp 3 ((.d (byteD p0)) :: (tp 8 []))), [], 0⟩ ?_
  refine AWP.block ?_
  refine AWP.seq ?_
  refine AWP.text ?_
  refine Wy (.d (.lit (.bool (decide (((p0.toNat : Nat) : Int) = 1))))) [] (Ocs (by kernel_rfl) (op_bin rfl (a1 := .int .u8 ((p0.toNat : Nat) : Int)) (a2 := .int .u8 1) (by kernel_rfl) (by kernel_rfl) (fun _ => hb_eql))) ?_
  refine Wy (.d (.lit (.bool (decide (((p0.toNat : Nat) : Int) = 1))))) [] (Omv rfl) ?_
  refine Walk.nil ?_
  refine Then.normal ?_
  refine Amk 24 0 ⟨(tp 3 ((.d (byteD p0)) :: ((.d (.lit (.bool (decide (((p0.toNat : Nat) : Int) = 1))))) :: (tp 7 [])))), [], 0⟩ ?_
  rcases tf_ (decide (((p0.toNat : Nat) : Int) = 1)) with hc4_0 | hc4_0
  · replace hm := cT hc4_0 hm
    refine AWP.if_ true (Eq.trans (by kernel_rfl) (lit_tf (b := decide (((p0.toNat : Nat) : Int) = 1)) hc4_0)) ?_
    refine AWP.seq ?_
    refine AWP.text ?_
    refine Wy (.d (.lit (.string (toS ([105, 110, 116] : List UInt8))))) [] (Omv rfl) ?_
    refine Walk.nil ?_
    refine Then.normal ?_
    refine AWP.ret ?_
    refine InBlock.ret ?_
    refine Then.ret ?_
    obtain rfl := Option.some.inj hm
    exact ret_i []
  · replace hm := cF hc4_0 hm
    refine AWP.if_ false (Eq.trans (by kernel_rfl) (lit_tf (b := decide (((p0.toNat : Nat) : Int) = 1)) hc4_0)) ?_
    refine AWP.seq ?_
    refine AWP.text ?_
    refine Wy (.d (.lit (.bool (decide (((p0.toNat : Nat) : Int) = 2))))) [] (Ocs (by kernel_rfl) (op_bin rfl (a1 := .int .u8 ((p0.toNat : Nat) : Int)) (a2 := .int .u8 2) (by kernel_rfl) (by kernel_rfl) (fun _ => hb_eql))) ?_
    refine Wy (.d (.lit (.bool (decide (((p0.toNat : Nat) : Int) = 2))))) [] (Omv rfl) ?_
    refine Walk.nil ?_
    refine Then.normal ?_
    refine Amk 72 0 ⟨(tp 3 ((.d (byteD p0)) :: (tp 2 ((.d (.lit (.bool (decide (((p0.toNat : Nat) : Int) = 2))))) :: (tp 5 []))))), [], 0⟩ ?_
    rcases tf_ (decide (((p0.toNat : Nat) : Int) = 2)) with hc6_1 | hc6_1
    · replace hm := cT hc6_1 hm
      refine AWP.if_ true (Eq.trans (by kernel_rfl) (lit_tf (b := decide (((p0.toNat : Nat) : Int) = 2)) hc6_1)) ?_
      refine AWP.seq ?_
      refine AWP.text ?_
      refine Wy (.d (.lit (.string (toS ([102, 108, 97, 103] : List UInt8))))) [] (Omv rfl) ?_
      refine Walk.nil ?_
      refine Then.normal ?_
      refine AWP.ret ?_
      refine InBlock.ret ?_
      refine Then.ret ?_
      obtain rfl := Option.some.inj hm
      exact ret_i []
    · replace hm := cF hc6_1 hm
      refine AWP.if_ false (Eq.trans (by kernel_rfl) (lit_tf (b := decide (((p0.toNat : Nat) : Int) = 2)) hc6_1)) ?_
      refine AWP.seq ?_
      refine AWP.text ?_
      refine Wy (.d (.lit (.bool (decide (((p0.toNat : Nat) : Int) = 3))))) [] (Ocs (by kernel_rfl) (op_bin rfl (a1 := .int .u8 ((p0.toNat : Nat) : Int)) (a2 := .int .u8 3) (by kernel_rfl) (by kernel_rfl) (fun _ => hb_eql))) ?_
      refine Wy (.d (.lit (.bool (decide (((p0.toNat : Nat) : Int) = 3))))) [] (Omv rfl) ?_
      refine Walk.nil ?_
      refine Then.normal ?_
      refine Amk 264 0 ⟨(tp 3 ((.d (byteD p0)) :: (tp 4 ((.d (.lit (.bool (decide (((p0.toNat : Nat) : Int) = 3))))) :: (tp 3 []))))), [], 0⟩ ?_
      rcases tf_ (decide (((p0.toNat : Nat) : Int) = 3)) with hc8_2 | hc8_2
      · replace hm := cT hc8_2 hm
        refine AWP.if_ true (Eq.trans (by kernel_rfl) (lit_tf (b := decide (((p0.toNat : Nat) : Int) = 3)) hc8_2)) ?_
        refine AWP.seq ?_
        refine AWP.text ?_
        refine Wy (.d (.lit (.string (toS ([114, 101, 97, 108] : List UInt8))))) [] (Omv rfl) ?_
        refine Walk.nil ?_
        refine Then.normal ?_
        refine AWP.ret ?_
        refine InBlock.ret ?_
        refine Then.ret ?_
        obtain rfl := Option.some.inj hm
        exact ret_i []
      · replace hm := cF hc8_2 hm
        refine AWP.if_ false (Eq.trans (by kernel_rfl) (lit_tf (b := decide (((p0.toNat : Nat) : Int) = 3)) hc8_2)) ?_
        refine AWP.seq ?_
        refine AWP.text ?_
        refine Wy (.d (.lit (.bool (decide (((p0.toNat : Nat) : Int) = 4))))) [] (Ocs (by kernel_rfl) (op_bin rfl (a1 := .int .u8 ((p0.toNat : Nat) : Int)) (a2 := .int .u8 4) (by kernel_rfl) (by kernel_rfl) (fun _ => hb_eql))) ?_
        refine Wy (.d (.lit (.bool (decide (((p0.toNat : Nat) : Int) = 4))))) [] (Omv rfl) ?_
        refine Walk.nil ?_
        refine Then.normal ?_
        refine Amk 1024 0 ⟨(tp 10 ((.d (.lit (.bool (decide (((p0.toNat : Nat) : Int) = 4))))) :: (tp 1 []))), [], 0⟩ ?_
        rcases tf_ (decide (((p0.toNat : Nat) : Int) = 4)) with hc10_3 | hc10_3
        · replace hm := cT hc10_3 hm
          refine AWP.if_ true (Eq.trans (by kernel_rfl) (lit_tf (b := decide (((p0.toNat : Nat) : Int) = 4)) hc10_3)) ?_
          refine AWP.seq ?_
          refine AWP.text ?_
          refine Wy (.d (.lit (.string (toS ([116, 101, 120, 116] : List UInt8))))) [] (Omv rfl) ?_
          refine Walk.nil ?_
          refine Then.normal ?_
          refine AWP.ret ?_
          refine InBlock.ret ?_
          refine Then.ret ?_
          obtain rfl := Option.some.inj hm
          exact ret_i []
        · replace hm := cF hc10_3 hm
          refine AWP.if_ false (Eq.trans (by kernel_rfl) (lit_tf (b := decide (((p0.toNat : Nat) : Int) = 4)) hc10_3)) ?_
          refine AWP.skip ?_
          refine InBlock.normal ?_
          refine Then.normal ?_
          refine Amk 0 0 ⟨(tp 12 []), [], 0⟩ ?_
          refine AWP.seq ?_
          refine AWP.text ?_
          refine Wy (.d (.lit (.string (toS ([] : List UInt8))))) [] (Omv rfl) ?_
          refine Walk.nil ?_
          refine Then.normal ?_
          refine AWP.ret ?_
          obtain rfl := Option.some.inj hm
          exact ret_i []

set_option maxRecDepth 20000 in
set_option maxHeartbeats 4000000 in
theorem ok_telltalelaw04_awake (r : Bool) (h : m_telltalelaw04_awake = some r) : GCall Try.prog 9 [] [] (.d (.lit (.bool r))) [] := by
  refine GCall.of_body (n := 79) (rs := [(.tmp 0)]) Try.func9 rfl rfl rfl ?_
  refine Ato ⟨(tu 79 []), [], 0⟩ ?_
  have hm := h
  unfold m_telltalelaw04_awake at hm
  refine AWP.seq ?_
  refine AWP.text ?_
  refine Wy (.d (.lit (.bool false))) [] (Omv rfl) ?_
  refine Walk.nil ?_
  refine Then.normal ?_
  refine Amk 0 0 ⟨(tp 79 []), [], 0⟩ ?_
  refine AWP.seq ?_
  refine AWP.text ?_
  obtain ⟨r12_0, hr12_0, hm⟩ := bnd hm
  refine Wy (.agg [(.d (byteD r12_0.Kind)), (.d (.lit (.int .i64 r12_0.N))), (.d (.lit (.int .u64 r12_0.Bits))), (.d (.lit (.string (toS r12_0.Text))))]) [] (Ocf [] [] [] 0 (ok_value_OfText ([97, 98] : List UInt8) r12_0 hr12_0) (fun a w => Try.call21 a w) rfl trivial) ?_
  obtain ⟨r13_0, hr13_0, hm⟩ := bnd hm
  refine Wy (.tup [(.own 0), (.d (.lit (.int .i64 r13_0.2)))]) [(0, (.arr 5 1 (List.length r13_0.1) (flatD encU8 r13_0.1)))] (Ocf [] [0] [] 0 (ok_value_Put ([] : List UInt8) r12_0 r13_0 hr13_0) (fun a w => Try.call10 a w) rfl trivial) ?_
  refine Wy (.tup [(.own 0), (.d (.lit (.int .i64 r13_0.2)))]) [] (Omv rfl) ?_
  refine Wy (.own 0) [] (Oex rfl) ?_
  refine Wy (.d (.lit (.int .i64 r13_0.2))) [] (Oex rfl) ?_
  refine Wy (.own 0) [] (Omv rfl) ?_
  refine Wy (.d (.lit (.int .i64 r13_0.2))) [] (Omv rfl) ?_
  refine Walk.nil ?_
  refine Then.normal ?_
  refine Amk 6 1 ⟨(tp 1 ((.own 0) :: ((.d (.lit (.int .i64 r13_0.2))) :: (tp 76 [])))), [(.arr 5 1 (List.length r13_0.1) (flatD encU8 r13_0.1))], 0⟩ ?_
  refine AWP.seq ?_
  refine AWP.text ?_
  obtain ⟨r17_1, hr17_1, hm⟩ := bnd hm
  refine Wy (.tup [(.agg [(.d (byteD r17_1.1.Kind)), (.d (.lit (.int .i64 r17_1.1.N))), (.d (.lit (.int .u64 r17_1.1.Bits))), (.d (.lit (.string (toS r17_1.1.Text))))]), (.d (.lit (.int .i64 r17_1.2.1))), (.d (.lit (.int .i64 r17_1.2.2)))]) [] (Ocf [] [] [] 0 (ok_value_Take ([2, 1] : List UInt8) 0 r17_1 hr17_1) (fun a w => Try.call16 a w) rfl trivial) ?_
  refine Wy (.tup [(.agg [(.d (byteD r17_1.1.Kind)), (.d (.lit (.int .i64 r17_1.1.N))), (.d (.lit (.int .u64 r17_1.1.Bits))), (.d (.lit (.string (toS r17_1.1.Text))))]), (.d (.lit (.int .i64 r17_1.2.1))), (.d (.lit (.int .i64 r17_1.2.2)))]) [] (Omv rfl) ?_
  refine Wy (.agg [(.d (byteD r17_1.1.Kind)), (.d (.lit (.int .i64 r17_1.1.N))), (.d (.lit (.int .u64 r17_1.1.Bits))), (.d (.lit (.string (toS r17_1.1.Text))))]) [] (Oex rfl) ?_
  refine Wy (.d (.lit (.int .i64 r17_1.2.1))) [] (Oex rfl) ?_
  refine Wy (.d (.lit (.int .i64 r17_1.2.2))) [] (Oex rfl) ?_
  refine Wy (.loc 1 0) [(1, (.box [(.d (byteD 0)), (.d (.lit (.int .i64 0))), (.d (.lit (.int .u64 0))), (.d (.lit (.string (toS ([] : List UInt8)))))]))] (Oal rfl) ?_
  refine Wy (.tup []) [(1, (.box [(.d (byteD r17_1.1.Kind)), (.d (.lit (.int .i64 r17_1.1.N))), (.d (.lit (.int .u64 r17_1.1.Bits))), (.d (.lit (.string (toS r17_1.1.Text))))]))] (Ost rfl) ?_
  refine Wy (.d (.lit (.int .i64 r17_1.2.1))) [] (Omv rfl) ?_
  refine Wy (.d (.lit (.int .i64 r17_1.2.2))) [] (Omv rfl) ?_
  refine Walk.nil ?_
  refine Then.normal ?_
  refine Amk 62 3 ⟨(tp 1 ((.own 0) :: ((.d (.lit (.int .i64 r13_0.2))) :: ((.loc 1 0) :: ((.d (.lit (.int .i64 r17_1.2.1))) :: ((.d (.lit (.int .i64 r17_1.2.2))) :: (tp 73 []))))))), [(.arr 5 1 (List.length r13_0.1) (flatD encU8 r13_0.1)), (.box [(.d (byteD r17_1.1.Kind)), (.d (.lit (.int .i64 r17_1.1.N))), (.d (.lit (.int .u64 r17_1.1.Bits))), (.d (.lit (.string (toS r17_1.1.Text))))])], 0⟩ ?_
  refine AWP.seq ?_
  refine AWP.text ?_
  refine Wy (.agg [(.d (byteD 2)), (.d (.lit (.int .i64 2))), (.d (.lit (.int .u64 0))), (.d (.lit (.string (toS ([] : List UInt8)))))]) [] (Obd rfl) ?_
  obtain ⟨r23_2, hr23_2, hm⟩ := bnd hm
  refine Wy (.tup [(.own 2), (.d (.lit (.int .i64 r23_2.2)))]) [(2, (.arr 5 1 (List.length r23_2.1) (flatD encU8 r23_2.1)))] (Ocf [] [2] [] 0 (ok_value_Put ([] : List UInt8) (GValue.mk 2 2 0 ([] : List UInt8)) r23_2 hr23_2) (fun a w => Try.call10 a w) rfl trivial) ?_
  refine Wy (.tup [(.own 2), (.d (.lit (.int .i64 r23_2.2)))]) [] (Omv rfl) ?_
  refine Wy (.own 2) [] (Oex rfl) ?_
  refine Wy (.d (.lit (.int .i64 r23_2.2))) [] (Oex rfl) ?_
  refine Wy (.own 2) [] (Omv rfl) ?_
  refine Wy (.d (.lit (.int .i64 r23_2.2))) [] (Omv rfl) ?_
  refine Walk.nil ?_
  refine Then.normal ?_
  refine Amk 190 3 ⟨(tp 1 ((.own 0) :: ((.d (.lit (.int .i64 r13_0.2))) :: ((.loc 1 0) :: ((.d (.lit (.int .i64 r17_1.2.1))) :: ((.d (.lit (.int .i64 r17_1.2.2))) :: (tp 1 ((.d (.lit (.int .i64 r23_2.2))) :: (tp 71 []))))))))), [(.arr 5 1 (List.length r13_0.1) (flatD encU8 r13_0.1)), (.box [(.d (byteD r17_1.1.Kind)), (.d (.lit (.int .i64 r17_1.1.N))), (.d (.lit (.int .u64 r17_1.1.Bits))), (.d (.lit (.string (toS r17_1.1.Text))))]), .gone], 0⟩ ?_
  refine AWP.seq ?_
  refine AWP.text ?_
  obtain ⟨r27_3, hr27_3, hm⟩ := bnd hm
  refine Wy (.tup [(.agg [(.d (byteD r27_3.1.Kind)), (.d (.lit (.int .i64 r27_3.1.N))), (.d (.lit (.int .u64 r27_3.1.Bits))), (.d (.lit (.string (toS r27_3.1.Text))))]), (.d (.lit (.int .i64 r27_3.2.1))), (.d (.lit (.int .i64 r27_3.2.2)))]) [] (Ocf [] [] [] 0 (ok_value_Take ([4, 25] : List UInt8) 0 r27_3 hr27_3) (fun a w => Try.call16 a w) rfl trivial) ?_
  refine Wy (.tup [(.agg [(.d (byteD r27_3.1.Kind)), (.d (.lit (.int .i64 r27_3.1.N))), (.d (.lit (.int .u64 r27_3.1.Bits))), (.d (.lit (.string (toS r27_3.1.Text))))]), (.d (.lit (.int .i64 r27_3.2.1))), (.d (.lit (.int .i64 r27_3.2.2)))]) [] (Omv rfl) ?_
  refine Wy (.agg [(.d (byteD r27_3.1.Kind)), (.d (.lit (.int .i64 r27_3.1.N))), (.d (.lit (.int .u64 r27_3.1.Bits))), (.d (.lit (.string (toS r27_3.1.Text))))]) [] (Oex rfl) ?_
  refine Wy (.d (.lit (.int .i64 r27_3.2.1))) [] (Oex rfl) ?_
  refine Wy (.d (.lit (.int .i64 r27_3.2.2))) [] (Oex rfl) ?_
  refine Wy (.loc 3 0) [(3, (.box [(.d (byteD 0)), (.d (.lit (.int .i64 0))), (.d (.lit (.int .u64 0))), (.d (.lit (.string (toS ([] : List UInt8)))))]))] (Oal rfl) ?_
  refine Wy (.tup []) [(3, (.box [(.d (byteD r27_3.1.Kind)), (.d (.lit (.int .i64 r27_3.1.N))), (.d (.lit (.int .u64 r27_3.1.Bits))), (.d (.lit (.string (toS r27_3.1.Text))))]))] (Ost rfl) ?_
  refine Wy (.d (.lit (.int .i64 r27_3.2.1))) [] (Omv rfl) ?_
  refine Wy (.d (.lit (.int .i64 r27_3.2.2))) [] (Omv rfl) ?_
  refine Walk.nil ?_
  refine Then.normal ?_
  refine Amk 1214 3 ⟨(tp 1 ((.own 0) :: ((.d (.lit (.int .i64 r13_0.2))) :: ((.loc 1 0) :: ((.d (.lit (.int .i64 r17_1.2.1))) :: ((.d (.lit (.int .i64 r17_1.2.2))) :: (tp 1 ((.d (.lit (.int .i64 r23_2.2))) :: (tp 2 ((.d (.lit (.int .i64 r27_3.2.2))) :: (tp 68 []))))))))))), [(.arr 5 1 (List.length r13_0.1) (flatD encU8 r13_0.1)), (.box [(.d (byteD r17_1.1.Kind)), (.d (.lit (.int .i64 r17_1.1.N))), (.d (.lit (.int .u64 r17_1.1.Bits))), (.d (.lit (.string (toS r17_1.1.Text))))]), .gone, .gone], 0⟩ ?_
  refine AWP.seq ?_
  refine Adr ?_
  refine Wy (.d (.lit (.int .i64 r13_0.2))) [] (Omv rfl) ?_
  refine Wy (.d (.lit (.bool (decide (r13_0.2 = 0))))) [] (Obn rfl (fun _ => hb_eql (k := .i64))) ?_
  rcases tf_ (decide (r13_0.2 = 0)) with hq33_4 | hq33_4
  · replace hm := cT hq33_4 hm
    refine Wy (.d (.lit (.bool true))) [] (Ocs (lit_tf (b := decide (r13_0.2 = 0)) hq33_4) (Omv rfl)) ?_
    refine Wy (.own 0) [] (Omv rfl) ?_
    refine Wy (.d (.lit (.string (toS r13_0.1)))) [] (Ocs (by kernel_rfl) (op_str rfl (e := 5) (by kernel_rfl) (by kernel_rfl) (by kernel_rfl) (y := (.own 0)) (by kernel_rfl) (ds := flatD encU8 r13_0.1) (off := 0) (n := List.length r13_0.1) (by kernel_rfl) (l := r13_0.1) flatU8_take rfl)) ?_
    refine Wy (.d (.lit (.bool (decide (r13_0.1 = ([4, 2, 97, 98] : List UInt8)))))) [] (Ocs (lit_tf (by simp only [toS_inj, ne_eq])) (op_bin rfl (a1 := .string (toS r13_0.1)) (a2 := .string (toS ([4, 2, 97, 98] : List UInt8))) (by kernel_rfl) (by kernel_rfl) (fun _ => hb_seql))) ?_
    refine Wy (.d (.lit (.bool (decide (r13_0.1 = ([4, 2, 97, 98] : List UInt8)))))) [] (OpT rfl) ?_
    rcases tf_ (decide (r13_0.1 = ([4, 2, 97, 98] : List UInt8))) with hq38_4 | hq38_4
    · replace hm := cT hq38_4 hm
      refine Wy (.d (.lit (.bool true))) [] (Ocs (lit_tf (b := decide (r13_0.1 = ([4, 2, 97, 98] : List UInt8))) hq38_4) (Omv rfl)) ?_
      refine Wy (.d (.lit (.int .i64 r17_1.2.2))) [] (Omv rfl) ?_
      refine Wy (.d (.lit (.bool (decide (r17_1.2.2 = 0))))) [] (Obn rfl (fun _ => hb_eql (k := .i64))) ?_
      refine Wy (.d (.lit (.bool (decide (r17_1.2.2 = 0))))) [] (OpT rfl) ?_
      rcases tf_ (decide (r17_1.2.2 = 0)) with hq42_4 | hq42_4
      · replace hm := cT hq42_4 hm
        refine Wy (.d (.lit (.bool true))) [] (Ocs (lit_tf (b := decide (r17_1.2.2 = 0)) hq42_4) (Omv rfl)) ?_
        refine Wy (.agg [(.d (byteD r17_1.1.Kind)), (.d (.lit (.int .i64 r17_1.1.N))), (.d (.lit (.int .u64 r17_1.1.Bits))), (.d (.lit (.string (toS r17_1.1.Text))))]) [] (Old rfl) ?_
        obtain ⟨r44_4, hr44_4, hm⟩ := bnd hm
        refine Wy (.agg [(.d (byteD r44_4.Kind)), (.d (.lit (.int .i64 r44_4.N))), (.d (.lit (.int .u64 r44_4.Bits))), (.d (.lit (.string (toS r44_4.Text))))]) [] (Ocf [] [] [] 0 (ok_value_OfFlag true r44_4 hr44_4) (fun a w => Try.call19 a w) rfl trivial) ?_
        obtain ⟨v45_4, hv45_4, hm⟩ := bnd hm; replace hv45_4 := Option.some.inj hv45_4
        refine Wy (.d (.lit (.bool v45_4))) [] (Ocs (Eq.trans (lit_tf (by simp only [toS_inj])) (congrArg (fun z => A.d (.lit (.bool z))) hv45_4)) (op_eql_struct rfl (la := [(.d (byteD r17_1.1.Kind)), (.d (.lit (.int .i64 r17_1.1.N))), (.d (.lit (.int .u64 r17_1.1.Bits))), (.d (.lit (.string (toS r17_1.1.Text))))]) (lb := [(.d (byteD r44_4.Kind)), (.d (.lit (.int .i64 r44_4.N))), (.d (.lit (.int .u64 r44_4.Bits))), (.d (.lit (.string (toS r44_4.Text))))]) (us := [.int .u8 ((r17_1.1.Kind.toNat : Nat) : Int), .int .i64 r17_1.1.N, .int .u64 r17_1.1.Bits, .string (toS r17_1.1.Text)]) (vs := [.int .u8 ((r44_4.Kind.toNat : Nat) : Int), .int .i64 r44_4.N, .int .u64 r44_4.Bits, .string (toS r44_4.Text)]) (r := (decide (((r17_1.1.Kind.toNat : Nat) : Int) = ((r44_4.Kind.toNat : Nat) : Int)) && (decide (r17_1.1.N = r44_4.N) && (decide (r17_1.1.Bits = r44_4.Bits) && (decide ((toS r17_1.1.Text) = (toS r44_4.Text)) && true))))) (by kernel_rfl) (by kernel_rfl) (by kernel_rfl) (by kernel_rfl) (by kernel_rfl))) ?_
        refine Wy (.d (.lit (.bool v45_4))) [] (OpT rfl) ?_
        rcases tf_ v45_4 with hq47_4 | hq47_4
        · replace hm := cT hq47_4 hm
          refine Wy (.d (.lit (.bool true))) [] (Ocs (lit_tf (b := v45_4) hq47_4) (Omv rfl)) ?_
          refine Wy (.d (.lit (.int .i64 r17_1.2.1))) [] (Omv rfl) ?_
          refine Wy (.d (.lit (.bool (decide (r17_1.2.1 = 2))))) [] (Obn rfl (fun _ => hb_eql (k := .i64))) ?_
          refine Wy (.d (.lit (.bool (decide (r17_1.2.1 = 2))))) [] (OpT rfl) ?_
          rcases tf_ (decide (r17_1.2.1 = 2)) with hq51_4 | hq51_4
          · replace hm := cT hq51_4 hm
            refine Wy (.d (.lit (.bool true))) [] (Ocs (lit_tf (b := decide (r17_1.2.1 = 2)) hq51_4) (Omv rfl)) ?_
            refine Wy (.d (.lit (.int .i64 r23_2.2))) [] (Omv rfl) ?_
            refine Wy (.d (.lit (.bool (decide (r23_2.2 = 8))))) [] (Obn rfl (fun _ => hb_eql (k := .i64))) ?_
            refine Wy (.d (.lit (.bool (decide (r23_2.2 = 8))))) [] (OpT rfl) ?_
            rcases tf_ (decide (r23_2.2 = 8)) with hq55_4 | hq55_4
            · replace hm := cT hq55_4 hm
              refine Wy (.d (.lit (.bool true))) [] (Ocs (lit_tf (b := decide (r23_2.2 = 8)) hq55_4) (Omv rfl)) ?_
              refine Wy (.d (.lit (.int .i64 r27_3.2.2))) [] (Omv rfl) ?_
              refine Wy (.d (.lit (.bool (decide (r27_3.2.2 = 5))))) [] (Obn rfl (fun _ => hb_eql (k := .i64))) ?_
              refine Wy (.d (.lit (.bool (decide (r27_3.2.2 = 5))))) [] (OpT rfl) ?_
              rcases tf_ (decide (r27_3.2.2 = 5)) with hq59_4 | hq59_4
              · replace hm := cT hq59_4 hm
                refine Wy (.d (.lit (.bool true))) [] (Ocs (lit_tf (b := decide (r27_3.2.2 = 5)) hq59_4) (Omv rfl)) ?_
                obtain ⟨r60_4, hr60_4, hm⟩ := bnd hm
                refine Wy (.agg [(.d (byteD r60_4.Kind)), (.d (.lit (.int .i64 r60_4.N))), (.d (.lit (.int .u64 r60_4.Bits))), (.d (.lit (.string (toS r60_4.Text))))]) [] (Ocf [] [] [] 0 (ok_value_OfInt 3 r60_4 hr60_4) (fun a w => Try.call18 a w) rfl trivial) ?_
                obtain ⟨r61_4, hr61_4, hm⟩ := bnd hm
                refine Wy (.agg [(.d (byteD r61_4.Kind)), (.d (.lit (.int .i64 r61_4.N))), (.d (.lit (.int .u64 r61_4.Bits))), (.d (.lit (.string (toS r61_4.Text))))]) [] (Ocf [] [] [] 0 (ok_value_OfFlag false r61_4 hr61_4) (fun a w => Try.call19 a w) rfl trivial) ?_
                obtain ⟨r62_4, hr62_4, hm⟩ := bnd hm
                refine Wy (.d (.lit (.int .i64 r62_4))) [] (Ocf [] [] [] 0 (ok_value_Rank r60_4 r61_4 r62_4 hr62_4) (fun a w => Try.call14 a w) rfl trivial) ?_
                refine Wy (.d (.lit (.bool (decide (r62_4 = (-1)))))) [] (Obn rfl (fun _ => hb_eql (k := .i64))) ?_
                refine Wy (.d (.lit (.bool (decide (r62_4 = (-1)))))) [] (OpT rfl) ?_
                rcases tf_ (decide (r62_4 = (-1))) with hq65_4 | hq65_4
                · replace hm := cT hq65_4 hm
                  refine Wy (.d (.lit (.bool true))) [] (Ocs (lit_tf (b := decide (r62_4 = (-1))) hq65_4) (Omv rfl)) ?_
                  obtain ⟨r66_4, hr66_4, hm⟩ := bnd hm
                  refine Wy (.agg [(.d (byteD r66_4.Kind)), (.d (.lit (.int .i64 r66_4.N))), (.d (.lit (.int .u64 r66_4.Bits))), (.d (.lit (.string (toS r66_4.Text))))]) [] (Ocf [] [] [] 0 (ok_value_OfReal 9223372036854775808 r66_4 hr66_4) (fun a w => Try.call20 a w) rfl trivial) ?_
                  obtain ⟨r67_4, hr67_4, hm⟩ := bnd hm
                  refine Wy (.agg [(.d (byteD r67_4.Kind)), (.d (.lit (.int .i64 r67_4.N))), (.d (.lit (.int .u64 r67_4.Bits))), (.d (.lit (.string (toS r67_4.Text))))]) [] (Ocf [] [] [] 0 (ok_value_OfReal 0 r67_4 hr67_4) (fun a w => Try.call20 a w) rfl trivial) ?_
                  obtain ⟨r68_4, hr68_4, hm⟩ := bnd hm
                  refine Wy (.d (.lit (.int .i64 r68_4))) [] (Ocf [] [] [] 0 (ok_value_Rank r66_4 r67_4 r68_4 hr68_4) (fun a w => Try.call14 a w) rfl trivial) ?_
                  refine Wy (.d (.lit (.bool (decide (r68_4 = (-1)))))) [] (Obn rfl (fun _ => hb_eql (k := .i64))) ?_
                  refine Wy (.d (.lit (.bool (decide (r68_4 = (-1)))))) [] (OpT rfl) ?_
                  rcases tf_ (decide (r68_4 = (-1))) with hq71_4 | hq71_4
                  · replace hm := cT hq71_4 hm
                    refine Wy (.d (.lit (.bool true))) [] (Ocs (lit_tf (b := decide (r68_4 = (-1))) hq71_4) (Omv rfl)) ?_
                    obtain ⟨r72_4, hr72_4, hm⟩ := bnd hm
                    refine Wy (.d (.lit (.string (toS r72_4)))) [] (Ocf [] [] [] 0 (ok_value_Word 3 r72_4 hr72_4) (fun a w => Try.call26 a w) rfl trivial) ?_
                    refine Wy (.d (.lit (.bool (decide (r72_4 = ([114, 101, 97, 108] : List UInt8)))))) [] (Ocs (lit_tf (by simp only [toS_inj, ne_eq])) (op_bin rfl (a1 := .string (toS r72_4)) (a2 := .string (toS ([114, 101, 97, 108] : List UInt8))) (by kernel_rfl) (by kernel_rfl) (fun _ => hb_seql))) ?_
                    refine Wy (.d (.lit (.bool (decide (r72_4 = ([114, 101, 97, 108] : List UInt8)))))) [] (OpT rfl) ?_
                    rcases tf_ (decide (r72_4 = ([114, 101, 97, 108] : List UInt8))) with hq75_4 | hq75_4
                    · replace hm := cT hq75_4 hm
                      refine Wy (.d (.lit (.bool true))) [] (Ocs (lit_tf (b := decide (r72_4 = ([114, 101, 97, 108] : List UInt8))) hq75_4) (Omv rfl)) ?_
                      refine Wy (.d (.lit (.bool true))) [] (OpT rfl) ?_
                      refine Wy (.d (.lit (.bool true))) [] (Omv rfl) ?_
                      refine Wy (.d (.lit (.bool true))) [] (OpT rfl) ?_
                      refine Wy (.d (.lit (.bool true))) [] (Omv rfl) ?_
                      refine Wdr ?_
                      refine Then.normal ?_
                      refine AWP.ret ?_
                      obtain rfl := Option.some.inj hm
                      exact ret_i []
                    · replace hm := cF hq75_4 hm
                      refine Wy (.d (.lit (.bool false))) [] (Ocs (lit_tf (b := decide (r72_4 = ([114, 101, 97, 108] : List UInt8))) hq75_4) (Omv rfl)) ?_
                      refine Wy (.d (.lit (.bool false))) [] (OpF rfl) ?_
                      refine Wy (.d (.lit (.bool false))) [] (Omv rfl) ?_
                      refine Wy (.d (.lit (.bool false))) [] (OpF rfl) ?_
                      refine Wy (.d (.lit (.bool false))) [] (Omv rfl) ?_
                      refine Wdr ?_
                      refine Then.normal ?_
                      refine AWP.ret ?_
                      obtain rfl := Option.some.inj hm
                      exact ret_i []
                  · replace hm := cF hq71_4 hm
                    refine Wy (.d (.lit (.bool false))) [] (Ocs (lit_tf (b := decide (r68_4 = (-1))) hq71_4) (Omv rfl)) ?_
                    refine Wn ?_
                    refine Wn ?_
                    refine Wy (.d (.lit (.bool false))) [] (OpF rfl) ?_
                    refine Wy (.d (.lit (.bool false))) [] (Omv rfl) ?_
                    refine Wy (.d (.lit (.bool false))) [] (OpF rfl) ?_
                    refine Wy (.d (.lit (.bool false))) [] (Omv rfl) ?_
                    refine Wy (.d (.lit (.bool false))) [] (OpF rfl) ?_
                    refine Wy (.d (.lit (.bool false))) [] (Omv rfl) ?_
                    refine Wdr ?_
                    refine Then.normal ?_
                    refine AWP.ret ?_
                    obtain rfl := Option.some.inj hm
                    exact ret_i []
                · replace hm := cF hq65_4 hm
                  refine Wy (.d (.lit (.bool false))) [] (Ocs (lit_tf (b := decide (r62_4 = (-1))) hq65_4) (Omv rfl)) ?_
                  refine Wn ?_
                  refine Wn ?_
                  refine Wn ?_
                  refine Wn ?_
                  refine Wy (.d (.lit (.bool false))) [] (OpF rfl) ?_
                  refine Wy (.d (.lit (.bool false))) [] (Omv rfl) ?_
                  refine Wn ?_
                  refine Wn ?_
                  refine Wy (.d (.lit (.bool false))) [] (OpF rfl) ?_
                  refine Wy (.d (.lit (.bool false))) [] (Omv rfl) ?_
                  refine Wy (.d (.lit (.bool false))) [] (OpF rfl) ?_
                  refine Wy (.d (.lit (.bool false))) [] (Omv rfl) ?_
                  refine Wy (.d (.lit (.bool false))) [] (OpF rfl) ?_
                  refine Wy (.d (.lit (.bool false))) [] (Omv rfl) ?_
                  refine Wdr ?_
                  refine Then.normal ?_
                  refine AWP.ret ?_
                  obtain rfl := Option.some.inj hm
                  exact ret_i []
              · replace hm := cF hq59_4 hm
                refine Wy (.d (.lit (.bool false))) [] (Ocs (lit_tf (b := decide (r27_3.2.2 = 5)) hq59_4) (Omv rfl)) ?_
                refine Wn ?_
                refine Wn ?_
                refine Wn ?_
                refine Wn ?_
                refine Wy (.d (.lit (.bool false))) [] (OpF rfl) ?_
                refine Wy (.d (.lit (.bool false))) [] (Omv rfl) ?_
                refine Wn ?_
                refine Wn ?_
                refine Wn ?_
                refine Wn ?_
                refine Wy (.d (.lit (.bool false))) [] (OpF rfl) ?_
                refine Wy (.d (.lit (.bool false))) [] (Omv rfl) ?_
                refine Wn ?_
                refine Wn ?_
                refine Wy (.d (.lit (.bool false))) [] (OpF rfl) ?_
                refine Wy (.d (.lit (.bool false))) [] (Omv rfl) ?_
                refine Wy (.d (.lit (.bool false))) [] (OpF rfl) ?_
                refine Wy (.d (.lit (.bool false))) [] (Omv rfl) ?_
                refine Wy (.d (.lit (.bool false))) [] (OpF rfl) ?_
                refine Wy (.d (.lit (.bool false))) [] (Omv rfl) ?_
                refine Wdr ?_
                refine Then.normal ?_
                refine AWP.ret ?_
                obtain rfl := Option.some.inj hm
                exact ret_i []
            · replace hm := cF hq55_4 hm
              refine Wy (.d (.lit (.bool false))) [] (Ocs (lit_tf (b := decide (r23_2.2 = 8)) hq55_4) (Omv rfl)) ?_
              refine Wn ?_
              refine Wn ?_
              refine Wy (.d (.lit (.bool false))) [] (OpF rfl) ?_
              refine Wy (.d (.lit (.bool false))) [] (Omv rfl) ?_
              refine Wn ?_
              refine Wn ?_
              refine Wn ?_
              refine Wn ?_
              refine Wy (.d (.lit (.bool false))) [] (OpF rfl) ?_
              refine Wy (.d (.lit (.bool false))) [] (Omv rfl) ?_
              refine Wn ?_
              refine Wn ?_
              refine Wn ?_
              refine Wn ?_
              refine Wy (.d (.lit (.bool false))) [] (OpF rfl) ?_
              refine Wy (.d (.lit (.bool false))) [] (Omv rfl) ?_
              refine Wn ?_
              refine Wn ?_
              refine Wy (.d (.lit (.bool false))) [] (OpF rfl) ?_
              refine Wy (.d (.lit (.bool false))) [] (Omv rfl) ?_
              refine Wy (.d (.lit (.bool false))) [] (OpF rfl) ?_
              refine Wy (.d (.lit (.bool false))) [] (Omv rfl) ?_
              refine Wy (.d (.lit (.bool false))) [] (OpF rfl) ?_
              refine Wy (.d (.lit (.bool false))) [] (Omv rfl) ?_
              refine Wdr ?_
              refine Then.normal ?_
              refine AWP.ret ?_
              obtain rfl := Option.some.inj hm
              exact ret_i []
          · replace hm := cF hq51_4 hm
            refine Wy (.d (.lit (.bool false))) [] (Ocs (lit_tf (b := decide (r17_1.2.1 = 2)) hq51_4) (Omv rfl)) ?_
            refine Wn ?_
            refine Wn ?_
            refine Wy (.d (.lit (.bool false))) [] (OpF rfl) ?_
            refine Wy (.d (.lit (.bool false))) [] (Omv rfl) ?_
            refine Wn ?_
            refine Wn ?_
            refine Wy (.d (.lit (.bool false))) [] (OpF rfl) ?_
            refine Wy (.d (.lit (.bool false))) [] (Omv rfl) ?_
            refine Wn ?_
            refine Wn ?_
            refine Wn ?_
            refine Wn ?_
            refine Wy (.d (.lit (.bool false))) [] (OpF rfl) ?_
            refine Wy (.d (.lit (.bool false))) [] (Omv rfl) ?_
            refine Wn ?_
            refine Wn ?_
            refine Wn ?_
            refine Wn ?_
            refine Wy (.d (.lit (.bool false))) [] (OpF rfl) ?_
            refine Wy (.d (.lit (.bool false))) [] (Omv rfl) ?_
            refine Wn ?_
            refine Wn ?_
            refine Wy (.d (.lit (.bool false))) [] (OpF rfl) ?_
            refine Wy (.d (.lit (.bool false))) [] (Omv rfl) ?_
            refine Wy (.d (.lit (.bool false))) [] (OpF rfl) ?_
            refine Wy (.d (.lit (.bool false))) [] (Omv rfl) ?_
            refine Wy (.d (.lit (.bool false))) [] (OpF rfl) ?_
            refine Wy (.d (.lit (.bool false))) [] (Omv rfl) ?_
            refine Wdr ?_
            refine Then.normal ?_
            refine AWP.ret ?_
            obtain rfl := Option.some.inj hm
            exact ret_i []
        · replace hm := cF hq47_4 hm
          refine Wy (.d (.lit (.bool false))) [] (Ocs (lit_tf (b := v45_4) hq47_4) (Omv rfl)) ?_
          refine Wn ?_
          refine Wn ?_
          refine Wy (.d (.lit (.bool false))) [] (OpF rfl) ?_
          refine Wy (.d (.lit (.bool false))) [] (Omv rfl) ?_
          refine Wn ?_
          refine Wn ?_
          refine Wy (.d (.lit (.bool false))) [] (OpF rfl) ?_
          refine Wy (.d (.lit (.bool false))) [] (Omv rfl) ?_
          refine Wn ?_
          refine Wn ?_
          refine Wy (.d (.lit (.bool false))) [] (OpF rfl) ?_
          refine Wy (.d (.lit (.bool false))) [] (Omv rfl) ?_
          refine Wn ?_
          refine Wn ?_
          refine Wn ?_
          refine Wn ?_
          refine Wy (.d (.lit (.bool false))) [] (OpF rfl) ?_
          refine Wy (.d (.lit (.bool false))) [] (Omv rfl) ?_
          refine Wn ?_
          refine Wn ?_
          refine Wn ?_
          refine Wn ?_
          refine Wy (.d (.lit (.bool false))) [] (OpF rfl) ?_
          refine Wy (.d (.lit (.bool false))) [] (Omv rfl) ?_
          refine Wn ?_
          refine Wn ?_
          refine Wy (.d (.lit (.bool false))) [] (OpF rfl) ?_
          refine Wy (.d (.lit (.bool false))) [] (Omv rfl) ?_
          refine Wy (.d (.lit (.bool false))) [] (OpF rfl) ?_
          refine Wy (.d (.lit (.bool false))) [] (Omv rfl) ?_
          refine Wy (.d (.lit (.bool false))) [] (OpF rfl) ?_
          refine Wy (.d (.lit (.bool false))) [] (Omv rfl) ?_
          refine Wdr ?_
          refine Then.normal ?_
          refine AWP.ret ?_
          obtain rfl := Option.some.inj hm
          exact ret_i []
      · replace hm := cF hq42_4 hm
        refine Wy (.d (.lit (.bool false))) [] (Ocs (lit_tf (b := decide (r17_1.2.2 = 0)) hq42_4) (Omv rfl)) ?_
        refine Wn ?_
        refine Wn ?_
        refine Wn ?_
        refine Wy (.d (.lit (.bool false))) [] (OpF rfl) ?_
        refine Wy (.d (.lit (.bool false))) [] (Omv rfl) ?_
        refine Wn ?_
        refine Wn ?_
        refine Wy (.d (.lit (.bool false))) [] (OpF rfl) ?_
        refine Wy (.d (.lit (.bool false))) [] (Omv rfl) ?_
        refine Wn ?_
        refine Wn ?_
        refine Wy (.d (.lit (.bool false))) [] (OpF rfl) ?_
        refine Wy (.d (.lit (.bool false))) [] (Omv rfl) ?_
        refine Wn ?_
        refine Wn ?_
        refine Wy (.d (.lit (.bool false))) [] (OpF rfl) ?_
        refine Wy (.d (.lit (.bool false))) [] (Omv rfl) ?_
        refine Wn ?_
        refine Wn ?_
        refine Wn ?_
        refine Wn ?_
        refine Wy (.d (.lit (.bool false))) [] (OpF rfl) ?_
        refine Wy (.d (.lit (.bool false))) [] (Omv rfl) ?_
        refine Wn ?_
        refine Wn ?_
        refine Wn ?_
        refine Wn ?_
        refine Wy (.d (.lit (.bool false))) [] (OpF rfl) ?_
        refine Wy (.d (.lit (.bool false))) [] (Omv rfl) ?_
        refine Wn ?_
        refine Wn ?_
        refine Wy (.d (.lit (.bool false))) [] (OpF rfl) ?_
        refine Wy (.d (.lit (.bool false))) [] (Omv rfl) ?_
        refine Wy (.d (.lit (.bool false))) [] (OpF rfl) ?_
        refine Wy (.d (.lit (.bool false))) [] (Omv rfl) ?_
        refine Wy (.d (.lit (.bool false))) [] (OpF rfl) ?_
        refine Wy (.d (.lit (.bool false))) [] (Omv rfl) ?_
        refine Wdr ?_
        refine Then.normal ?_
        refine AWP.ret ?_
        obtain rfl := Option.some.inj hm
        exact ret_i []
    · replace hm := cF hq38_4 hm
      refine Wy (.d (.lit (.bool false))) [] (Ocs (lit_tf (b := decide (r13_0.1 = ([4, 2, 97, 98] : List UInt8))) hq38_4) (Omv rfl)) ?_
      refine Wn ?_
      refine Wn ?_
      refine Wy (.d (.lit (.bool false))) [] (OpF rfl) ?_
      refine Wy (.d (.lit (.bool false))) [] (Omv rfl) ?_
      refine Wn ?_
      refine Wn ?_
      refine Wn ?_
      refine Wy (.d (.lit (.bool false))) [] (OpF rfl) ?_
      refine Wy (.d (.lit (.bool false))) [] (Omv rfl) ?_
      refine Wn ?_
      refine Wn ?_
      refine Wy (.d (.lit (.bool false))) [] (OpF rfl) ?_
      refine Wy (.d (.lit (.bool false))) [] (Omv rfl) ?_
      refine Wn ?_
      refine Wn ?_
      refine Wy (.d (.lit (.bool false))) [] (OpF rfl) ?_
      refine Wy (.d (.lit (.bool false))) [] (Omv rfl) ?_
      refine Wn ?_
      refine Wn ?_
      refine Wy (.d (.lit (.bool false))) [] (OpF rfl) ?_
      refine Wy (.d (.lit (.bool false))) [] (Omv rfl) ?_
      refine Wn ?_
      refine Wn ?_
      refine Wn ?_
      refine Wn ?_
      refine Wy (.d (.lit (.bool false))) [] (OpF rfl) ?_
      refine Wy (.d (.lit (.bool false))) [] (Omv rfl) ?_
      refine Wn ?_
      refine Wn ?_
      refine Wn ?_
      refine Wn ?_
      refine Wy (.d (.lit (.bool false))) [] (OpF rfl) ?_
      refine Wy (.d (.lit (.bool false))) [] (Omv rfl) ?_
      refine Wn ?_
      refine Wn ?_
      refine Wy (.d (.lit (.bool false))) [] (OpF rfl) ?_
      refine Wy (.d (.lit (.bool false))) [] (Omv rfl) ?_
      refine Wy (.d (.lit (.bool false))) [] (OpF rfl) ?_
      refine Wy (.d (.lit (.bool false))) [] (Omv rfl) ?_
      refine Wy (.d (.lit (.bool false))) [] (OpF rfl) ?_
      refine Wy (.d (.lit (.bool false))) [] (Omv rfl) ?_
      refine Wdr ?_
      refine Then.normal ?_
      refine AWP.ret ?_
      obtain rfl := Option.some.inj hm
      exact ret_i []
  · replace hm := cF hq33_4 hm
    refine Wy (.d (.lit (.bool false))) [] (Ocs (lit_tf (b := decide (r13_0.2 = 0)) hq33_4) (Omv rfl)) ?_
    refine Wn ?_
    refine Wn ?_
    refine Wn ?_
    refine Wy (.d (.lit (.bool false))) [] (OpF rfl) ?_
    refine Wy (.d (.lit (.bool false))) [] (Omv rfl) ?_
    refine Wn ?_
    refine Wn ?_
    refine Wy (.d (.lit (.bool false))) [] (OpF rfl) ?_
    refine Wy (.d (.lit (.bool false))) [] (Omv rfl) ?_
    refine Wn ?_
    refine Wn ?_
    refine Wn ?_
    refine Wy (.d (.lit (.bool false))) [] (OpF rfl) ?_
    refine Wy (.d (.lit (.bool false))) [] (Omv rfl) ?_
    refine Wn ?_
    refine Wn ?_
    refine Wy (.d (.lit (.bool false))) [] (OpF rfl) ?_
    refine Wy (.d (.lit (.bool false))) [] (Omv rfl) ?_
    refine Wn ?_
    refine Wn ?_
    refine Wy (.d (.lit (.bool false))) [] (OpF rfl) ?_
    refine Wy (.d (.lit (.bool false))) [] (Omv rfl) ?_
    refine Wn ?_
    refine Wn ?_
    refine Wy (.d (.lit (.bool false))) [] (OpF rfl) ?_
    refine Wy (.d (.lit (.bool false))) [] (Omv rfl) ?_
    refine Wn ?_
    refine Wn ?_
    refine Wn ?_
    refine Wn ?_
    refine Wy (.d (.lit (.bool false))) [] (OpF rfl) ?_
    refine Wy (.d (.lit (.bool false))) [] (Omv rfl) ?_
    refine Wn ?_
    refine Wn ?_
    refine Wn ?_
    refine Wn ?_
    refine Wy (.d (.lit (.bool false))) [] (OpF rfl) ?_
    refine Wy (.d (.lit (.bool false))) [] (Omv rfl) ?_
    refine Wn ?_
    refine Wn ?_
    refine Wy (.d (.lit (.bool false))) [] (OpF rfl) ?_
    refine Wy (.d (.lit (.bool false))) [] (Omv rfl) ?_
    refine Wy (.d (.lit (.bool false))) [] (OpF rfl) ?_
    refine Wy (.d (.lit (.bool false))) [] (Omv rfl) ?_
    refine Wy (.d (.lit (.bool false))) [] (OpF rfl) ?_
    refine Wy (.d (.lit (.bool false))) [] (Omv rfl) ?_
    refine Wdr ?_
    refine Then.normal ?_
    refine AWP.ret ?_
    obtain rfl := Option.some.inj hm
    exact ret_i []

set_option maxRecDepth 20000 in
set_option maxHeartbeats 4000000 in
theorem ok_telltalelaw04_Small (p0 : GValue) (r : Int) (h : m_telltalelaw04_Small p0 = some r) : GCall Try.prog 8 [(.agg [(.d (byteD p0.Kind)), (.d (.lit (.int .i64 p0.N))), (.d (.lit (.int .u64 p0.Bits))), (.d (.lit (.string (toS p0.Text))))])] [] (.d (.lit (.int .i64 r))) [] := by
  refine GCall.of_body (n := 8) (rs := [(.tmp 2)]) Try.func8 rfl rfl rfl ?_
  refine Ato ⟨((.agg [(.d (byteD p0.Kind)), (.d (.lit (.int .i64 p0.N))), (.d (.lit (.int .u64 p0.Bits))), (.d (.lit (.string (toS p0.Text))))]) :: (tu 7 [])), [], 0⟩ ?_
  have hm := h
  unfold m_telltalelaw04_Small at hm
  refine AWP.seq ?_
  refine AWP.text ?_
  refine Wy (.loc 0 0) [(0, (.box [(.d (byteD p0.Kind)), (.d (.lit (.int .i64 p0.N))), (.d (.lit (.int .u64 p0.Bits))), (.d (.lit (.string (toS p0.Text))))]))] (Obx rfl) ?_
  refine Wy (.d (.lit (.int .i64 0))) [] (Omv rfl) ?_
  refine Walk.nil ?_
  refine Then.normal ?_
  refine Amk 2 1 ⟨(tp 1 ((.loc 0 0) :: (tp 6 []))), [(.box [(.d (byteD p0.Kind)), (.d (.lit (.int .i64 p0.N))), (.d (.lit (.int .u64 p0.Bits))), (.d (.lit (.string (toS p0.Text))))])], 0⟩ ?_
  refine AWP.seq ?_
  refine AWP.text ?_
  refine Wy (.loc 0 3) [] (Ofa rfl) ?_
  refine Wy (.d (.lit (.string (toS p0.Text)))) [] (Old rfl) ?_
  refine Wy (.d (.lit (.int .i64 ((List.length p0.Text : Nat) : Int)))) [] (Oln rfl) ?_
  refine Wy (.d (.lit (.int .i64 (IntKind.i64.wrap (((List.length p0.Text : Nat) : Int) - 100))))) [] (Obn rfl (fun _ => hb_sub (k := .i64))) ?_
  refine Wy (.d (.lit (.int .i64 (max 0 (IntKind.i64.wrap (((List.length p0.Text : Nat) : Int) - 100)))))) [] (op_bi2 rfl (a1 := .int .i64 0) (a2 := .int .i64 (IntKind.i64.wrap (((List.length p0.Text : Nat) : Int) - 100))) (by kernel_rfl) (by kernel_rfl) hb_max) ?_
  refine Wy (.d (.lit (.int .i64 (max 0 (IntKind.i64.wrap (((List.length p0.Text : Nat) : Int) - 100)))))) [] (Omv rfl) ?_
  refine Walk.nil ?_
  refine Then.normal ?_
  refine AWP.ret ?_
  obtain rfl := Option.some.inj hm
  exact ret_i []

set_option maxRecDepth 20000 in
set_option maxHeartbeats 4000000 in
theorem ok_value_Put_m2 (p0 : (List UInt8)) (p1 : GValue) (r : ((List UInt8) × Int)) (h : m_value_Put p0 p1 = some r) : GCall Try.prog 10 [(.d (.sl (List.length p0) (flatD encU8 p0))), (.agg [(.d (byteD p1.Kind)), (.d (.lit (.int .i64 p1.N))), (.d (.lit (.int .u64 p1.Bits))), (.d (.lit (.string (toS p1.Text))))])] [] (.tup [(.own 0), (.d (.lit (.int .i64 r.2)))]) [(.arr 5 1 (List.length r.1) (flatD encU8 r.1))] := by
  refine GCall.of_body (n := 58) (rs := [(.tmp 4), (.tmp 5)]) Try.func10 rfl rfl rfl ?_
  refine Ato ⟨((.d (.sl (List.length p0) (flatD encU8 p0))) :: ((.agg [(.d (byteD p1.Kind)), (.d (.lit (.int .i64 p1.N))), (.d (.lit (.int .u64 p1.Bits))), (.d (.lit (.string (toS p1.Text))))]) :: (tu 56 []))), [], 0⟩ ?_
  have hm := h
  unfold m_value_Put at hm
  refine AWP.seq ?_
  refine AWP.text ?_
  refine Wy (.loc 0 0) [(0, (.box [(.d (byteD p1.Kind)), (.d (.lit (.int .i64 p1.N))), (.d (.lit (.int .u64 p1.Bits))), (.d (.lit (.string (toS p1.Text))))]))] (Obx rfl) ?_
  refine Wy (.d .nil) [] (Omv rfl) ?_
  refine Wy (.d (.lit (.int .i64 0))) [] (Omv rfl) ?_
  refine Walk.nil ?_
  refine Then.normal ?_
  refine Amk 9 1 ⟨((.d (.sl (List.length p0) (flatD encU8 p0))) :: (tp 2 ((.loc 0 0) :: (tp 54 [])))), [(.box [(.d (byteD p1.Kind)), (.d (.lit (.int .i64 p1.N))), (.d (.lit (.int .u64 p1.Bits))), (.d (.lit (.string (toS p1.Text))))])], 0⟩ ?_
  refine AWP.seq ?_
  refine AWP.seq ?_
  refine AWP.text ?_
  refine Wy (.agg [(.d (byteD p1.Kind)), (.d (.lit (.int .i64 p1.N))), (.d (.lit (.int .u64 p1.Bits))), (.d (.lit (.string (toS p1.Text))))]) [] (Old rfl) ?_
  obtain ⟨r9_0, hr9_0, hm⟩ := bnd hm
  refine Wy (.d (.lit (.int .i64 r9_0))) [] (Ocf [] [] [] 0 (ok_value_Check p1 r9_0 hr9_0) (fun a w => Try.call12 a w) rfl trivial) ?_
  refine Wy (.d (.lit (.int .i64 r9_0))) [] (Omv rfl) ?_
  refine Walk.nil ?_
  refine Then.normal ?_
  refine Amk 73 1 ⟨((.d (.sl (List.length p0) (flatD encU8 p0))) :: (tp 2 ((.loc 0 0) :: (tp 2 ((.d (.lit (.int .i64 r9_0))) :: (tp 51 [])))))), [(.box [(.d (byteD p1.Kind)), (.d (.lit (.int .i64 p1.N))), (.d (.lit (.int .u64 p1.Bits))), (.d (.lit (.string (toS p1.Text))))])], 0⟩ ?_
  refine AWP.seq ?_
  refine AWP.text ?_
  refine Wy (.d (.lit (.int .i64 r9_0))) [] (Omv rfl) ?_
  refine Wy (.d (.lit (.bool (decide (r9_0 ≠ 0))))) [] (Obn rfl (fun _ => hb_neq (k := .i64))) ?_
  refine Walk.nil ?_
  refine Then.normal ?_
  refine Amk 2121 1 ⟨((.d (.sl (List.length p0) (flatD encU8 p0))) :: (tp 2 ((.loc 0 0) :: (tp 2 ((.d (.lit (.int .i64 r9_0))) :: (tp 4 ((.d (.lit (.bool (decide (r9_0 ≠ 0))))) :: (tp 46 [])))))))), [(.box [(.d (byteD p1.Kind)), (.d (.lit (.int .i64 p1.N))), (.d (.lit (.int .u64 p1.Bits))), (.d (.lit (.string (toS p1.Text))))])], 0⟩ ?_
  rcases tf_ (decide (r9_0 ≠ 0)) with hc11_8 | hc11_8
  · replace hm := cT hc11_8 hm
    refine AWP.if_ true (Eq.trans (by kernel_rfl) (lit_tf (b := decide (r9_0 ≠ 0)) hc11_8)) ?_
    refine AWP.seq ?_
    refine AWP.text ?_
    refine Wy (.d (.lit (.int .i64 r9_0))) [] (Omv rfl) ?_
    refine Wy (.d .nil) [] (Omv rfl) ?_
    refine Wy (.d (.lit (.int .i64 r9_0))) [] (Omv rfl) ?_
    refine Walk.nil ?_
    refine Then.normal ?_
    refine Aow 4 5 1 ⟨((.d (.sl (List.length p0) (flatD encU8 p0))) :: (tp 2 ((.loc 0 0) :: ((.own 1) :: ((.d (.lit (.int .i64 r9_0))) :: ((.d (.lit (.int .i64 r9_0))) :: (tp 4 ((.d (.lit (.bool (decide (r9_0 ≠ 0))))) :: ((.d (.lit (.int .i64 r9_0))) :: (tp 45 [])))))))))), [(.box [(.d (byteD p1.Kind)), (.d (.lit (.int .i64 p1.N))), (.d (.lit (.int .u64 p1.Bits))), (.d (.lit (.string (toS p1.Text))))]), (.arr 5 1 (List.length ([] : List UInt8)) (flatD encU8 ([] : List UInt8)))], 0⟩ ?_
    refine AWP.ret ?_
    refine Then.ret ?_
    obtain rfl := Option.some.inj hm
    exact ret_i [1]
  · replace hm := cF hc11_8 hm
    refine AWP.if_ false (Eq.trans (by kernel_rfl) (lit_tf (b := decide (r9_0 ≠ 0)) hc11_8)) ?_
    refine AWP.skip ?_
    refine Then.normal ?_
    refine Amk 9 1 ⟨((.d (.sl (List.length p0) (flatD encU8 p0))) :: (tp 2 ((.loc 0 0) :: (tp 54 [])))), [(.box [(.d (byteD p1.Kind)), (.d (.lit (.int .i64 p1.N))), (.d (.lit (.int .u64 p1.Bits))), (.d (.lit (.string (toS p1.Text))))])], 0⟩ ?_
    refine AWP.seq ?_
    refine AWP.text ?_
    refine Wy (.d (.sl (List.length p0) (flatD encU8 p0))) [] (Omv rfl) ?_
    refine Wy (.d (.lit (.int .i64 ((List.length p0 : Nat) : Int)))) [] (Oln rfl) ?_
    refine Wy (.d (.sl (List.length p0) (flatD encU8 p0))) [] (Omv rfl) ?_
    refine Wy (.d (.lit (.int .i64 ((List.length p0 : Nat) : Int)))) [] (Oln rfl) ?_
    refine Wy (.d (.lit (.int .i64 (IntKind.i64.wrap (((List.length p0 : Nat) : Int) + 1))))) [] (Obn rfl (fun _ => hb_add (k := .i64))) ?_
    obtain ⟨m18_1, hm18_1, hm⟩ := bnd hm; obtain ⟨hm18_1i, hm18_1j, hm18_1l, hm18_1k, hm18_1e⟩ := mkc_some hm18_1
    refine Wy (.own 1) [(1, (.arr 5 1 (List.length m18_1) (flatD encU8 m18_1)))] (OcB (op_makeC rfl elemOK_25 (by kernel_rfl) (kl := .i64) (kc := .i64) (L := ((List.length p0 : Nat) : Int)) (C := (IntKind.i64.wrap (((List.length p0 : Nat) : Int) + 1))) (by kernel_rfl) (by kernel_rfl) (n := Int.toNat ((List.length p0 : Nat) : Int)) (cp := Int.toNat (IntKind.i64.wrap (((List.length p0 : Nat) : Int) + 1))) hm18_1i hm18_1j hm18_1l (by omega) (by kernel_rfl)) (bl_one (by rw [hm18_1e]; simp) (by rw [hm18_1e]; exact (flat_rep (by kernel_rfl))))) ?_
    refine Wy (.own 1) [] (Omv rfl) ?_
    refine Walk.nil ?_
    refine Then.normal ?_
    refine Amk 137 3 ⟨((.d (.sl (List.length p0) (flatD encU8 p0))) :: (tp 2 ((.loc 0 0) :: (tp 3 ((.own 1) :: (tp 50 [])))))), [(.box [(.d (byteD p1.Kind)), (.d (.lit (.int .i64 p1.N))), (.d (.lit (.int .u64 p1.Bits))), (.d (.lit (.string (toS p1.Text))))]), (.arr 5 1 (List.length m18_1) (flatD encU8 m18_1))], 0⟩ ?_
    refine AWP.seq ?_
    refine AWP.text ?_
    refine Wy (.own 1) [] (Omv rfl) ?_
    refine Wy (.d (.sl (List.length p0) (flatD encU8 p0))) [] (Omv rfl) ?_
    obtain ⟨c21_2, hc21_2, hm⟩ := bnd hm; obtain ⟨hc21_2e, hc21_2l⟩ := cpy_some hc21_2
    refine Wy (.d (.lit (.int .i64 ((List.length p0 : Nat) : Int)))) [(1, (.arr 5 1 (List.length c21_2) (flatD encU8 c21_2)))] (OcB (Ocs (by kernel_rfl) (op_copy rfl (e := 5) (sz := 1) (by kernel_rfl) (yd := (.own 1)) (by kernel_rfl) (id := 1) (off := 0) (dn := List.length m18_1) (by kernel_rfl) (n := List.length m18_1) (xs := flatD encU8 m18_1) (by kernel_rfl) (y := (.d (.sl (List.length p0) (flatD encU8 p0)))) (by kernel_rfl) (ds := flatD encU8 p0) (soff := 0) (k := List.length p0) (by kernel_rfl) (es := flatD encU8 p0) (flat_all encU8_len) (flatD_length encU8_len _) hc21_2l (cpy_fit encU8_len hc21_2l) (by decide))) (bl_one (cpy_len hc21_2e hc21_2l) (by rw [hc21_2e]; exact cpy_put encU8_len hc21_2l))) ?_
    refine Walk.nil ?_
    refine Then.normal ?_
    refine Amk 136 3 ⟨(tp 3 ((.loc 0 0) :: (tp 3 ((.own 1) :: (tp 50 []))))), [(.box [(.d (byteD p1.Kind)), (.d (.lit (.int .i64 p1.N))), (.d (.lit (.int .u64 p1.Bits))), (.d (.lit (.string (toS p1.Text))))]), (.arr 5 1 (List.length c21_2) (flatD encU8 c21_2))], 0⟩ ?_
    refine AWP.seq ?_
    refine AWP.text ?_
    refine Wy (.own 1) [] (Omv rfl) ?_
    refine Wy (.loc 0 0) [] (Ofa rfl) ?_
    refine Wy (.d (byteD p1.Kind)) [] (Old rfl) ?_
    refine Wy (.own 2) [(2, (.arr 5 1 (List.length ([p1.Kind] : List UInt8)) (flatD encU8 ([p1.Kind] : List UInt8))))] (Obs rfl) ?_
    obtain ⟨a26_3, ha26_3, hm⟩ := bnd hm; obtain ⟨ha26_3e, ha26_3l⟩ := app_some ha26_3
    refine Wy (.own 3) [(1, .gone), (3, (.arr 5 1 (List.length a26_3) (flatD encU8 a26_3)))] (Oap rfl elemOK_25 encU8_len ha26_3e ha26_3l) ?_
    refine Wy (.own 3) [] (Omv rfl) ?_
    refine Walk.nil ?_
    refine Then.normal ?_
    refine Amk 136 9 ⟨(tp 3 ((.loc 0 0) :: (tp 3 ((.own 3) :: (tp 50 []))))), [(.box [(.d (byteD p1.Kind)), (.d (.lit (.int .i64 p1.N))), (.d (.lit (.int .u64 p1.Bits))), (.d (.lit (.string (toS p1.Text))))]), .gone, .gone, (.arr 5 1 (List.length a26_3) (flatD encU8 a26_3))], 0⟩ ?_
    refine AWP.seq ?_
    refine AWP.seq ?_
    refine AWP.text ?_
    refine Wy (.loc 0 0) [] (Ofa rfl) ?_
    refine Wy (.d (byteD p1.Kind)) [] (Old rfl) ?_
    refine Walk.nil ?_
    refine Then.normal ?_
    refine Amk 268435592 9 ⟨(tp 3 ((.loc 0 0) :: (tp 3 ((.own 3) :: (tp 20 ((.d (byteD p1.Kind)) :: (tp 29 []))))))), [(.box [(.d (byteD p1.Kind)), (.d (.lit (.int .i64 p1.N))), (.d (.lit (.int .u64 p1.Bits))), (.d (.lit (.string (toS p1.Text))))]), .gone, .gone, (.arr 5 1 (List.length a26_3) (flatD encU8 a26_3))], 0⟩ ?_
    refine AWP.block ?_
    refine AWP.seq ?_
    refine AWP.text ?_
    refine Wy (.d (.lit (.bool (decide (((p1.Kind.toNat : Nat) : Int) = 1))))) [] (Ocs (by kernel_rfl) (op_bin rfl (a1 := .int .u8 ((p1.Kind.toNat : Nat) : Int)) (a2 := .int .u8 1) (by kernel_rfl) (by kernel_rfl) (fun _ => hb_eql))) ?_
    refine Wy (.d (.lit (.bool (decide (((p1.Kind.toNat : Nat) : Int) = 1))))) [] (Omv rfl) ?_
    refine Walk.nil ?_
    refine Then.normal ?_
    refine Amk 805306504 9 ⟨(tp 3 ((.loc 0 0) :: (tp 3 ((.own 3) :: (tp 20 ((.d (byteD p1.Kind)) :: ((.d (.lit (.bool (decide (((p1.Kind.toNat : Nat) : Int) = 1))))) :: (tp 28 [])))))))), [(.box [(.d (byteD p1.Kind)), (.d (.lit (.int .i64 p1.N))), (.d (.lit (.int .u64 p1.Bits))), (.d (.lit (.string (toS p1.Text))))]), .gone, .gone, (.arr 5 1 (List.length a26_3) (flatD encU8 a26_3))], 0⟩ ?_
    rcases tf_ (decide (((p1.Kind.toNat : Nat) : Int) = 1)) with hc29_9 | hc29_9
    · replace hm := cT hc29_9 hm
      refine AWP.if_ true (Eq.trans (by kernel_rfl) (lit_tf (b := decide (((p1.Kind.toNat : Nat) : Int) = 1)) hc29_9)) ?_
      refine AWP.seq ?_
      refine AWP.text ?_
      refine Wy (.own 3) [] (Omv rfl) ?_
      refine Wy (.loc 0 1) [] (Ofa rfl) ?_
      refine Wy (.d (.lit (.int .i64 p1.N))) [] (Old rfl) ?_
      obtain ⟨r34_4, hr34_4, hm⟩ := bnd hm
      refine Wy (.own 4) [(4, (.arr 5 1 (List.length r34_4) (flatD encU8 r34_4)))] (Ocp [] [4] [3] 0 (ok_zig_PutInt a26_3 p1.N r34_4 hr34_4) (⟨by simp [A.Plain, A.Plains, D.Plain, byteD], plain_cons (flat_plain encU8_plain) (plain_nil)⟩) (fun a w => Try.call28 a w) rfl trivial) ?_
      refine Wy (.own 4) [] (Omv rfl) ?_
      refine Wy (.d (.lit (.int .i64 0))) [] (Omv rfl) ?_
      refine Walk.nil ?_
      refine Then.normal ?_
      refine AWP.ret ?_
      refine InBlock.ret ?_
      refine Then.ret ?_
      obtain rfl := Option.some.inj hm
      exact ret_i [4]
    · replace hm := cF hc29_9 hm
      refine AWP.if_ false (Eq.trans (by kernel_rfl) (lit_tf (b := decide (((p1.Kind.toNat : Nat) : Int) = 1)) hc29_9)) ?_
      refine AWP.seq ?_
      refine AWP.text ?_
      refine Wy (.d (.lit (.bool (decide (((p1.Kind.toNat : Nat) : Int) = 2))))) [] (Ocs (by kernel_rfl) (op_bin rfl (a1 := .int .u8 ((p1.Kind.toNat : Nat) : Int)) (a2 := .int .u8 2) (by kernel_rfl) (by kernel_rfl) (fun _ => hb_eql))) ?_
      refine Wy (.d (.lit (.bool (decide (((p1.Kind.toNat : Nat) : Int) = 2))))) [] (Omv rfl) ?_
      refine Walk.nil ?_
      refine Then.normal ?_
      refine Amk 34628173960 9 ⟨(tp 3 ((.loc 0 0) :: (tp 3 ((.own 3) :: (tp 20 ((.d (byteD p1.Kind)) :: (tp 6 ((.d (.lit (.bool (decide (((p1.Kind.toNat : Nat) : Int) = 2))))) :: (tp 22 []))))))))), [(.box [(.d (byteD p1.Kind)), (.d (.lit (.int .i64 p1.N))), (.d (.lit (.int .u64 p1.Bits))), (.d (.lit (.string (toS p1.Text))))]), .gone, .gone, (.arr 5 1 (List.length a26_3) (flatD encU8 a26_3))], 0⟩ ?_
      rcases tf_ (decide (((p1.Kind.toNat : Nat) : Int) = 2)) with hc35_10 | hc35_10
      · replace hm := cT hc35_10 hm
        refine AWP.if_ true (Eq.trans (by kernel_rfl) (lit_tf (b := decide (((p1.Kind.toNat : Nat) : Int) = 2)) hc35_10)) ?_
        refine AWP.seq ?_
        refine AWP.text ?_
        refine Wy (.own 3) [] (Omv rfl) ?_
        refine Wy (.loc 0 1) [] (Ofa rfl) ?_
        refine Wy (.d (.lit (.int .i64 p1.N))) [] (Old rfl) ?_
        refine Wy (.d (byteD (toU8 p1.N))) [] (Ocs (lit_int (u8w _)) (op_convert rfl (a1 := .int .i64 p1.N) (by kernel_rfl) (run_conv (ds := .int .i64) (k' := .u8) (by kernel_rfl) (by kernel_rfl)))) ?_
        refine Wy (.own 4) [(4, (.arr 5 1 (List.length ([(toU8 p1.N)] : List UInt8)) (flatD encU8 ([(toU8 p1.N)] : List UInt8))))] (Obs rfl) ?_
        obtain ⟨a42_5, ha42_5, hm⟩ := bnd hm; obtain ⟨ha42_5e, ha42_5l⟩ := app_some ha42_5
        refine Wy (.own 5) [(3, .gone), (5, (.arr 5 1 (List.length a42_5) (flatD encU8 a42_5)))] (Oap rfl elemOK_25 encU8_len ha42_5e ha42_5l) ?_
        refine Wy (.own 5) [] (Omv rfl) ?_
        refine Wy (.d (.lit (.int .i64 0))) [] (Omv rfl) ?_
        refine Walk.nil ?_
        refine Then.normal ?_
        refine AWP.ret ?_
        refine InBlock.ret ?_
        refine Then.ret ?_
        obtain rfl := Option.some.inj hm
        exact ret_i [5]
      · replace hm := cF hc35_10 hm
        refine AWP.if_ false (Eq.trans (by kernel_rfl) (lit_tf (b := decide (((p1.Kind.toNat : Nat) : Int) = 2)) hc35_10)) ?_
        refine AWP.seq ?_
        refine AWP.text ?_
        refine Wy (.d (.lit (.bool (decide (((p1.Kind.toNat : Nat) : Int) = 3))))) [] (Ocs (by kernel_rfl) (op_bin rfl (a1 := .int .u8 ((p1.Kind.toNat : Nat) : Int)) (a2 := .int .u8 3) (by kernel_rfl) (by kernel_rfl) (fun _ => hb_eql))) ?_
        refine Wy (.d (.lit (.bool (decide (((p1.Kind.toNat : Nat) : Int) = 3))))) [] (Omv rfl) ?_
        refine Walk.nil ?_
        refine Then.normal ?_
        refine Amk 8796093022344 9 ⟨(tp 3 ((.loc 0 0) :: (tp 3 ((.own 3) :: (tp 35 ((.d (.lit (.bool (decide (((p1.Kind.toNat : Nat) : Int) = 3))))) :: (tp 14 []))))))), [(.box [(.d (byteD p1.Kind)), (.d (.lit (.int .i64 p1.N))), (.d (.lit (.int .u64 p1.Bits))), (.d (.lit (.string (toS p1.Text))))]), .gone, .gone, (.arr 5 1 (List.length a26_3) (flatD encU8 a26_3))], 0⟩ ?_
        rcases tf_ (decide (((p1.Kind.toNat : Nat) : Int) = 3)) with hc43_11 | hc43_11
        · replace hm := cT hc43_11 hm
          refine AWP.if_ true (Eq.trans (by kernel_rfl) (lit_tf (b := decide (((p1.Kind.toNat : Nat) : Int) = 3)) hc43_11)) ?_
          refine AWP.seq ?_
          refine AWP.text ?_
          refine Wy (.own 3) [] (Omv rfl) ?_
          refine Wy (.loc 0 2) [] (Ofa rfl) ?_
          refine Wy (.d (.lit (.int .u64 p1.Bits))) [] (Old rfl) ?_
          obtain ⟨r48_6, hr48_6, hm⟩ := bnd hm
          refine Wy (.own 4) [(4, (.arr 5 1 (List.length r48_6) (flatD encU8 r48_6)))] (Ocp [] [4] [3] 0 (ok_octet_Word a26_3 p1.Bits r48_6 hr48_6) (⟨by simp [A.Plain, A.Plains, D.Plain, byteD], plain_cons (flat_plain encU8_plain) (plain_nil)⟩) (fun a w => Try.call29 a w) rfl trivial) ?_
          refine Wy (.own 4) [] (Omv rfl) ?_
          refine Wy (.d (.lit (.int .i64 0))) [] (Omv rfl) ?_
          refine Walk.nil ?_
          refine Then.normal ?_
          refine AWP.ret ?_
          refine InBlock.ret ?_
          refine Then.ret ?_
          obtain rfl := Option.some.inj hm
          exact ret_i [4]
        · replace hm := cF hc43_11 hm
          refine AWP.if_ false (Eq.trans (by kernel_rfl) (lit_tf (b := decide (((p1.Kind.toNat : Nat) : Int) = 3)) hc43_11)) ?_
          refine AWP.skip ?_
          refine InBlock.normal ?_
          refine Then.normal ?_
          refine Amk 136 9 ⟨(tp 3 ((.loc 0 0) :: (tp 3 ((.own 3) :: (tp 50 []))))), [(.box [(.d (byteD p1.Kind)), (.d (.lit (.int .i64 p1.N))), (.d (.lit (.int .u64 p1.Bits))), (.d (.lit (.string (toS p1.Text))))]), .gone, .gone, (.arr 5 1 (List.length a26_3) (flatD encU8 a26_3))], 0⟩ ?_
          refine AWP.seq ?_
          refine Adr ?_
          refine Wy (.own 3) [] (Omv rfl) ?_
          refine Wy (.loc 0 3) [] (Ofa rfl) ?_
          refine Wy (.d (.lit (.string (toS p1.Text)))) [] (Old rfl) ?_
          refine Wy (.d (.lit (.int .i64 ((List.length p1.Text : Nat) : Int)))) [] (Oln rfl) ?_
          refine Wy (.d (.lit (.int .u64 (IntKind.u64.wrap ((List.length p1.Text : Nat) : Int))))) [] (Ocs (by kernel_rfl) (op_convert rfl (a1 := .int .i64 ((List.length p1.Text : Nat) : Int)) (by kernel_rfl) (run_conv (ds := .int .i64) (k' := .u64) (by kernel_rfl) (by kernel_rfl)))) ?_
          obtain ⟨r54_7, hr54_7, hm⟩ := bnd hm
          refine Wy (.own 4) [(4, (.arr 5 1 (List.length r54_7) (flatD encU8 r54_7)))] (Ocp [] [4] [3] 0 (ok_zig_Put a26_3 (IntKind.u64.wrap ((List.length p1.Text : Nat) : Int)) r54_7 hr54_7) (⟨by simp [A.Plain, A.Plains, D.Plain, byteD], plain_cons (flat_plain encU8_plain) (plain_nil)⟩) (fun a w => Try.call30 a w) rfl trivial) ?_
          refine Wy (.loc 0 3) [] (Ofa rfl) ?_
          refine Wy (.d (.lit (.string (toS p1.Text)))) [] (Old rfl) ?_
          obtain ⟨a57_7, ha57_7, hm⟩ := bnd hm; obtain ⟨ha57_7e, ha57_7l⟩ := app_some ha57_7
          refine Wy (.own 5) [(4, .gone), (5, (.arr 5 1 (List.length a57_7) (flatD encU8 a57_7)))] (OcB (op_appendStr rfl elemOK_25 (by kernel_rfl) (id := 4) (by kernel_rfl) (n := List.length r54_7) (xs := flatD encU8 r54_7) (by kernel_rfl) (str := toS p1.Text) (by kernel_rfl) (app_str ha57_7l) (by kernel_rfl) (by decide)) (bl_app (by rw [ha57_7e, List.length_append]; rfl) (by rw [ha57_7e, flatD_append, flatU8 p1.Text]; rfl))) ?_
          refine Wy (.own 5) [] (Omv rfl) ?_
          refine Wy (.d (.lit (.int .i64 0))) [] (Omv rfl) ?_
          refine Wdr ?_
          refine Then.normal ?_
          refine AWP.ret ?_
          obtain rfl := Option.some.inj hm
          exact ret_i [5]

set_option maxRecDepth 20000 in
set_option maxHeartbeats 4000000 in
theorem ok_value_Rank_m2 (p0 : GValue) (p1 : GValue) (r : Int) (h : m_value_Rank p0 p1 = some r) : GCall Try.prog 14 [(.agg [(.d (byteD p0.Kind)), (.d (.lit (.int .i64 p0.N))), (.d (.lit (.int .u64 p0.Bits))), (.d (.lit (.string (toS p0.Text))))]), (.agg [(.d (byteD p1.Kind)), (.d (.lit (.int .i64 p1.N))), (.d (.lit (.int .u64 p1.Bits))), (.d (.lit (.string (toS p1.Text))))])] [] (.d (.lit (.int .i64 r))) [] := by
  refine GCall.of_body (n := 40) (rs := [(.tmp 4)]) Try.func14 rfl rfl rfl ?_
  refine Ato ⟨((.agg [(.d (byteD p0.Kind)), (.d (.lit (.int .i64 p0.N))), (.d (.lit (.int .u64 p0.Bits))), (.d (.lit (.string (toS p0.Text))))]) :: ((.agg [(.d (byteD p1.Kind)), (.d (.lit (.int .i64 p1.N))), (.d (.lit (.int .u64 p1.Bits))), (.d (.lit (.string (toS p1.Text))))]) :: (tu 38 []))), [], 0⟩ ?_
  have hm := h
  unfold m_value_Rank at hm
  refine AWP.seq ?_
  refine AWP.text ?_
  refine Wy (.loc 0 0) [(0, (.box [(.d (byteD p0.Kind)), (.d (.lit (.int .i64 p0.N))), (.d (.lit (.int .u64 p0.Bits))), (.d (.lit (.string (toS p0.Text))))]))] (Obx rfl) ?_
  refine Wy (.loc 1 0) [(1, (.box [(.d (byteD p1.Kind)), (.d (.lit (.int .i64 p1.N))), (.d (.lit (.int .u64 p1.Bits))), (.d (.lit (.string (toS p1.Text))))]))] (Obx rfl) ?_
  refine Wy (.d (.lit (.int .i64 0))) [] (Omv rfl) ?_
  refine Walk.nil ?_
  refine Then.normal ?_
  refine Amk 12 3 ⟨(tp 2 ((.loc 0 0) :: ((.loc 1 0) :: (tp 36 [])))), [(.box [(.d (byteD p0.Kind)), (.d (.lit (.int .i64 p0.N))), (.d (.lit (.int .u64 p0.Bits))), (.d (.lit (.string (toS p0.Text))))]), (.box [(.d (byteD p1.Kind)), (.d (.lit (.int .i64 p1.N))), (.d (.lit (.int .u64 p1.Bits))), (.d (.lit (.string (toS p1.Text))))])], 0⟩ ?_
  refine AWP.seq ?_
  refine AWP.seq ?_
  refine AWP.text ?_
  refine Wy (.loc 0 0) [] (Ofa rfl) ?_
  refine Wy (.d (byteD p0.Kind)) [] (Old rfl) ?_
  refine Wy (.loc 1 0) [] (Ofa rfl) ?_
  refine Wy (.d (byteD p1.Kind)) [] (Old rfl) ?_
  obtain ⟨r10_0, hr10_0, hm⟩ := bnd hm
  refine Wy (.d (.lit (.int .i64 r10_0))) [] (Ocf [] [] [] 0 (ok_cmp_Compare_uint8 p0.Kind p1.Kind r10_0 hr10_0) (fun a w => Try.call37 a w) rfl trivial) ?_
  refine Wy (.d (.lit (.int .i64 r10_0))) [] (Omv rfl) ?_
  refine Walk.nil ?_
  refine Then.normal ?_
  refine Amk 44 3 ⟨(tp 2 ((.loc 0 0) :: ((.loc 1 0) :: (tp 1 ((.d (.lit (.int .i64 r10_0))) :: (tp 34 [])))))), [(.box [(.d (byteD p0.Kind)), (.d (.lit (.int .i64 p0.N))), (.d (.lit (.int .u64 p0.Bits))), (.d (.lit (.string (toS p0.Text))))]), (.box [(.d (byteD p1.Kind)), (.d (.lit (.int .i64 p1.N))), (.d (.lit (.int .u64 p1.Bits))), (.d (.lit (.string (toS p1.Text))))])], 0⟩ ?_
  refine AWP.seq ?_
  refine AWP.text ?_
  refine Wy (.d (.lit (.int .i64 r10_0))) [] (Omv rfl) ?_
  refine Wy (.d (.lit (.bool (decide (r10_0 ≠ 0))))) [] (Obn rfl (fun _ => hb_neq (k := .i64))) ?_
  refine Walk.nil ?_
  refine Then.normal ?_
  refine Amk 4140 3 ⟨(tp 2 ((.loc 0 0) :: ((.loc 1 0) :: (tp 1 ((.d (.lit (.int .i64 r10_0))) :: (tp 6 ((.d (.lit (.bool (decide (r10_0 ≠ 0))))) :: (tp 27 [])))))))), [(.box [(.d (byteD p0.Kind)), (.d (.lit (.int .i64 p0.N))), (.d (.lit (.int .u64 p0.Bits))), (.d (.lit (.string (toS p0.Text))))]), (.box [(.d (byteD p1.Kind)), (.d (.lit (.int .i64 p1.N))), (.d (.lit (.int .u64 p1.Bits))), (.d (.lit (.string (toS p1.Text))))])], 0⟩ ?_
  rcases tf_ (decide (r10_0 ≠ 0)) with hc12_5 | hc12_5
  · replace hm := cT hc12_5 hm
    refine AWP.if_ true (Eq.trans (by kernel_rfl) (lit_tf (b := decide (r10_0 ≠ 0)) hc12_5)) ?_
    refine AWP.seq ?_
    refine AWP.text ?_
    refine Wy (.d (.lit (.int .i64 r10_0))) [] (Omv rfl) ?_
    refine Wy (.d (.lit (.int .i64 r10_0))) [] (Omv rfl) ?_
    refine Walk.nil ?_
    refine Then.normal ?_
    refine AWP.ret ?_
    refine Then.ret ?_
    obtain rfl := Option.some.inj hm
    exact ret_i []
  · replace hm := cF hc12_5 hm
    refine AWP.if_ false (Eq.trans (by kernel_rfl) (lit_tf (b := decide (r10_0 ≠ 0)) hc12_5)) ?_
    refine AWP.skip ?_
    refine Then.normal ?_
    refine Amk 12 3 ⟨(tp 2 ((.loc 0 0) :: ((.loc 1 0) :: (tp 36 [])))), [(.box [(.d (byteD p0.Kind)), (.d (.lit (.int .i64 p0.N))), (.d (.lit (.int .u64 p0.Bits))), (.d (.lit (.string (toS p0.Text))))]), (.box [(.d (byteD p1.Kind)), (.d (.lit (.int .i64 p1.N))), (.d (.lit (.int .u64 p1.Bits))), (.d (.lit (.string (toS p1.Text))))])], 0⟩ ?_
    refine AWP.seq ?_
    refine AWP.seq ?_
    refine AWP.text ?_
    refine Wy (.loc 0 0) [] (Ofa rfl) ?_
    refine Wy (.d (byteD p0.Kind)) [] (Old rfl) ?_
    refine Walk.nil ?_
    refine Then.normal ?_
    refine Amk 32780 3 ⟨(tp 2 ((.loc 0 0) :: ((.loc 1 0) :: (tp 11 ((.d (byteD p0.Kind)) :: (tp 24 [])))))), [(.box [(.d (byteD p0.Kind)), (.d (.lit (.int .i64 p0.N))), (.d (.lit (.int .u64 p0.Bits))), (.d (.lit (.string (toS p0.Text))))]), (.box [(.d (byteD p1.Kind)), (.d (.lit (.int .i64 p1.N))), (.d (.lit (.int .u64 p1.Bits))), (.d (.lit (.string (toS p1.Text))))])], 0⟩ ?_
    refine AWP.block ?_
    refine AWP.cutJ (α := Bool) (fun x => match x with | y16_1 => (⟨(tp 2 ((.loc 0 0) :: ((.loc 1 0) :: (tp 11 ((.d (byteD p0.Kind)) :: ((.d (.lit (.bool y16_1))) :: (tp 23 []))))))), [(.box [(.d (byteD p0.Kind)), (.d (.lit (.int .i64 p0.N))), (.d (.lit (.int .u64 p0.Bits))), (.d (.lit (.string (toS p0.Text))))]), (.box [(.d (byteD p1.Kind)), (.d (.lit (.int .i64 p1.N))), (.d (.lit (.int .u64 p1.Bits))), (.d (.lit (.string (toS p1.Text))))])], 0⟩ : St)) (fun x => match x with | y16_1 => m_value_Rank_j1 p0 p1 y16_1 = some r) ?_ (fun J1 => ?_)
    · rintro y16_1 hm
      try dsimp only at hm ⊢
      unfold m_value_Rank_j1 at hm
      rcases tf_ y16_1 with hc16_1 | hc16_1
      · replace hm := cT hc16_1 hm
        refine AWP.if_ true (Eq.trans (by kernel_rfl) (lit_tf (b := y16_1) hc16_1)) ?_
        refine AWP.seq ?_
        refine AWP.text ?_
        refine Wy (.loc 0 1) [] (Ofa rfl) ?_
        refine Wy (.d (.lit (.int .i64 p0.N))) [] (Old rfl) ?_
        refine Wy (.loc 1 1) [] (Ofa rfl) ?_
        refine Wy (.d (.lit (.int .i64 p1.N))) [] (Old rfl) ?_
        obtain ⟨r23_2, hr23_2, hm⟩ := bnd hm
        refine Wy (.d (.lit (.int .i64 r23_2))) [] (Ocf [] [] [] 0 (ok_cmp_Compare_int p0.N p1.N r23_2 hr23_2) (fun a w => Try.call38 a w) rfl trivial) ?_
        refine Wy (.d (.lit (.int .i64 r23_2))) [] (Omv rfl) ?_
        refine Walk.nil ?_
        refine Then.normal ?_
        refine AWP.ret ?_
        refine InBlock.ret ?_
        refine Then.ret ?_
        obtain rfl := Option.some.inj hm
        exact ret_i []
      · replace hm := cF hc16_1 hm
        refine AWP.if_ false (Eq.trans (by kernel_rfl) (lit_tf (b := y16_1) hc16_1)) ?_
        refine AWP.seq ?_
        refine AWP.text ?_
        refine Wy (.d (.lit (.bool (decide (((p0.Kind.toNat : Nat) : Int) = 3))))) [] (Ocs (by kernel_rfl) (op_bin rfl (a1 := .int .u8 ((p0.Kind.toNat : Nat) : Int)) (a2 := .int .u8 3) (by kernel_rfl) (by kernel_rfl) (fun _ => hb_eql))) ?_
        refine Wy (.d (.lit (.bool (decide (((p0.Kind.toNat : Nat) : Int) = 3))))) [] (Omv rfl) ?_
        refine Walk.nil ?_
        refine Then.normal ?_
        refine Amk 16809996 3 ⟨(tp 2 ((.loc 0 0) :: ((.loc 1 0) :: (tp 11 ((.d (byteD p0.Kind)) :: (tp 8 ((.d (.lit (.bool (decide (((p0.Kind.toNat : Nat) : Int) = 3))))) :: (tp 15 [])))))))), [(.box [(.d (byteD p0.Kind)), (.d (.lit (.int .i64 p0.N))), (.d (.lit (.int .u64 p0.Bits))), (.d (.lit (.string (toS p0.Text))))]), (.box [(.d (byteD p1.Kind)), (.d (.lit (.int .i64 p1.N))), (.d (.lit (.int .u64 p1.Bits))), (.d (.lit (.string (toS p1.Text))))])], 0⟩ ?_
        rcases tf_ (decide (((p0.Kind.toNat : Nat) : Int) = 3)) with hc24_6 | hc24_6
        · replace hm := cT hc24_6 hm
          refine AWP.if_ true (Eq.trans (by kernel_rfl) (lit_tf (b := decide (((p0.Kind.toNat : Nat) : Int) = 3)) hc24_6)) ?_
          refine AWP.seq ?_
          refine Adr ?_
          refine Wy (.loc 0 2) [] (Ofa rfl) ?_
          refine Wy (.d (.lit (.int .u64 p0.Bits))) [] (Old rfl) ?_
          obtain ⟨r28_3, hr28_3, hm⟩ := bnd hm
          refine Wy (.d (.lit (.int .u64 r28_3))) [] (Ocf [] [] [] 0 (ok_real_Rank p0.Bits r28_3 hr28_3) (fun a w => Try.call40 a w) rfl trivial) ?_
          refine Wy (.loc 1 2) [] (Ofa rfl) ?_
          refine Wy (.d (.lit (.int .u64 p1.Bits))) [] (Old rfl) ?_
          obtain ⟨r31_3, hr31_3, hm⟩ := bnd hm
          refine Wy (.d (.lit (.int .u64 r31_3))) [] (Ocf [] [] [] 0 (ok_real_Rank p1.Bits r31_3 hr31_3) (fun a w => Try.call40 a w) rfl trivial) ?_
          obtain ⟨r32_3, hr32_3, hm⟩ := bnd hm
          refine Wy (.d (.lit (.int .i64 r32_3))) [] (Ocf [] [] [] 0 (ok_cmp_Compare_uint64 r28_3 r31_3 r32_3 hr32_3) (fun a w => Try.call39 a w) rfl trivial) ?_
          refine Wy (.d (.lit (.int .i64 r32_3))) [] (Omv rfl) ?_
          refine Wdr ?_
          refine Then.normal ?_
          refine AWP.ret ?_
          refine InBlock.ret ?_
          refine Then.ret ?_
          obtain rfl := Option.some.inj hm
          exact ret_i []
        · replace hm := cF hc24_6 hm
          refine AWP.if_ false (Eq.trans (by kernel_rfl) (lit_tf (b := decide (((p0.Kind.toNat : Nat) : Int) = 3)) hc24_6)) ?_
          refine AWP.seq ?_
          refine AWP.text ?_
          refine Wy (.d (.lit (.bool (decide (((p0.Kind.toNat : Nat) : Int) = 4))))) [] (Ocs (by kernel_rfl) (op_bin rfl (a1 := .int .u8 ((p0.Kind.toNat : Nat) : Int)) (a2 := .int .u8 4) (by kernel_rfl) (by kernel_rfl) (fun _ => hb_eql))) ?_
          refine Wy (.d (.lit (.bool (decide (((p0.Kind.toNat : Nat) : Int) = 4))))) [] (Omv rfl) ?_
          refine Walk.nil ?_
          refine Then.normal ?_
          refine Amk 8589934604 3 ⟨(tp 2 ((.loc 0 0) :: ((.loc 1 0) :: (tp 29 ((.d (.lit (.bool (decide (((p0.Kind.toNat : Nat) : Int) = 4))))) :: (tp 6 [])))))), [(.box [(.d (byteD p0.Kind)), (.d (.lit (.int .i64 p0.N))), (.d (.lit (.int .u64 p0.Bits))), (.d (.lit (.string (toS p0.Text))))]), (.box [(.d (byteD p1.Kind)), (.d (.lit (.int .i64 p1.N))), (.d (.lit (.int .u64 p1.Bits))), (.d (.lit (.string (toS p1.Text))))])], 0⟩ ?_
          rcases tf_ (decide (((p0.Kind.toNat : Nat) : Int) = 4)) with hc33_7 | hc33_7
          · replace hm := cT hc33_7 hm
            refine AWP.if_ true (Eq.trans (by kernel_rfl) (lit_tf (b := decide (((p0.Kind.toNat : Nat) : Int) = 4)) hc33_7)) ?_
            refine AWP.seq ?_
            refine AWP.text ?_
            refine Wy (.loc 0 3) [] (Ofa rfl) ?_
            refine Wy (.d (.lit (.string (toS p0.Text)))) [] (Old rfl) ?_
            refine Wy (.loc 1 3) [] (Ofa rfl) ?_
            refine Wy (.d (.lit (.string (toS p1.Text)))) [] (Old rfl) ?_
            obtain ⟨r39_4, hr39_4, hm⟩ := bnd hm
            refine Wy (.d (.lit (.int .i64 r39_4))) [] (Ocf [] [] [] 0 (ok_cmp_Compare_string p0.Text p1.Text r39_4 hr39_4) (fun a w => Try.call41 a w) rfl trivial) ?_
            refine Wy (.d (.lit (.int .i64 r39_4))) [] (Omv rfl) ?_
            refine Walk.nil ?_
            refine Then.normal ?_
            refine AWP.ret ?_
            refine InBlock.ret ?_
            refine Then.ret ?_
            obtain rfl := Option.some.inj hm
            exact ret_i []
          · replace hm := cF hc33_7 hm
            refine AWP.if_ false (Eq.trans (by kernel_rfl) (lit_tf (b := decide (((p0.Kind.toNat : Nat) : Int) = 4)) hc33_7)) ?_
            refine AWP.skip ?_
            refine InBlock.normal ?_
            refine Then.normal ?_
            refine Amk 0 0 ⟨(tp 40 []), [.gone, .gone], 0⟩ ?_
            refine AWP.seq ?_
            refine AWP.text ?_
            refine Wy (.d (.lit (.int .i64 0))) [] (Omv rfl) ?_
            refine Walk.nil ?_
            refine Then.normal ?_
            refine AWP.ret ?_
            obtain rfl := Option.some.inj hm
            exact ret_i []
    refine AWP.seq ?_
    refine AWP.seq ?_
    refine AWP.text ?_
    refine Wy (.d (.lit (.bool (decide (((p0.Kind.toNat : Nat) : Int) = 1))))) [] (Ocs (by kernel_rfl) (op_bin rfl (a1 := .int .u8 ((p0.Kind.toNat : Nat) : Int)) (a2 := .int .u8 1) (by kernel_rfl) (by kernel_rfl) (fun _ => hb_eql))) ?_
    refine Wy (.d (.lit (.bool (decide (((p0.Kind.toNat : Nat) : Int) = 1))))) [] (Omv rfl) ?_
    refine Walk.nil ?_
    refine Then.normal ?_
    refine Amk 98316 3 ⟨(tp 2 ((.loc 0 0) :: ((.loc 1 0) :: (tp 11 ((.d (byteD p0.Kind)) :: ((.d (.lit (.bool (decide (((p0.Kind.toNat : Nat) : Int) = 1))))) :: (tp 23 []))))))), [(.box [(.d (byteD p0.Kind)), (.d (.lit (.int .i64 p0.N))), (.d (.lit (.int .u64 p0.Bits))), (.d (.lit (.string (toS p0.Text))))]), (.box [(.d (byteD p1.Kind)), (.d (.lit (.int .i64 p1.N))), (.d (.lit (.int .u64 p1.Bits))), (.d (.lit (.string (toS p1.Text))))])], 0⟩ ?_
    rcases tf_ (decide (((p0.Kind.toNat : Nat) : Int) = 1)) with hc16_8 | hc16_8
    · replace hm := cT hc16_8 hm
      refine AWP.if_ true (Eq.trans (by kernel_rfl) (lit_tf (b := decide (((p0.Kind.toNat : Nat) : Int) = 1)) hc16_8)) ?_
      refine AWP.skip ?_
      refine Then.normal ?_
      exact AWP.weak (Weak.toK 98316 0 0 [0, 1]) (J1 (decide (((p0.Kind.toNat : Nat) : Int) = 1)) hm)
    · replace hm := cF hc16_8 hm
      refine AWP.if_ false (Eq.trans (by kernel_rfl) (lit_tf (b := decide (((p0.Kind.toNat : Nat) : Int) = 1)) hc16_8)) ?_
      refine AWP.text ?_
      refine Wy (.d (.lit (.bool (decide (((p0.Kind.toNat : Nat) : Int) = 2))))) [] (Ocs (by kernel_rfl) (op_bin rfl (a1 := .int .u8 ((p0.Kind.toNat : Nat) : Int)) (a2 := .int .u8 2) (by kernel_rfl) (by kernel_rfl) (fun _ => hb_eql))) ?_
      refine Wy (.d (.lit (.bool (decide (((p0.Kind.toNat : Nat) : Int) = 2))))) [] (Omv rfl) ?_
      refine Walk.nil ?_
      refine Then.normal ?_
      exact AWP.weak (Weak.toK 98316 0 0 [0, 1]) (J1 (decide (((p0.Kind.toNat : Nat) : Int) = 2)) hm)

set_option maxRecDepth 20000 in
set_option maxHeartbeats 4000000 in
theorem ok_telltalelaw04_ValueBack (p0 : GValue) (p1 : GValue) (p2 : (List UInt8)) (r : Bool) (h : m_telltalelaw04_ValueBack p0 p1 p2 = some r) : GCall Try.prog 6 [(.agg [(.d (byteD p0.Kind)), (.d (.lit (.int .i64 p0.N))), (.d (.lit (.int .u64 p0.Bits))), (.d (.lit (.string (toS p0.Text))))]), (.agg [(.d (byteD p1.Kind)), (.d (.lit (.int .i64 p1.N))), (.d (.lit (.int .u64 p1.Bits))), (.d (.lit (.string (toS p1.Text))))]), (.d (.lit (.string (toS p2))))] [] (.d (.lit (.bool r))) [] := by
  refine GCall.of_body (n := 129) (rs := [(.tmp 6)]) Try.func6 rfl rfl rfl ?_
  refine Ato ⟨((.agg [(.d (byteD p0.Kind)), (.d (.lit (.int .i64 p0.N))), (.d (.lit (.int .u64 p0.Bits))), (.d (.lit (.string (toS p0.Text))))]) :: ((.agg [(.d (byteD p1.Kind)), (.d (.lit (.int .i64 p1.N))), (.d (.lit (.int .u64 p1.Bits))), (.d (.lit (.string (toS p1.Text))))]) :: ((.d (.lit (.string (toS p2)))) :: (tu 126 [])))), [], 0⟩ ?_
  have hm := h
  unfold m_telltalelaw04_ValueBack at hm
  refine AWP.seq ?_
  refine AWP.text ?_
  refine Wy (.loc 0 0) [(0, (.box [(.d (byteD p0.Kind)), (.d (.lit (.int .i64 p0.N))), (.d (.lit (.int .u64 p0.Bits))), (.d (.lit (.string (toS p0.Text))))]))] (Obx rfl) ?_
  refine Wy (.loc 1 0) [(1, (.box [(.d (byteD p1.Kind)), (.d (.lit (.int .i64 p1.N))), (.d (.lit (.int .u64 p1.Bits))), (.d (.lit (.string (toS p1.Text))))]))] (Obx rfl) ?_
  refine Wy (.d (.lit (.bool false))) [] (Omv rfl) ?_
  refine Walk.nil ?_
  refine Then.normal ?_
  refine Amk 28 3 ⟨(tp 2 ((.d (.lit (.string (toS p2)))) :: ((.loc 0 0) :: ((.loc 1 0) :: (tp 124 []))))), [(.box [(.d (byteD p0.Kind)), (.d (.lit (.int .i64 p0.N))), (.d (.lit (.int .u64 p0.Bits))), (.d (.lit (.string (toS p0.Text))))]), (.box [(.d (byteD p1.Kind)), (.d (.lit (.int .i64 p1.N))), (.d (.lit (.int .u64 p1.Bits))), (.d (.lit (.string (toS p1.Text))))])], 0⟩ ?_
  refine AWP.seq ?_
  refine AWP.cutJ (α := Unit) (fun x => match x with | () => (⟨(tp 2 ((.d (.lit (.string (toS p2)))) :: ((.loc 0 0) :: ((.loc 1 0) :: (tp 27 ((.d (.lit (.bool true))) :: (tp 96 []))))))), [(.box [(.d (byteD p0.Kind)), (.d (.lit (.int .i64 p0.N))), (.d (.lit (.int .u64 p0.Bits))), (.d (.lit (.string (toS p0.Text))))]), (.box [(.d (byteD p1.Kind)), (.d (.lit (.int .i64 p1.N))), (.d (.lit (.int .u64 p1.Bits))), (.d (.lit (.string (toS p1.Text))))])], 0⟩ : St)) (fun x => match x with | () => m_telltalelaw04_ValueBack_j1  = some r) ?_ (fun J1 => ?_)
  · rintro ⟨⟩ hm
    try dsimp only at hm ⊢
    unfold m_telltalelaw04_ValueBack_j1 at hm
    refine AWP.if_ true (by kernel_rfl) ?_
    refine AWP.seq ?_
    refine AWP.text ?_
    obtain ⟨r33_2, hr33_2, hm⟩ := bnd hm
    refine Wy (.d (.lit (.bool r33_2))) [] (Ocf [] [] [] 0 (ok_telltalelaw04_awake  r33_2 hr33_2) (fun a w => Try.call9 a w) rfl trivial) ?_
    refine Wy (.d (.lit (.bool r33_2))) [] (Omv rfl) ?_
    refine Walk.nil ?_
    refine Then.normal ?_
    refine AWP.ret ?_
    refine Then.ret ?_
    obtain rfl := Option.some.inj hm
    exact ret_i []
  refine AWP.seq ?_
  refine AWP.text ?_
  refine Wy (.agg [(.d (byteD p0.Kind)), (.d (.lit (.int .i64 p0.N))), (.d (.lit (.int .u64 p0.Bits))), (.d (.lit (.string (toS p0.Text))))]) [] (Old rfl) ?_
  obtain ⟨r21_0, hr21_0, hm⟩ := bnd hm
  refine Wy (.d (.lit (.int .i64 r21_0))) [] (Ocf [] [] [] 0 (ok_telltalelaw04_Small p0 r21_0 hr21_0) (fun a w => Try.call8 a w) rfl trivial) ?_
  refine Wy (.d (.lit (.bool (decide ((0 : Int) < r21_0))))) [] (Obn rfl (fun _ => hb_gtr (k := .i64))) ?_
  rcases tf_ (decide ((0 : Int) < r21_0)) with hq23_0 | hq23_0
  · replace hm := cT hq23_0 hm
    refine Wy (.d (.lit (.bool true))) [] (Ocs (lit_tf (b := decide ((0 : Int) < r21_0)) hq23_0) (Omv rfl)) ?_
    refine Wn ?_
    refine Wn ?_
    refine Wn ?_
    refine Wy (.d (.lit (.bool true))) [] (OpT rfl) ?_
    refine Wy (.d (.lit (.bool true))) [] (Omv rfl) ?_
    refine Wn ?_
    refine Wn ?_
    refine Wn ?_
    refine Wy (.d (.lit (.bool true))) [] (OpT rfl) ?_
    refine Walk.nil ?_
    refine Then.normal ?_
    exact AWP.weak (Weak.toK 4294967324 0 0 [0, 1]) (J1 () hm)
  · replace hm := cF hq23_0 hm
    refine Wy (.d (.lit (.bool false))) [] (Ocs (lit_tf (b := decide ((0 : Int) < r21_0)) hq23_0) (Omv rfl)) ?_
    refine Wy (.agg [(.d (byteD p1.Kind)), (.d (.lit (.int .i64 p1.N))), (.d (.lit (.int .u64 p1.Bits))), (.d (.lit (.string (toS p1.Text))))]) [] (Old rfl) ?_
    obtain ⟨r25_0, hr25_0, hm⟩ := bnd hm
    refine Wy (.d (.lit (.int .i64 r25_0))) [] (Ocf [] [] [] 0 (ok_telltalelaw04_Small p1 r25_0 hr25_0) (fun a w => Try.call8 a w) rfl trivial) ?_
    refine Wy (.d (.lit (.bool (decide ((0 : Int) < r25_0))))) [] (Obn rfl (fun _ => hb_gtr (k := .i64))) ?_
    refine Wy (.d (.lit (.bool (decide ((0 : Int) < r25_0))))) [] (OpF rfl) ?_
    rcases tf_ (decide ((0 : Int) < r25_0)) with hq28_0 | hq28_0
    · replace hm := cT hq28_0 hm
      refine Wy (.d (.lit (.bool true))) [] (Ocs (lit_tf (b := decide ((0 : Int) < r25_0)) hq28_0) (Omv rfl)) ?_
      refine Wn ?_
      refine Wn ?_
      refine Wn ?_
      refine Wy (.d (.lit (.bool true))) [] (OpT rfl) ?_
      refine Walk.nil ?_
      refine Then.normal ?_
      exact AWP.weak (Weak.toK 4294967324 0 0 [0, 1]) (J1 () hm)
    · replace hm := cF hq28_0 hm
      refine Wy (.d (.lit (.bool false))) [] (Ocs (lit_tf (b := decide ((0 : Int) < r25_0)) hq28_0) (Omv rfl)) ?_
      refine Wy (.d (.lit (.string (toS p2)))) [] (Omv rfl) ?_
      refine Wy (.d (.lit (.int .i64 ((List.length p2 : Nat) : Int)))) [] (Oln rfl) ?_
      refine Wy (.d (.lit (.bool (decide ((100 : Int) < ((List.length p2 : Nat) : Int)))))) [] (Obn rfl (fun _ => hb_gtr (k := .i64))) ?_
      refine Wy (.d (.lit (.bool (decide ((100 : Int) < ((List.length p2 : Nat) : Int)))))) [] (OpF rfl) ?_
      refine Walk.nil ?_
      refine Then.normal ?_
      refine Amk 4294967324 3 ⟨(tp 2 ((.d (.lit (.string (toS p2)))) :: ((.loc 0 0) :: ((.loc 1 0) :: (tp 27 ((.d (.lit (.bool (decide ((100 : Int) < ((List.length p2 : Nat) : Int)))))) :: (tp 96 []))))))), [(.box [(.d (byteD p0.Kind)), (.d (.lit (.int .i64 p0.N))), (.d (.lit (.int .u64 p0.Bits))), (.d (.lit (.string (toS p0.Text))))]), (.box [(.d (byteD p1.Kind)), (.d (.lit (.int .i64 p1.N))), (.d (.lit (.int .u64 p1.Bits))), (.d (.lit (.string (toS p1.Text))))])], 0⟩ ?_
      rcases tf_ (decide ((100 : Int) < ((List.length p2 : Nat) : Int))) with hc32_17 | hc32_17
      · replace hm := cT hc32_17 hm
        refine AWP.if_ true (Eq.trans (by kernel_rfl) (lit_tf (b := decide ((100 : Int) < ((List.length p2 : Nat) : Int))) hc32_17)) ?_
        refine AWP.seq ?_
        refine AWP.text ?_
        obtain ⟨r33_3, hr33_3, hm⟩ := bnd hm
        refine Wy (.d (.lit (.bool r33_3))) [] (Ocf [] [] [] 0 (ok_telltalelaw04_awake  r33_3 hr33_3) (fun a w => Try.call9 a w) rfl trivial) ?_
        refine Wy (.d (.lit (.bool r33_3))) [] (Omv rfl) ?_
        refine Walk.nil ?_
        refine Then.normal ?_
        refine AWP.ret ?_
        refine Then.ret ?_
        obtain rfl := Option.some.inj hm
        exact ret_i []
      · replace hm := cF hc32_17 hm
        refine AWP.if_ false (Eq.trans (by kernel_rfl) (lit_tf (b := decide ((100 : Int) < ((List.length p2 : Nat) : Int))) hc32_17)) ?_
        refine AWP.skip ?_
        refine Then.normal ?_
        refine Amk 28 3 ⟨(tp 2 ((.d (.lit (.string (toS p2)))) :: ((.loc 0 0) :: ((.loc 1 0) :: (tp 124 []))))), [(.box [(.d (byteD p0.Kind)), (.d (.lit (.int .i64 p0.N))), (.d (.lit (.int .u64 p0.Bits))), (.d (.lit (.string (toS p0.Text))))]), (.box [(.d (byteD p1.Kind)), (.d (.lit (.int .i64 p1.N))), (.d (.lit (.int .u64 p1.Bits))), (.d (.lit (.string (toS p1.Text))))])], 0⟩ ?_
        refine AWP.seq ?_
        refine AWP.text ?_
        refine Wy (.d (.lit (.string (toS p2)))) [] (Omv rfl) ?_
        obtain ⟨r36_4, hr36_4, hm⟩ := bnd hm
        refine Wy (.tup [(.agg [(.d (byteD r36_4.1.Kind)), (.d (.lit (.int .i64 r36_4.1.N))), (.d (.lit (.int .u64 r36_4.1.Bits))), (.d (.lit (.string (toS r36_4.1.Text))))]), (.d (.lit (.int .i64 r36_4.2.1))), (.d (.lit (.int .i64 r36_4.2.2)))]) [] (Ocf [] [] [] 0 (ok_value_Take p2 0 r36_4 hr36_4) (fun a w => Try.call16 a w) rfl trivial) ?_
        refine Wy (.tup [(.agg [(.d (byteD r36_4.1.Kind)), (.d (.lit (.int .i64 r36_4.1.N))), (.d (.lit (.int .u64 r36_4.1.Bits))), (.d (.lit (.string (toS r36_4.1.Text))))]), (.d (.lit (.int .i64 r36_4.2.1))), (.d (.lit (.int .i64 r36_4.2.2)))]) [] (Omv rfl) ?_
        refine Wy (.agg [(.d (byteD r36_4.1.Kind)), (.d (.lit (.int .i64 r36_4.1.N))), (.d (.lit (.int .u64 r36_4.1.Bits))), (.d (.lit (.string (toS r36_4.1.Text))))]) [] (Oex rfl) ?_
        refine Wy (.d (.lit (.int .i64 r36_4.2.1))) [] (Oex rfl) ?_
        refine Wy (.d (.lit (.int .i64 r36_4.2.2))) [] (Oex rfl) ?_
        refine Wy (.loc 2 0) [(2, (.box [(.d (byteD 0)), (.d (.lit (.int .i64 0))), (.d (.lit (.int .u64 0))), (.d (.lit (.string (toS ([] : List UInt8)))))]))] (Oal rfl) ?_
        refine Wy (.tup []) [(2, (.box [(.d (byteD r36_4.1.Kind)), (.d (.lit (.int .i64 r36_4.1.N))), (.d (.lit (.int .u64 r36_4.1.Bits))), (.d (.lit (.string (toS r36_4.1.Text))))]))] (Ost rfl) ?_
        refine Wy (.d (.lit (.int .i64 r36_4.2.1))) [] (Omv rfl) ?_
        refine Wy (.d (.lit (.int .i64 r36_4.2.2))) [] (Omv rfl) ?_
        refine Walk.nil ?_
        refine Then.normal ?_
        refine Amk 924 7 ⟨(tp 2 ((.d (.lit (.string (toS p2)))) :: ((.loc 0 0) :: ((.loc 1 0) :: (tp 2 ((.loc 2 0) :: ((.d (.lit (.int .i64 r36_4.2.1))) :: ((.d (.lit (.int .i64 r36_4.2.2))) :: (tp 119 []))))))))), [(.box [(.d (byteD p0.Kind)), (.d (.lit (.int .i64 p0.N))), (.d (.lit (.int .u64 p0.Bits))), (.d (.lit (.string (toS p0.Text))))]), (.box [(.d (byteD p1.Kind)), (.d (.lit (.int .i64 p1.N))), (.d (.lit (.int .u64 p1.Bits))), (.d (.lit (.string (toS p1.Text))))]), (.box [(.d (byteD r36_4.1.Kind)), (.d (.lit (.int .i64 r36_4.1.N))), (.d (.lit (.int .u64 r36_4.1.Bits))), (.d (.lit (.string (toS r36_4.1.Text))))])], 0⟩ ?_
        refine AWP.cutJ (α := Unit) (fun x => match x with | () => (⟨(tp 2 ((.d (.lit (.string (toS p2)))) :: ((.loc 0 0) :: ((.loc 1 0) :: (tp 124 []))))), [(.box [(.d (byteD p0.Kind)), (.d (.lit (.int .i64 p0.N))), (.d (.lit (.int .u64 p0.Bits))), (.d (.lit (.string (toS p0.Text))))]), (.box [(.d (byteD p1.Kind)), (.d (.lit (.int .i64 p1.N))), (.d (.lit (.int .u64 p1.Bits))), (.d (.lit (.string (toS p1.Text))))])], 0⟩ : St)) (fun x => match x with | () => m_telltalelaw04_ValueBack_j8 p0 p1 p2 = some r) ?_ (fun J8 => ?_)
        · rintro ⟨⟩ hm
          try dsimp only at hm ⊢
          unfold m_telltalelaw04_ValueBack_j8 at hm
          refine AWP.seq ?_
          refine AWP.text ?_
          refine Wy (.agg [(.d (byteD p0.Kind)), (.d (.lit (.int .i64 p0.N))), (.d (.lit (.int .u64 p0.Bits))), (.d (.lit (.string (toS p0.Text))))]) [] (Old rfl) ?_
          obtain ⟨r69_9, hr69_9, hm⟩ := bnd hm
          refine Wy (.tup [(.own 2), (.d (.lit (.int .i64 r69_9.2)))]) [(2, (.arr 5 1 (List.length r69_9.1) (flatD encU8 r69_9.1)))] (Ocf [] [2] [] 0 (ok_value_Put_m2 ([] : List UInt8) p0 r69_9 hr69_9) (fun a w => Try.call10 a w) rfl trivial) ?_
          refine Wy (.tup [(.own 2), (.d (.lit (.int .i64 r69_9.2)))]) [] (Omv rfl) ?_
          refine Wy (.own 2) [] (Oex rfl) ?_
          refine Wy (.d (.lit (.int .i64 r69_9.2))) [] (Oex rfl) ?_
          refine Wy (.own 2) [] (Omv rfl) ?_
          refine Wy (.d (.lit (.int .i64 r69_9.2))) [] (Omv rfl) ?_
          refine Walk.nil ?_
          refine Then.normal ?_
          refine Amk 12316 7 ⟨(tp 2 ((.d (.lit (.string (toS p2)))) :: ((.loc 0 0) :: ((.loc 1 0) :: (tp 7 ((.own 2) :: ((.d (.lit (.int .i64 r69_9.2))) :: (tp 115 [])))))))), [(.box [(.d (byteD p0.Kind)), (.d (.lit (.int .i64 p0.N))), (.d (.lit (.int .u64 p0.Bits))), (.d (.lit (.string (toS p0.Text))))]), (.box [(.d (byteD p1.Kind)), (.d (.lit (.int .i64 p1.N))), (.d (.lit (.int .u64 p1.Bits))), (.d (.lit (.string (toS p1.Text))))]), (.arr 5 1 (List.length r69_9.1) (flatD encU8 r69_9.1))], 0⟩ ?_
          refine AWP.seq ?_
          refine AWP.text ?_
          refine Wy (.agg [(.d (byteD p1.Kind)), (.d (.lit (.int .i64 p1.N))), (.d (.lit (.int .u64 p1.Bits))), (.d (.lit (.string (toS p1.Text))))]) [] (Old rfl) ?_
          obtain ⟨r74_10, hr74_10, hm⟩ := bnd hm
          refine Wy (.tup [(.own 3), (.d (.lit (.int .i64 r74_10.2)))]) [(3, (.arr 5 1 (List.length r74_10.1) (flatD encU8 r74_10.1)))] (Ocf [] [3] [] 0 (ok_value_Put_m2 ([] : List UInt8) p1 r74_10 hr74_10) (fun a w => Try.call10 a w) rfl trivial) ?_
          refine Wy (.tup [(.own 3), (.d (.lit (.int .i64 r74_10.2)))]) [] (Omv rfl) ?_
          refine Wy (.own 3) [] (Oex rfl) ?_
          refine Wy (.d (.lit (.int .i64 r74_10.2))) [] (Oex rfl) ?_
          refine Wy (.own 3) [] (Omv rfl) ?_
          refine Wy (.d (.lit (.int .i64 r74_10.2))) [] (Omv rfl) ?_
          refine Walk.nil ?_
          refine Then.normal ?_
          refine Amk 61468 15 ⟨(tp 2 ((.d (.lit (.string (toS p2)))) :: ((.loc 0 0) :: ((.loc 1 0) :: (tp 7 ((.own 2) :: ((.d (.lit (.int .i64 r69_9.2))) :: ((.own 3) :: ((.d (.lit (.int .i64 r74_10.2))) :: (tp 113 [])))))))))), [(.box [(.d (byteD p0.Kind)), (.d (.lit (.int .i64 p0.N))), (.d (.lit (.int .u64 p0.Bits))), (.d (.lit (.string (toS p0.Text))))]), (.box [(.d (byteD p1.Kind)), (.d (.lit (.int .i64 p1.N))), (.d (.lit (.int .u64 p1.Bits))), (.d (.lit (.string (toS p1.Text))))]), (.arr 5 1 (List.length r69_9.1) (flatD encU8 r69_9.1)), (.arr 5 1 (List.length r74_10.1) (flatD encU8 r74_10.1))], 0⟩ ?_
          refine AWP.seq ?_
          refine AWP.seq ?_
          refine AWP.text ?_
          refine Wy (.d (.lit (.int .i64 r69_9.2))) [] (Omv rfl) ?_
          refine Wy (.d (.lit (.bool (decide (r69_9.2 ≠ 0))))) [] (Obn rfl (fun _ => hb_neq (k := .i64))) ?_
          rcases tf_ (decide (r69_9.2 ≠ 0)) with hq79_11 | hq79_11
          · replace hm := cT hq79_11 hm
            refine Wy (.d (.lit (.bool true))) [] (Ocs (lit_tf (b := decide (r69_9.2 ≠ 0)) hq79_11) (Omv rfl)) ?_
            refine Wn ?_
            refine Wn ?_
            refine Wy (.d (.lit (.bool true))) [] (OpT rfl) ?_
            refine Walk.nil ?_
            refine Then.normal ?_
            refine Amk 4835703278458516698845212 15 ⟨(tp 2 ((.d (.lit (.string (toS p2)))) :: ((.loc 0 0) :: ((.loc 1 0) :: (tp 7 ((.own 2) :: (tp 1 ((.own 3) :: (tp 67 ((.d (.lit (.bool true))) :: (tp 46 []))))))))))), [(.box [(.d (byteD p0.Kind)), (.d (.lit (.int .i64 p0.N))), (.d (.lit (.int .u64 p0.Bits))), (.d (.lit (.string (toS p0.Text))))]), (.box [(.d (byteD p1.Kind)), (.d (.lit (.int .i64 p1.N))), (.d (.lit (.int .u64 p1.Bits))), (.d (.lit (.string (toS p1.Text))))]), (.arr 5 1 (List.length r69_9.1) (flatD encU8 r69_9.1)), (.arr 5 1 (List.length r74_10.1) (flatD encU8 r74_10.1))], 0⟩ ?_
            refine AWP.if_ true (by kernel_rfl) ?_
            refine AWP.seq ?_
            refine AWP.text ?_
            obtain ⟨r83_12, hr83_12, hm⟩ := bnd hm
            refine Wy (.d (.lit (.bool r83_12))) [] (Ocf [] [] [] 0 (ok_telltalelaw04_awake  r83_12 hr83_12) (fun a w => Try.call9 a w) rfl trivial) ?_
            refine Wy (.d (.lit (.bool r83_12))) [] (Omv rfl) ?_
            refine Walk.nil ?_
            refine Then.normal ?_
            refine AWP.ret ?_
            refine Then.ret ?_
            obtain rfl := Option.some.inj hm
            exact ret_i []
          · replace hm := cF hq79_11 hm
            refine Wy (.d (.lit (.bool false))) [] (Ocs (lit_tf (b := decide (r69_9.2 ≠ 0)) hq79_11) (Omv rfl)) ?_
            refine Wy (.d (.lit (.int .i64 r74_10.2))) [] (Omv rfl) ?_
            refine Wy (.d (.lit (.bool (decide (r74_10.2 ≠ 0))))) [] (Obn rfl (fun _ => hb_neq (k := .i64))) ?_
            refine Wy (.d (.lit (.bool (decide (r74_10.2 ≠ 0))))) [] (OpF rfl) ?_
            refine Walk.nil ?_
            refine Then.normal ?_
            refine Amk 4835703278458516698845212 15 ⟨(tp 2 ((.d (.lit (.string (toS p2)))) :: ((.loc 0 0) :: ((.loc 1 0) :: (tp 7 ((.own 2) :: (tp 1 ((.own 3) :: (tp 67 ((.d (.lit (.bool (decide (r74_10.2 ≠ 0))))) :: (tp 46 []))))))))))), [(.box [(.d (byteD p0.Kind)), (.d (.lit (.int .i64 p0.N))), (.d (.lit (.int .u64 p0.Bits))), (.d (.lit (.string (toS p0.Text))))]), (.box [(.d (byteD p1.Kind)), (.d (.lit (.int .i64 p1.N))), (.d (.lit (.int .u64 p1.Bits))), (.d (.lit (.string (toS p1.Text))))]), (.arr 5 1 (List.length r69_9.1) (flatD encU8 r69_9.1)), (.arr 5 1 (List.length r74_10.1) (flatD encU8 r74_10.1))], 0⟩ ?_
            rcases tf_ (decide (r74_10.2 ≠ 0)) with hc82_18 | hc82_18
            · replace hm := cT hc82_18 hm
              refine AWP.if_ true (Eq.trans (by kernel_rfl) (lit_tf (b := decide (r74_10.2 ≠ 0)) hc82_18)) ?_
              refine AWP.seq ?_
              refine AWP.text ?_
              obtain ⟨r83_13, hr83_13, hm⟩ := bnd hm
              refine Wy (.d (.lit (.bool r83_13))) [] (Ocf [] [] [] 0 (ok_telltalelaw04_awake  r83_13 hr83_13) (fun a w => Try.call9 a w) rfl trivial) ?_
              refine Wy (.d (.lit (.bool r83_13))) [] (Omv rfl) ?_
              refine Walk.nil ?_
              refine Then.normal ?_
              refine AWP.ret ?_
              refine Then.ret ?_
              obtain rfl := Option.some.inj hm
              exact ret_i []
            · replace hm := cF hc82_18 hm
              refine AWP.if_ false (Eq.trans (by kernel_rfl) (lit_tf (b := decide (r74_10.2 ≠ 0)) hc82_18)) ?_
              refine AWP.skip ?_
              refine Then.normal ?_
              refine Amk 20508 15 ⟨(tp 2 ((.d (.lit (.string (toS p2)))) :: ((.loc 0 0) :: ((.loc 1 0) :: (tp 7 ((.own 2) :: (tp 1 ((.own 3) :: (tp 114 []))))))))), [(.box [(.d (byteD p0.Kind)), (.d (.lit (.int .i64 p0.N))), (.d (.lit (.int .u64 p0.Bits))), (.d (.lit (.string (toS p0.Text))))]), (.box [(.d (byteD p1.Kind)), (.d (.lit (.int .i64 p1.N))), (.d (.lit (.int .u64 p1.Bits))), (.d (.lit (.string (toS p1.Text))))]), (.arr 5 1 (List.length r69_9.1) (flatD encU8 r69_9.1)), (.arr 5 1 (List.length r74_10.1) (flatD encU8 r74_10.1))], 0⟩ ?_
              refine AWP.seq ?_
              refine AWP.text ?_
              refine Wy (.own 2) [] (Omv rfl) ?_
              refine Wy (.d (.lit (.string (toS r69_9.1)))) [] (Ocs (by kernel_rfl) (op_str rfl (e := 5) (by kernel_rfl) (by kernel_rfl) (by kernel_rfl) (y := (.own 2)) (by kernel_rfl) (ds := flatD encU8 r69_9.1) (off := 0) (n := List.length r69_9.1) (by kernel_rfl) (l := r69_9.1) flatU8_take rfl)) ?_
              refine Wy (.d (.lit (.string (toS p2)))) [] (Omv rfl) ?_
              obtain ⟨t88_14, ht88_14, hm⟩ := bnd hm; obtain ⟨ht88_14e, ht88_14l⟩ := app_some ht88_14
              refine Wy (.d (.lit (.string (toS t88_14)))) [] (op_bin rfl (a1 := .string (toS r69_9.1)) (a2 := .string (toS p2)) (by kernel_rfl) (by kernel_rfl) (fun _ => hb_sadd ht88_14e ht88_14l)) ?_
              obtain ⟨r89_14, hr89_14, hm⟩ := bnd hm
              refine Wy (.tup [(.agg [(.d (byteD r89_14.1.Kind)), (.d (.lit (.int .i64 r89_14.1.N))), (.d (.lit (.int .u64 r89_14.1.Bits))), (.d (.lit (.string (toS r89_14.1.Text))))]), (.d (.lit (.int .i64 r89_14.2.1))), (.d (.lit (.int .i64 r89_14.2.2)))]) [] (Ocf [] [] [] 0 (ok_value_Take t88_14 0 r89_14 hr89_14) (fun a w => Try.call16 a w) rfl trivial) ?_
              refine Wy (.tup [(.agg [(.d (byteD r89_14.1.Kind)), (.d (.lit (.int .i64 r89_14.1.N))), (.d (.lit (.int .u64 r89_14.1.Bits))), (.d (.lit (.string (toS r89_14.1.Text))))]), (.d (.lit (.int .i64 r89_14.2.1))), (.d (.lit (.int .i64 r89_14.2.2)))]) [] (Omv rfl) ?_
              refine Wy (.agg [(.d (byteD r89_14.1.Kind)), (.d (.lit (.int .i64 r89_14.1.N))), (.d (.lit (.int .u64 r89_14.1.Bits))), (.d (.lit (.string (toS r89_14.1.Text))))]) [] (Oex rfl) ?_
              refine Wy (.d (.lit (.int .i64 r89_14.2.1))) [] (Oex rfl) ?_
              refine Wy (.d (.lit (.int .i64 r89_14.2.2))) [] (Oex rfl) ?_
              refine Wy (.loc 4 0) [(4, (.box [(.d (byteD 0)), (.d (.lit (.int .i64 0))), (.d (.lit (.int .u64 0))), (.d (.lit (.string (toS ([] : List UInt8)))))]))] (Oal rfl) ?_
              refine Wy (.tup []) [(4, (.box [(.d (byteD r89_14.1.Kind)), (.d (.lit (.int .i64 r89_14.1.N))), (.d (.lit (.int .u64 r89_14.1.Bits))), (.d (.lit (.string (toS r89_14.1.Text))))]))] (Ost rfl) ?_
              refine Wy (.d (.lit (.int .i64 r89_14.2.1))) [] (Omv rfl) ?_
              refine Wy (.d (.lit (.int .i64 r89_14.2.2))) [] (Omv rfl) ?_
              refine Walk.nil ?_
              refine Then.normal ?_
              refine Amk 479256 31 ⟨(tp 3 ((.loc 0 0) :: ((.loc 1 0) :: (tp 7 ((.own 2) :: (tp 1 ((.own 3) :: (tp 1 ((.loc 4 0) :: ((.d (.lit (.int .i64 r89_14.2.1))) :: ((.d (.lit (.int .i64 r89_14.2.2))) :: (tp 110 [])))))))))))), [(.box [(.d (byteD p0.Kind)), (.d (.lit (.int .i64 p0.N))), (.d (.lit (.int .u64 p0.Bits))), (.d (.lit (.string (toS p0.Text))))]), (.box [(.d (byteD p1.Kind)), (.d (.lit (.int .i64 p1.N))), (.d (.lit (.int .u64 p1.Bits))), (.d (.lit (.string (toS p1.Text))))]), (.arr 5 1 (List.length r69_9.1) (flatD encU8 r69_9.1)), (.arr 5 1 (List.length r74_10.1) (flatD encU8 r74_10.1)), (.box [(.d (byteD r89_14.1.Kind)), (.d (.lit (.int .i64 r89_14.1.N))), (.d (.lit (.int .u64 r89_14.1.Bits))), (.d (.lit (.string (toS r89_14.1.Text))))])], 0⟩ ?_
              refine AWP.seq ?_
              refine AWP.text ?_
              refine Wy (.agg [(.d (byteD p0.Kind)), (.d (.lit (.int .i64 p0.N))), (.d (.lit (.int .u64 p0.Bits))), (.d (.lit (.string (toS p0.Text))))]) [] (Old rfl) ?_
              refine Wy (.agg [(.d (byteD p1.Kind)), (.d (.lit (.int .i64 p1.N))), (.d (.lit (.int .u64 p1.Bits))), (.d (.lit (.string (toS p1.Text))))]) [] (Old rfl) ?_
              obtain ⟨v95_15, hv95_15, hm⟩ := bnd hm; replace hv95_15 := Option.some.inj hv95_15
              refine Wy (.d (.lit (.bool v95_15))) [] (Ocs (Eq.trans (lit_tf (by simp only [toS_inj])) (congrArg (fun z => A.d (.lit (.bool z))) hv95_15)) (op_eql_struct rfl (la := [(.d (byteD p0.Kind)), (.d (.lit (.int .i64 p0.N))), (.d (.lit (.int .u64 p0.Bits))), (.d (.lit (.string (toS p0.Text))))]) (lb := [(.d (byteD p1.Kind)), (.d (.lit (.int .i64 p1.N))), (.d (.lit (.int .u64 p1.Bits))), (.d (.lit (.string (toS p1.Text))))]) (us := [.int .u8 ((p0.Kind.toNat : Nat) : Int), .int .i64 p0.N, .int .u64 p0.Bits, .string (toS p0.Text)]) (vs := [.int .u8 ((p1.Kind.toNat : Nat) : Int), .int .i64 p1.N, .int .u64 p1.Bits, .string (toS p1.Text)]) (r := (decide (((p0.Kind.toNat : Nat) : Int) = ((p1.Kind.toNat : Nat) : Int)) && (decide (p0.N = p1.N) && (decide (p0.Bits = p1.Bits) && (decide ((toS p0.Text) = (toS p1.Text)) && true))))) (by kernel_rfl) (by kernel_rfl) (by kernel_rfl) (by kernel_rfl) (by kernel_rfl))) ?_
              refine Wy (.d (.lit (.bool v95_15))) [] (Omv rfl) ?_
              refine Walk.nil ?_
              refine Then.normal ?_
              refine Amk 1003544 31 ⟨(tp 3 ((.loc 0 0) :: ((.loc 1 0) :: (tp 7 ((.own 2) :: (tp 1 ((.own 3) :: (tp 1 ((.loc 4 0) :: ((.d (.lit (.int .i64 r89_14.2.1))) :: ((.d (.lit (.int .i64 r89_14.2.2))) :: ((.d (.lit (.bool v95_15))) :: (tp 109 []))))))))))))), [(.box [(.d (byteD p0.Kind)), (.d (.lit (.int .i64 p0.N))), (.d (.lit (.int .u64 p0.Bits))), (.d (.lit (.string (toS p0.Text))))]), (.box [(.d (byteD p1.Kind)), (.d (.lit (.int .i64 p1.N))), (.d (.lit (.int .u64 p1.Bits))), (.d (.lit (.string (toS p1.Text))))]), (.arr 5 1 (List.length r69_9.1) (flatD encU8 r69_9.1)), (.arr 5 1 (List.length r74_10.1) (flatD encU8 r74_10.1)), (.box [(.d (byteD r89_14.1.Kind)), (.d (.lit (.int .i64 r89_14.1.N))), (.d (.lit (.int .u64 r89_14.1.Bits))), (.d (.lit (.string (toS r89_14.1.Text))))])], 0⟩ ?_
              refine AWP.seq ?_
              refine AWP.text ?_
              refine Wy (.d (.lit (.int .i64 r89_14.2.2))) [] (Omv rfl) ?_
              refine Wy (.d (.lit (.bool (decide (r89_14.2.2 = 0))))) [] (Obn rfl (fun _ => hb_eql (k := .i64))) ?_
              rcases tf_ (decide (r89_14.2.2 = 0)) with hq98_16 | hq98_16
              · replace hm := cT hq98_16 hm
                refine Wy (.d (.lit (.bool true))) [] (Ocs (lit_tf (b := decide (r89_14.2.2 = 0)) hq98_16) (Omv rfl)) ?_
                refine Wy (.agg [(.d (byteD r89_14.1.Kind)), (.d (.lit (.int .i64 r89_14.1.N))), (.d (.lit (.int .u64 r89_14.1.Bits))), (.d (.lit (.string (toS r89_14.1.Text))))]) [] (Old rfl) ?_
                refine Wy (.agg [(.d (byteD p0.Kind)), (.d (.lit (.int .i64 p0.N))), (.d (.lit (.int .u64 p0.Bits))), (.d (.lit (.string (toS p0.Text))))]) [] (Old rfl) ?_
                obtain ⟨v101_16, hv101_16, hm⟩ := bnd hm; replace hv101_16 := Option.some.inj hv101_16
                refine Wy (.d (.lit (.bool v101_16))) [] (Ocs (Eq.trans (lit_tf (by simp only [toS_inj])) (congrArg (fun z => A.d (.lit (.bool z))) hv101_16)) (op_eql_struct rfl (la := [(.d (byteD r89_14.1.Kind)), (.d (.lit (.int .i64 r89_14.1.N))), (.d (.lit (.int .u64 r89_14.1.Bits))), (.d (.lit (.string (toS r89_14.1.Text))))]) (lb := [(.d (byteD p0.Kind)), (.d (.lit (.int .i64 p0.N))), (.d (.lit (.int .u64 p0.Bits))), (.d (.lit (.string (toS p0.Text))))]) (us := [.int .u8 ((r89_14.1.Kind.toNat : Nat) : Int), .int .i64 r89_14.1.N, .int .u64 r89_14.1.Bits, .string (toS r89_14.1.Text)]) (vs := [.int .u8 ((p0.Kind.toNat : Nat) : Int), .int .i64 p0.N, .int .u64 p0.Bits, .string (toS p0.Text)]) (r := (decide (((r89_14.1.Kind.toNat : Nat) : Int) = ((p0.Kind.toNat : Nat) : Int)) && (decide (r89_14.1.N = p0.N) && (decide (r89_14.1.Bits = p0.Bits) && (decide ((toS r89_14.1.Text) = (toS p0.Text)) && true))))) (by kernel_rfl) (by kernel_rfl) (by kernel_rfl) (by kernel_rfl) (by kernel_rfl))) ?_
                refine Wy (.d (.lit (.bool v101_16))) [] (OpT rfl) ?_
                rcases tf_ v101_16 with hq103_16 | hq103_16
                · replace hm := cT hq103_16 hm
                  refine Wy (.d (.lit (.bool true))) [] (Ocs (lit_tf (b := v101_16) hq103_16) (Omv rfl)) ?_
                  refine Wy (.d (.lit (.int .i64 r89_14.2.1))) [] (Omv rfl) ?_
                  refine Wy (.own 2) [] (Omv rfl) ?_
                  refine Wy (.d (.lit (.int .i64 ((List.length r69_9.1 : Nat) : Int)))) [] (Oln rfl) ?_
                  refine Wy (.d (.lit (.bool (decide (r89_14.2.1 = ((List.length r69_9.1 : Nat) : Int)))))) [] (Obn rfl (fun _ => hb_eql (k := .i64))) ?_
                  refine Wy (.d (.lit (.bool (decide (r89_14.2.1 = ((List.length r69_9.1 : Nat) : Int)))))) [] (OpT rfl) ?_
                  rcases tf_ (decide (r89_14.2.1 = ((List.length r69_9.1 : Nat) : Int))) with hq109_16 | hq109_16
                  · replace hm := cT hq109_16 hm
                    refine Wy (.d (.lit (.bool true))) [] (Ocs (lit_tf (b := decide (r89_14.2.1 = ((List.length r69_9.1 : Nat) : Int))) hq109_16) (Omv rfl)) ?_
                    refine Wy (.own 2) [] (Omv rfl) ?_
                    refine Wy (.d (.lit (.string (toS r69_9.1)))) [] (Ocs (by kernel_rfl) (op_str rfl (e := 5) (by kernel_rfl) (by kernel_rfl) (by kernel_rfl) (y := (.own 2)) (by kernel_rfl) (ds := flatD encU8 r69_9.1) (off := 0) (n := List.length r69_9.1) (by kernel_rfl) (l := r69_9.1) flatU8_take rfl)) ?_
                    refine Wy (.own 3) [] (Omv rfl) ?_
                    refine Wy (.d (.lit (.string (toS r74_10.1)))) [] (Ocs (by kernel_rfl) (op_str rfl (e := 5) (by kernel_rfl) (by kernel_rfl) (by kernel_rfl) (y := (.own 3)) (by kernel_rfl) (ds := flatD encU8 r74_10.1) (off := 0) (n := List.length r74_10.1) (by kernel_rfl) (l := r74_10.1) flatU8_take rfl)) ?_
                    refine Wy (.d (.lit (.bool (decide (r69_9.1 = r74_10.1))))) [] (Ocs (lit_tf (by simp only [toS_inj, ne_eq])) (op_bin rfl (a1 := .string (toS r69_9.1)) (a2 := .string (toS r74_10.1)) (by kernel_rfl) (by kernel_rfl) (fun _ => hb_seql))) ?_
                    refine Wy (.d (.lit (.bool v95_15))) [] (Omv rfl) ?_
                    refine Wy (.d (.lit (.bool (decide (decide (r69_9.1 = r74_10.1) = v95_15))))) [] (Ocs (by kernel_rfl) (op_bin rfl (a1 := .bool (decide (r69_9.1 = r74_10.1))) (a2 := .bool v95_15) (by kernel_rfl) (by kernel_rfl) (fun _ => hb_beql (by kernel_rfl)))) ?_
                    refine Wy (.d (.lit (.bool (decide (decide (r69_9.1 = r74_10.1) = v95_15))))) [] (OpT rfl) ?_
                    rcases tf_ (decide (decide (r69_9.1 = r74_10.1) = v95_15)) with hq118_16 | hq118_16
                    · replace hm := cT hq118_16 hm
                      refine Wy (.d (.lit (.bool true))) [] (Ocs (lit_tf (b := decide (decide (r69_9.1 = r74_10.1) = v95_15)) hq118_16) (Omv rfl)) ?_
                      refine Wy (.agg [(.d (byteD p0.Kind)), (.d (.lit (.int .i64 p0.N))), (.d (.lit (.int .u64 p0.Bits))), (.d (.lit (.string (toS p0.Text))))]) [] (Old rfl) ?_
                      refine Wy (.agg [(.d (byteD p1.Kind)), (.d (.lit (.int .i64 p1.N))), (.d (.lit (.int .u64 p1.Bits))), (.d (.lit (.string (toS p1.Text))))]) [] (Old rfl) ?_
                      obtain ⟨r121_16, hr121_16, hm⟩ := bnd hm
                      refine Wy (.d (.lit (.int .i64 r121_16))) [] (Ocf [] [] [] 0 (ok_value_Rank_m2 p0 p1 r121_16 hr121_16) (fun a w => Try.call14 a w) rfl trivial) ?_
                      refine Wy (.d (.lit (.bool (decide (r121_16 = 0))))) [] (Obn rfl (fun _ => hb_eql (k := .i64))) ?_
                      refine Wy (.d (.lit (.bool v95_15))) [] (Omv rfl) ?_
                      refine Wy (.d (.lit (.bool (decide (decide (r121_16 = 0) = v95_15))))) [] (Ocs (by kernel_rfl) (op_bin rfl (a1 := .bool (decide (r121_16 = 0))) (a2 := .bool v95_15) (by kernel_rfl) (by kernel_rfl) (fun _ => hb_beql (by kernel_rfl)))) ?_
                      refine Wy (.d (.lit (.bool (decide (decide (r121_16 = 0) = v95_15))))) [] (OpT rfl) ?_
                      rcases tf_ (decide (decide (r121_16 = 0) = v95_15)) with hq126_16 | hq126_16
                      · replace hm := cT hq126_16 hm
                        refine Wy (.d (.lit (.bool true))) [] (Ocs (lit_tf (b := decide (decide (r121_16 = 0) = v95_15)) hq126_16) (Omv rfl)) ?_
                        obtain ⟨r127_16, hr127_16, hm⟩ := bnd hm
                        refine Wy (.d (.lit (.bool r127_16))) [] (Ocf [] [] [] 0 (ok_telltalelaw04_awake  r127_16 hr127_16) (fun a w => Try.call9 a w) rfl trivial) ?_
                        refine Wy (.d (.lit (.bool r127_16))) [] (OpT rfl) ?_
                        refine Wy (.d (.lit (.bool r127_16))) [] (Omv rfl) ?_
                        refine Walk.nil ?_
                        refine Then.normal ?_
                        refine AWP.ret ?_
                        obtain rfl := Option.some.inj hm
                        exact ret_i []
                      · replace hm := cF hq126_16 hm
                        refine Wy (.d (.lit (.bool false))) [] (Ocs (lit_tf (b := decide (decide (r121_16 = 0) = v95_15)) hq126_16) (Omv rfl)) ?_
                        refine Wn ?_
                        refine Wy (.d (.lit (.bool false))) [] (OpF rfl) ?_
                        refine Wy (.d (.lit (.bool false))) [] (Omv rfl) ?_
                        refine Walk.nil ?_
                        refine Then.normal ?_
                        refine AWP.ret ?_
                        obtain rfl := Option.some.inj hm
                        exact ret_i []
                    · replace hm := cF hq118_16 hm
                      refine Wy (.d (.lit (.bool false))) [] (Ocs (lit_tf (b := decide (decide (r69_9.1 = r74_10.1) = v95_15)) hq118_16) (Omv rfl)) ?_
                      refine Wn ?_
                      refine Wn ?_
                      refine Wn ?_
                      refine Wn ?_
                      refine Wn ?_
                      refine Wn ?_
                      refine Wy (.d (.lit (.bool false))) [] (OpF rfl) ?_
                      refine Wy (.d (.lit (.bool false))) [] (Omv rfl) ?_
                      refine Wn ?_
                      refine Wy (.d (.lit (.bool false))) [] (OpF rfl) ?_
                      refine Wy (.d (.lit (.bool false))) [] (Omv rfl) ?_
                      refine Walk.nil ?_
                      refine Then.normal ?_
                      refine AWP.ret ?_
                      obtain rfl := Option.some.inj hm
                      exact ret_i []
                  · replace hm := cF hq109_16 hm
                    refine Wy (.d (.lit (.bool false))) [] (Ocs (lit_tf (b := decide (r89_14.2.1 = ((List.length r69_9.1 : Nat) : Int))) hq109_16) (Omv rfl)) ?_
                    refine Wn ?_
                    refine Wn ?_
                    refine Wn ?_
                    refine Wn ?_
                    refine Wn ?_
                    refine Wn ?_
                    refine Wn ?_
                    refine Wy (.d (.lit (.bool false))) [] (OpF rfl) ?_
                    refine Wy (.d (.lit (.bool false))) [] (Omv rfl) ?_
                    refine Wn ?_
                    refine Wn ?_
                    refine Wn ?_
                    refine Wn ?_
                    refine Wn ?_
                    refine Wn ?_
                    refine Wy (.d (.lit (.bool false))) [] (OpF rfl) ?_
                    refine Wy (.d (.lit (.bool false))) [] (Omv rfl) ?_
                    refine Wn ?_
                    refine Wy (.d (.lit (.bool false))) [] (OpF rfl) ?_
                    refine Wy (.d (.lit (.bool false))) [] (Omv rfl) ?_
                    refine Walk.nil ?_
                    refine Then.normal ?_
                    refine AWP.ret ?_
                    obtain rfl := Option.some.inj hm
                    exact ret_i []
                · replace hm := cF hq103_16 hm
                  refine Wy (.d (.lit (.bool false))) [] (Ocs (lit_tf (b := v101_16) hq103_16) (Omv rfl)) ?_
                  refine Wn ?_
                  refine Wn ?_
                  refine Wn ?_
                  refine Wn ?_
                  refine Wy (.d (.lit (.bool false))) [] (OpF rfl) ?_
                  refine Wy (.d (.lit (.bool false))) [] (Omv rfl) ?_
                  refine Wn ?_
                  refine Wn ?_
                  refine Wn ?_
                  refine Wn ?_
                  refine Wn ?_
                  refine Wn ?_
                  refine Wn ?_
                  refine Wy (.d (.lit (.bool false))) [] (OpF rfl) ?_
                  refine Wy (.d (.lit (.bool false))) [] (Omv rfl) ?_
                  refine Wn ?_
                  refine Wn ?_
                  refine Wn ?_
                  refine Wn ?_
                  refine Wn ?_
                  refine Wn ?_
                  refine Wy (.d (.lit (.bool false))) [] (OpF rfl) ?_
                  refine Wy (.d (.lit (.bool false))) [] (Omv rfl) ?_
                  refine Wn ?_
                  refine Wy (.d (.lit (.bool false))) [] (OpF rfl) ?_
                  refine Wy (.d (.lit (.bool false))) [] (Omv rfl) ?_
                  refine Walk.nil ?_
                  refine Then.normal ?_
                  refine AWP.ret ?_
                  obtain rfl := Option.some.inj hm
                  exact ret_i []
              · replace hm := cF hq98_16 hm
                refine Wy (.d (.lit (.bool false))) [] (Ocs (lit_tf (b := decide (r89_14.2.2 = 0)) hq98_16) (Omv rfl)) ?_
                refine Wn ?_
                refine Wn ?_
                refine Wn ?_
                refine Wy (.d (.lit (.bool false))) [] (OpF rfl) ?_
                refine Wy (.d (.lit (.bool false))) [] (Omv rfl) ?_
                refine Wn ?_
                refine Wn ?_
                refine Wn ?_
                refine Wn ?_
                refine Wy (.d (.lit (.bool false))) [] (OpF rfl) ?_
                refine Wy (.d (.lit (.bool false))) [] (Omv rfl) ?_
                refine Wn ?_
                refine Wn ?_
                refine Wn ?_
                refine Wn ?_
                refine Wn ?_
                refine Wn ?_
                refine Wn ?_
                refine Wy (.d (.lit (.bool false))) [] (OpF rfl) ?_
                refine Wy (.d (.lit (.bool false))) [] (Omv rfl) ?_
                refine Wn ?_
                refine Wn ?_
                refine Wn ?_
                refine Wn ?_
                refine Wn ?_
                refine Wn ?_
                refine Wy (.d (.lit (.bool false))) [] (OpF rfl) ?_
                refine Wy (.d (.lit (.bool false))) [] (Omv rfl) ?_
                refine Wn ?_
                refine Wy (.d (.lit (.bool false))) [] (OpF rfl) ?_
                refine Wy (.d (.lit (.bool false))) [] (Omv rfl) ?_
                refine Walk.nil ?_
                refine Then.normal ?_
                refine AWP.ret ?_
                obtain rfl := Option.some.inj hm
                exact ret_i []
        refine AWP.seq ?_
        refine AWP.seq ?_
        refine AWP.text ?_
        refine Wy (.d (.lit (.int .i64 r36_4.2.2))) [] (Omv rfl) ?_
        refine Wy (.d (.lit (.bool (decide (r36_4.2.2 = 0))))) [] (Obn rfl (fun _ => hb_eql (k := .i64))) ?_
        refine Walk.nil ?_
        refine Then.normal ?_
        refine Amk 2199023255964 7 ⟨(tp 2 ((.d (.lit (.string (toS p2)))) :: ((.loc 0 0) :: ((.loc 1 0) :: (tp 2 ((.loc 2 0) :: ((.d (.lit (.int .i64 r36_4.2.1))) :: (tp 32 ((.d (.lit (.bool (decide (r36_4.2.2 = 0))))) :: (tp 87 [])))))))))), [(.box [(.d (byteD p0.Kind)), (.d (.lit (.int .i64 p0.N))), (.d (.lit (.int .u64 p0.Bits))), (.d (.lit (.string (toS p0.Text))))]), (.box [(.d (byteD p1.Kind)), (.d (.lit (.int .i64 p1.N))), (.d (.lit (.int .u64 p1.Bits))), (.d (.lit (.string (toS p1.Text))))]), (.box [(.d (byteD r36_4.1.Kind)), (.d (.lit (.int .i64 r36_4.1.N))), (.d (.lit (.int .u64 r36_4.1.Bits))), (.d (.lit (.string (toS r36_4.1.Text))))])], 0⟩ ?_
        rcases tf_ (decide (r36_4.2.2 = 0)) with hc41_19 | hc41_19
        · replace hm := cT hc41_19 hm
          refine AWP.if_ true (Eq.trans (by kernel_rfl) (lit_tf (b := decide (r36_4.2.2 = 0)) hc41_19)) ?_
          refine AWP.seq ?_
          refine AWP.text ?_
          refine Wy (.agg [(.d (byteD r36_4.1.Kind)), (.d (.lit (.int .i64 r36_4.1.N))), (.d (.lit (.int .u64 r36_4.1.Bits))), (.d (.lit (.string (toS r36_4.1.Text))))]) [] (Old rfl) ?_
          obtain ⟨r44_5, hr44_5, hm⟩ := bnd hm
          refine Wy (.tup [(.own 3), (.d (.lit (.int .i64 r44_5.2)))]) [(3, (.arr 5 1 (List.length r44_5.1) (flatD encU8 r44_5.1)))] (Ocf [] [3] [] 0 (ok_value_Put ([] : List UInt8) r36_4.1 r44_5 hr44_5) (fun a w => Try.call10 a w) rfl trivial) ?_
          refine Wy (.tup [(.own 3), (.d (.lit (.int .i64 r44_5.2)))]) [] (Omv rfl) ?_
          refine Wy (.own 3) [] (Oex rfl) ?_
          refine Wy (.d (.lit (.int .i64 r44_5.2))) [] (Oex rfl) ?_
          refine Wy (.own 3) [] (Omv rfl) ?_
          refine Wy (.d (.lit (.int .i64 r44_5.2))) [] (Omv rfl) ?_
          refine Walk.nil ?_
          refine Then.normal ?_
          refine Amk 3356 11 ⟨(tp 2 ((.d (.lit (.string (toS p2)))) :: ((.loc 0 0) :: ((.loc 1 0) :: (tp 3 ((.d (.lit (.int .i64 r36_4.2.1))) :: (tp 1 ((.own 3) :: ((.d (.lit (.int .i64 r44_5.2))) :: (tp 117 [])))))))))), [(.box [(.d (byteD p0.Kind)), (.d (.lit (.int .i64 p0.N))), (.d (.lit (.int .u64 p0.Bits))), (.d (.lit (.string (toS p0.Text))))]), (.box [(.d (byteD p1.Kind)), (.d (.lit (.int .i64 p1.N))), (.d (.lit (.int .u64 p1.Bits))), (.d (.lit (.string (toS p1.Text))))]), .gone, (.arr 5 1 (List.length r44_5.1) (flatD encU8 r44_5.1))], 0⟩ ?_
          refine AWP.cutJ (α := Unit) (fun x => match x with | () => (⟨(tp 2 ((.d (.lit (.string (toS p2)))) :: ((.loc 0 0) :: ((.loc 1 0) :: (tp 61 ((.d (.lit (.bool true))) :: (tp 62 []))))))), [(.box [(.d (byteD p0.Kind)), (.d (.lit (.int .i64 p0.N))), (.d (.lit (.int .u64 p0.Bits))), (.d (.lit (.string (toS p0.Text))))]), (.box [(.d (byteD p1.Kind)), (.d (.lit (.int .i64 p1.N))), (.d (.lit (.int .u64 p1.Bits))), (.d (.lit (.string (toS p1.Text))))])], 0⟩ : St)) (fun x => match x with | () => m_telltalelaw04_ValueBack_j7  = some r) ?_ (fun J7 => ?_)
          · rintro ⟨⟩ hm
            try dsimp only at hm ⊢
            unfold m_telltalelaw04_ValueBack_j7 at hm
            refine AWP.if_ true (by kernel_rfl) ?_
            refine AWP.seq ?_
            refine AWP.text ?_
            refine Wy (.d (.lit (.bool false))) [] (Omv rfl) ?_
            refine Walk.nil ?_
            refine Then.normal ?_
            refine AWP.ret ?_
            refine Then.ret ?_
            obtain rfl := Option.some.inj hm
            exact ret_i []
          refine AWP.seq ?_
          refine Adr ?_
          refine Wy (.d (.lit (.int .i64 r44_5.2))) [] (Omv rfl) ?_
          refine Wy (.d (.lit (.bool (decide (r44_5.2 ≠ 0))))) [] (Obn rfl (fun _ => hb_neq (k := .i64))) ?_
          rcases tf_ (decide (r44_5.2 ≠ 0)) with hq49_6 | hq49_6
          · replace hm := cT hq49_6 hm
            refine Wy (.d (.lit (.bool true))) [] (Ocs (lit_tf (b := decide (r44_5.2 ≠ 0)) hq49_6) (Omv rfl)) ?_
            refine Wn ?_
            refine Wn ?_
            refine Wy (.d (.lit (.bool true))) [] (OpT rfl) ?_
            refine Wy (.d (.lit (.bool true))) [] (Omv rfl) ?_
            refine Wn ?_
            refine Wn ?_
            refine Wn ?_
            refine Wn ?_
            refine Wy (.d (.lit (.bool true))) [] (OpT rfl) ?_
            refine Wy (.d (.lit (.bool true))) [] (Omv rfl) ?_
            refine Wn ?_
            refine Wn ?_
            refine Wn ?_
            refine Wn ?_
            refine Wn ?_
            refine Wn ?_
            refine Wy (.d (.lit (.bool true))) [] (OpT rfl) ?_
            refine Wdr ?_
            refine Then.normal ?_
            exact AWP.weak (Weak.toK 73786976294838206492 0 0 [0, 1]) (J7 () hm)
          · replace hm := cF hq49_6 hm
            refine Wy (.d (.lit (.bool false))) [] (Ocs (lit_tf (b := decide (r44_5.2 ≠ 0)) hq49_6) (Omv rfl)) ?_
            refine Wy (.d (.lit (.int .i64 r36_4.2.1))) [] (Omv rfl) ?_
            refine Wy (.d (.lit (.bool (decide (r36_4.2.1 < 0))))) [] (Obn rfl (fun _ => hb_lss (k := .i64))) ?_
            refine Wy (.d (.lit (.bool (decide (r36_4.2.1 < 0))))) [] (OpF rfl) ?_
            rcases tf_ (decide (r36_4.2.1 < 0)) with hq53_6 | hq53_6
            · replace hm := cT hq53_6 hm
              refine Wy (.d (.lit (.bool true))) [] (Ocs (lit_tf (b := decide (r36_4.2.1 < 0)) hq53_6) (Omv rfl)) ?_
              refine Wn ?_
              refine Wn ?_
              refine Wn ?_
              refine Wn ?_
              refine Wy (.d (.lit (.bool true))) [] (OpT rfl) ?_
              refine Wy (.d (.lit (.bool true))) [] (Omv rfl) ?_
              refine Wn ?_
              refine Wn ?_
              refine Wn ?_
              refine Wn ?_
              refine Wn ?_
              refine Wn ?_
              refine Wy (.d (.lit (.bool true))) [] (OpT rfl) ?_
              refine Wdr ?_
              refine Then.normal ?_
              exact AWP.weak (Weak.toK 73786976294838206492 0 0 [0, 1]) (J7 () hm)
            · replace hm := cF hq53_6 hm
              refine Wy (.d (.lit (.bool false))) [] (Ocs (lit_tf (b := decide (r36_4.2.1 < 0)) hq53_6) (Omv rfl)) ?_
              refine Wy (.d (.lit (.int .i64 r36_4.2.1))) [] (Omv rfl) ?_
              refine Wy (.d (.lit (.string (toS p2)))) [] (Omv rfl) ?_
              refine Wy (.d (.lit (.int .i64 ((List.length p2 : Nat) : Int)))) [] (Oln rfl) ?_
              refine Wy (.d (.lit (.bool (decide (((List.length p2 : Nat) : Int) < r36_4.2.1))))) [] (Obn rfl (fun _ => hb_gtr (k := .i64))) ?_
              refine Wy (.d (.lit (.bool (decide (((List.length p2 : Nat) : Int) < r36_4.2.1))))) [] (OpF rfl) ?_
              rcases tf_ (decide (((List.length p2 : Nat) : Int) < r36_4.2.1)) with hq59_6 | hq59_6
              · replace hm := cT hq59_6 hm
                refine Wy (.d (.lit (.bool true))) [] (Ocs (lit_tf (b := decide (((List.length p2 : Nat) : Int) < r36_4.2.1)) hq59_6) (Omv rfl)) ?_
                refine Wn ?_
                refine Wn ?_
                refine Wn ?_
                refine Wn ?_
                refine Wn ?_
                refine Wn ?_
                refine Wy (.d (.lit (.bool true))) [] (OpT rfl) ?_
                refine Wdr ?_
                refine Then.normal ?_
                exact AWP.weak (Weak.toK 73786976294838206492 0 0 [0, 1]) (J7 () hm)
              · replace hm := cF hq59_6 hm
                refine Wy (.d (.lit (.bool false))) [] (Ocs (lit_tf (b := decide (((List.length p2 : Nat) : Int) < r36_4.2.1)) hq59_6) (Omv rfl)) ?_
                refine Wy (.own 3) [] (Omv rfl) ?_
                refine Wy (.d (.lit (.string (toS r44_5.1)))) [] (Ocs (by kernel_rfl) (op_str rfl (e := 5) (by kernel_rfl) (by kernel_rfl) (by kernel_rfl) (y := (.own 3)) (by kernel_rfl) (ds := flatD encU8 r44_5.1) (off := 0) (n := List.length r44_5.1) (by kernel_rfl) (l := r44_5.1) flatU8_take rfl)) ?_
                refine Wy (.d (.lit (.string (toS p2)))) [] (Omv rfl) ?_
                refine Wy (.d (.lit (.int .i64 r36_4.2.1))) [] (Omv rfl) ?_
                obtain ⟨s64_6, hs64_6, hm⟩ := bnd hm; obtain ⟨hs64_6a, hs64_6b, hs64_6c, hs64_6d, hs64_6e⟩ := cut_some hs64_6
                refine Wy (.d (.lit (.string (toS s64_6)))) [] (Ocs (lit_str (toS_cut hs64_6e)) (op_slice_str rfl (by kernel_rfl) (s := toS p2) (by kernel_rfl) (l := (Int.toNat 0)) (h := (Int.toNat r36_4.2.1)) (by exact rfl) (⟨.i64, r36_4.2.1, by kernel_rfl, hs64_6b⟩) hs64_6c hs64_6d)) ?_
                refine Wy (.d (.lit (.bool (decide (r44_5.1 ≠ s64_6))))) [] (Ocs (lit_tf (by simp only [toS_inj, ne_eq])) (op_bin rfl (a1 := .string (toS r44_5.1)) (a2 := .string (toS s64_6)) (by kernel_rfl) (by kernel_rfl) (fun _ => hb_sneq))) ?_
                refine Wy (.d (.lit (.bool (decide (r44_5.1 ≠ s64_6))))) [] (OpF rfl) ?_
                refine Wdr ?_
                refine Then.normal ?_
                refine Amk 73786976294838206492 3 ⟨(tp 2 ((.d (.lit (.string (toS p2)))) :: ((.loc 0 0) :: ((.loc 1 0) :: (tp 61 ((.d (.lit (.bool (decide (r44_5.1 ≠ s64_6))))) :: (tp 62 []))))))), [(.box [(.d (byteD p0.Kind)), (.d (.lit (.int .i64 p0.N))), (.d (.lit (.int .u64 p0.Bits))), (.d (.lit (.string (toS p0.Text))))]), (.box [(.d (byteD p1.Kind)), (.d (.lit (.int .i64 p1.N))), (.d (.lit (.int .u64 p1.Bits))), (.d (.lit (.string (toS p1.Text))))]), .gone, .gone], 0⟩ ?_
                rcases tf_ (decide (r44_5.1 ≠ s64_6)) with hc66_20 | hc66_20
                · replace hm := cT hc66_20 hm
                  refine AWP.if_ true (Eq.trans (by kernel_rfl) (lit_tf (b := decide (r44_5.1 ≠ s64_6)) hc66_20)) ?_
                  refine AWP.seq ?_
                  refine AWP.text ?_
                  refine Wy (.d (.lit (.bool false))) [] (Omv rfl) ?_
                  refine Walk.nil ?_
                  refine Then.normal ?_
                  refine AWP.ret ?_
                  refine Then.ret ?_
                  obtain rfl := Option.some.inj hm
                  exact ret_i []
                · replace hm := cF hc66_20 hm
                  refine AWP.if_ false (Eq.trans (by kernel_rfl) (lit_tf (b := decide (r44_5.1 ≠ s64_6)) hc66_20)) ?_
                  refine AWP.skip ?_
                  refine Then.normal ?_
                  exact AWP.weak (Weak.toK 28 0 0 [0, 1]) (J8 () hm)
        · replace hm := cF hc41_19 hm
          refine AWP.if_ false (Eq.trans (by kernel_rfl) (lit_tf (b := decide (r36_4.2.2 = 0)) hc41_19)) ?_
          refine AWP.skip ?_
          refine Then.normal ?_
          exact AWP.weak (Weak.toK 28 0 0 [0, 1]) (J8 () hm)
end Go.Proofs.Ytgocnknbiipcfaa.K
