/- each function computes what its model says (3) -/
import Derived.Test.YtgocnknbiipcfaaL2
namespace Go.Proofs.Ytgocnknbiipcfaa.K
open Go.RowKit Go.Lib
set_option linter.unusedVariables false
set_option linter.unusedSimpArgs false

set_option maxRecDepth 20000 in
set_option maxHeartbeats 4000000 in
theorem ok_cmp_isNaN_string (p0 : (List UInt8)) (r : Bool) (h : m_cmp_isNaN_string p0 = some r) : GCall Try.prog 58 [(.d (.lit (.string (toS p0))))] [] (.d (.lit (.bool r))) [] := by
  refine GCall.of_body (n := 6) (rs := [(.tmp 2)]) Try.func58 rfl rfl rfl ?_
  refine Ato ⟨((.d (.lit (.string (toS p0)))) :: (tu 5 [])), [], 0⟩ ?_
  have hm := h
  unfold m_cmp_isNaN_string at hm
  refine AWP.seq ?_
  refine AWP.text ?_
  refine Wy (.d (.lit (.bool false))) [] (Omv rfl) ?_
  refine Walk.nil ?_
  refine Then.normal ?_
  refine Amk 1 0 ⟨((.d (.lit (.string (toS p0)))) :: (tp 5 [])), [], 0⟩ ?_
  refine AWP.seq ?_
  refine AWP.text ?_
  refine Wy (.d (.lit (.string (toS p0)))) [] (Omv rfl) ?_
  refine Wy (.d (.lit (.string (toS p0)))) [] (Omv rfl) ?_
  refine Wy (.d (.lit (.bool (decide (p0 ≠ p0))))) [] (Ocs (lit_tf (by simp only [toS_inj, ne_eq])) (op_bin rfl (a1 := .string (toS p0)) (a2 := .string (toS p0)) (by kernel_rfl) (by kernel_rfl) (fun _ => hb_sneq))) ?_
  refine Wy (.d (.lit (.bool (decide (p0 ≠ p0))))) [] (Omv rfl) ?_
  refine Walk.nil ?_
  refine Then.normal ?_
  refine AWP.ret ?_
  obtain rfl := Option.some.inj hm
  exact ret_i []

set_option maxRecDepth 20000 in
set_option maxHeartbeats 4000000 in
theorem ok_cmp_Compare_string (p0 : (List UInt8)) (p1 : (List UInt8)) (r : Int) (h : m_cmp_Compare_string p0 p1 = some r) : GCall Try.prog 41 [(.d (.lit (.string (toS p0)))), (.d (.lit (.string (toS p1))))] [] (.d (.lit (.int .i64 r))) [] := by
  refine GCall.of_body (n := 20) (rs := [(.tmp 4)]) Try.func41 rfl rfl rfl ?_
  refine Ato ⟨((.d (.lit (.string (toS p0)))) :: ((.d (.lit (.string (toS p1)))) :: (tu 18 []))), [], 0⟩ ?_
  have hm := h
  unfold m_cmp_Compare_string at hm
  refine AWP.seq ?_
  refine AWP.text ?_
  refine Wy (.d (.lit (.int .i64 0))) [] (Omv rfl) ?_
  refine Walk.nil ?_
  refine Then.normal ?_
  refine Amk 3 0 ⟨((.d (.lit (.string (toS p0)))) :: ((.d (.lit (.string (toS p1)))) :: (tp 18 []))), [], 0⟩ ?_
  refine AWP.seq ?_
  refine AWP.text ?_
  refine Wy (.d (.lit (.string (toS p0)))) [] (Omv rfl) ?_
  obtain ⟨r8_0, hr8_0, hm⟩ := bnd hm
  refine Wy (.d (.lit (.bool r8_0))) [] (Ocf [] [] [] 0 (ok_cmp_isNaN_string p0 r8_0 hr8_0) (fun a w => Try.call58 a w) rfl trivial) ?_
  refine Wy (.d (.lit (.bool r8_0))) [] (Omv rfl) ?_
  refine Walk.nil ?_
  refine Then.normal ?_
  refine Amk 35 0 ⟨((.d (.lit (.string (toS p0)))) :: ((.d (.lit (.string (toS p1)))) :: (tp 3 ((.d (.lit (.bool r8_0))) :: (tp 14 []))))), [], 0⟩ ?_
  refine AWP.seq ?_
  refine AWP.text ?_
  refine Wy (.d (.lit (.string (toS p1)))) [] (Omv rfl) ?_
  obtain ⟨r10_1, hr10_1, hm⟩ := bnd hm
  refine Wy (.d (.lit (.bool r10_1))) [] (Ocf [] [] [] 0 (ok_cmp_isNaN_string p1 r10_1 hr10_1) (fun a w => Try.call58 a w) rfl trivial) ?_
  refine Wy (.d (.lit (.bool r10_1))) [] (Omv rfl) ?_
  refine Walk.nil ?_
  refine Then.normal ?_
  refine Amk 99 0 ⟨((.d (.lit (.string (toS p0)))) :: ((.d (.lit (.string (toS p1)))) :: (tp 3 ((.d (.lit (.bool r8_0))) :: ((.d (.lit (.bool r10_1))) :: (tp 13 [])))))), [], 0⟩ ?_
  refine AWP.seq ?_
  refine AWP.seq ?_
  refine AWP.text ?_
  refine Wy (.d (.lit (.bool r8_0))) [] (Omv rfl) ?_
  refine Walk.nil ?_
  refine Then.normal ?_
  refine Amk 2115 0 ⟨((.d (.lit (.string (toS p0)))) :: ((.d (.lit (.string (toS p1)))) :: (tp 4 ((.d (.lit (.bool r10_1))) :: (tp 4 ((.d (.lit (.bool r8_0))) :: (tp 8 []))))))), [], 0⟩ ?_
  rcases tf_ r8_0 with hc11_2 | hc11_2
  · replace hm := cT hc11_2 hm
    refine AWP.if_ true (Eq.trans (by kernel_rfl) (lit_tf (b := r8_0) hc11_2)) ?_
    refine AWP.seq ?_
    refine AWP.seq ?_
    refine AWP.text ?_
    refine Wy (.d (.lit (.bool r10_1))) [] (Omv rfl) ?_
    refine Walk.nil ?_
    refine Then.normal ?_
    refine Amk 4096 0 ⟨(tp 12 ((.d (.lit (.bool r10_1))) :: (tp 7 []))), [], 0⟩ ?_
    rcases tf_ r10_1 with hc12_3 | hc12_3
    · replace hm := cT hc12_3 hm
      refine AWP.if_ true (Eq.trans (by kernel_rfl) (lit_tf (b := r10_1) hc12_3)) ?_
      refine AWP.seq ?_
      refine AWP.text ?_
      refine Wy (.d (.lit (.int .i64 0))) [] (Omv rfl) ?_
      refine Walk.nil ?_
      refine Then.normal ?_
      refine AWP.ret ?_
      refine Then.ret ?_
      refine Then.ret ?_
      obtain rfl := Option.some.inj hm
      exact ret_i []
    · replace hm := cF hc12_3 hm
      refine AWP.if_ false (Eq.trans (by kernel_rfl) (lit_tf (b := r10_1) hc12_3)) ?_
      refine AWP.skip ?_
      refine Then.normal ?_
      refine Amk 0 0 ⟨(tp 20 []), [], 0⟩ ?_
      refine AWP.seq ?_
      refine AWP.text ?_
      refine Wy (.d (.lit (.int .i64 (-1)))) [] (Omv rfl) ?_
      refine Walk.nil ?_
      refine Then.normal ?_
      refine AWP.ret ?_
      refine Then.ret ?_
      obtain rfl := Option.some.inj hm
      exact ret_i []
  · replace hm := cF hc11_2 hm
    refine AWP.if_ false (Eq.trans (by kernel_rfl) (lit_tf (b := r8_0) hc11_2)) ?_
    refine AWP.skip ?_
    refine Then.normal ?_
    refine Amk 67 0 ⟨((.d (.lit (.string (toS p0)))) :: ((.d (.lit (.string (toS p1)))) :: (tp 4 ((.d (.lit (.bool r10_1))) :: (tp 13 []))))), [], 0⟩ ?_
    refine AWP.seq ?_
    refine AWP.seq ?_
    refine AWP.text ?_
    refine Wy (.d (.lit (.bool r10_1))) [] (Omv rfl) ?_
    refine Walk.nil ?_
    refine Then.normal ?_
    refine Amk 8195 0 ⟨((.d (.lit (.string (toS p0)))) :: ((.d (.lit (.string (toS p1)))) :: (tp 11 ((.d (.lit (.bool r10_1))) :: (tp 6 []))))), [], 0⟩ ?_
    rcases tf_ r10_1 with hc13_4 | hc13_4
    · replace hm := cT hc13_4 hm
      refine AWP.if_ true (Eq.trans (by kernel_rfl) (lit_tf (b := r10_1) hc13_4)) ?_
      refine AWP.seq ?_
      refine AWP.text ?_
      refine Wy (.d (.lit (.int .i64 1))) [] (Omv rfl) ?_
      refine Walk.nil ?_
      refine Then.normal ?_
      refine AWP.ret ?_
      refine Then.ret ?_
      obtain rfl := Option.some.inj hm
      exact ret_i []
    · replace hm := cF hc13_4 hm
      refine AWP.if_ false (Eq.trans (by kernel_rfl) (lit_tf (b := r10_1) hc13_4)) ?_
      refine AWP.skip ?_
      refine Then.normal ?_
      refine Amk 3 0 ⟨((.d (.lit (.string (toS p0)))) :: ((.d (.lit (.string (toS p1)))) :: (tp 18 []))), [], 0⟩ ?_
      refine AWP.seq ?_
      refine AWP.seq ?_
      refine AWP.text ?_
      refine Wy (.d (.lit (.string (toS p0)))) [] (Omv rfl) ?_
      refine Wy (.d (.lit (.string (toS p1)))) [] (Omv rfl) ?_
      refine Wy (.d (.lit (.bool (ltS p0 p1)))) [] (op_bin rfl (a1 := .string (toS p0)) (a2 := .string (toS p1)) (by kernel_rfl) (by kernel_rfl) (fun _ => hb_tlss)) ?_
      refine Walk.nil ?_
      refine Then.normal ?_
      refine Amk 65539 0 ⟨((.d (.lit (.string (toS p0)))) :: ((.d (.lit (.string (toS p1)))) :: (tp 14 ((.d (.lit (.bool (ltS p0 p1)))) :: (tp 3 []))))), [], 0⟩ ?_
      rcases tf_ (ltS p0 p1) with hc16_5 | hc16_5
      · replace hm := cT hc16_5 hm
        refine AWP.if_ true (Eq.trans (by kernel_rfl) (lit_tf (b := (ltS p0 p1)) hc16_5)) ?_
        refine AWP.seq ?_
        refine AWP.text ?_
        refine Wy (.d (.lit (.int .i64 (-1)))) [] (Omv rfl) ?_
        refine Walk.nil ?_
        refine Then.normal ?_
        refine AWP.ret ?_
        refine Then.ret ?_
        obtain rfl := Option.some.inj hm
        exact ret_i []
      · replace hm := cF hc16_5 hm
        refine AWP.if_ false (Eq.trans (by kernel_rfl) (lit_tf (b := (ltS p0 p1)) hc16_5)) ?_
        refine AWP.skip ?_
        refine Then.normal ?_
        refine Amk 3 0 ⟨((.d (.lit (.string (toS p0)))) :: ((.d (.lit (.string (toS p1)))) :: (tp 18 []))), [], 0⟩ ?_
        refine AWP.seq ?_
        refine AWP.seq ?_
        refine AWP.text ?_
        refine Wy (.d (.lit (.string (toS p0)))) [] (Omv rfl) ?_
        refine Wy (.d (.lit (.string (toS p1)))) [] (Omv rfl) ?_
        refine Wy (.d (.lit (.bool (gtS p0 p1)))) [] (op_bin rfl (a1 := .string (toS p0)) (a2 := .string (toS p1)) (by kernel_rfl) (by kernel_rfl) (fun _ => hb_tgtr)) ?_
        refine Walk.nil ?_
        refine Then.normal ?_
        refine Amk 524288 0 ⟨(tp 19 ((.d (.lit (.bool (gtS p0 p1)))) :: [])), [], 0⟩ ?_
        rcases tf_ (gtS p0 p1) with hc19_6 | hc19_6
        · replace hm := cT hc19_6 hm
          refine AWP.if_ true (Eq.trans (by kernel_rfl) (lit_tf (b := (gtS p0 p1)) hc19_6)) ?_
          refine AWP.seq ?_
          refine AWP.text ?_
          refine Wy (.d (.lit (.int .i64 1))) [] (Omv rfl) ?_
          refine Walk.nil ?_
          refine Then.normal ?_
          refine AWP.ret ?_
          refine Then.ret ?_
          obtain rfl := Option.some.inj hm
          exact ret_i []
        · replace hm := cF hc19_6 hm
          refine AWP.if_ false (Eq.trans (by kernel_rfl) (lit_tf (b := (gtS p0 p1)) hc19_6)) ?_
          refine AWP.skip ?_
          refine Then.normal ?_
          refine Amk 0 0 ⟨(tp 20 []), [], 0⟩ ?_
          refine AWP.seq ?_
          refine AWP.text ?_
          refine Wy (.d (.lit (.int .i64 0))) [] (Omv rfl) ?_
          refine Walk.nil ?_
          refine Then.normal ?_
          refine AWP.ret ?_
          obtain rfl := Option.some.inj hm
          exact ret_i []

set_option maxRecDepth 20000 in
set_option maxHeartbeats 4000000 in
theorem ok_value_Rank (p0 : GValue) (p1 : GValue) (r : Int) (h : m_value_Rank p0 p1 = some r) : GCall Try.prog 14 [(.agg [(.d (byteD p0.Kind)), (.d (.lit (.int .i64 p0.N))), (.d (.lit (.int .u64 p0.Bits))), (.d (.lit (.string (toS p0.Text))))]), (.agg [(.d (byteD p1.Kind)), (.d (.lit (.int .i64 p1.N))), (.d (.lit (.int .u64 p1.Bits))), (.d (.lit (.string (toS p1.Text))))])] [] (.d (.lit (.int .i64 r))) [] := by
  refine GCall.of_body (n := 40) (rs := [(.tmp 4)]) Try.func14 rfl rfl rfl ?_
  refine Ato ⟨((.agg [(.d (byteD p0.Kind)), (.d (.lit (.int .i64 p0.N))), (.d (.lit (.int .u64 p0.Bits))), (.d (.lit (.string (toS p0.Text))))]) :: ((.agg [(.d (byteD p1.Kind)), (.d (.lit (.int .i64 p1.N))), (.d (.lit (.int .u64 p1.Bits))), (.d (.lit (.string (toS p1.Text))))]) :: (tu 38 []))), [], 0⟩ ?_
  have hm := h
  unfold m_value_Rank at hm
  refine AWP.seq ?_
  refine AWP.text ?_
  refine Wy (.loc 0 0) [(0, (.box [(.d (byteD p0.Kind)), (.d (.lit (.int .i64 p0.N))), (.d (.lit (.int .u64 p0.Bits))), (.d (.lit (.string (toS p0.Text))))]))] (Obx rfl) ?_
  refine Wy (.loc 1 0) [(1, (.box [(.d (byteD p1.Kind)), (.d (.lit (.int .i64 p1.N))), (.d (.lit (.int .u64 p1.Bits))), (.d (.lit (.string (toS p1.Text))))]))] (Obx rfl) ?_
  refine Wy (.d (.lit (.int .i64 0))) [] (Omv rfl) ?_
  refine Walk.nil ?_
  refine Then.normal ?_
  refine Amk 12 3 ⟨(tp 2 ((.loc 0 0) :: ((.loc 1 0) :: (tp 36 [])))), [(.box [(.d (byteD p0.Kind)), (.d (.lit (.int .i64 p0.N))), (.d (.lit (.int .u64 p0.Bits))), (.d (.lit (.string (toS p0.Text))))]), (.box [(.d (byteD p1.Kind)), (.d (.lit (.int .i64 p1.N))), (.d (.lit (.int .u64 p1.Bits))), (.d (.lit (.string (toS p1.Text))))])], 0⟩ ?_
  refine AWP.seq ?_
  refine AWP.seq ?_
  refine AWP.text ?_
  refine Wy (.loc 0 0) [] (Ofa rfl) ?_
  refine Wy (.d (byteD p0.Kind)) [] (Old rfl) ?_
  refine Wy (.loc 1 0) [] (Ofa rfl) ?_
  refine Wy (.d (byteD p1.Kind)) [] (Old rfl) ?_
  obtain ⟨r10_0, hr10_0, hm⟩ := bnd hm
  refine Wy (.d (.lit (.int .i64 r10_0))) [] (Ocf [] [] [] 0 (ok_cmp_Compare_uint8 p0.Kind p1.Kind r10_0 hr10_0) (fun a w => Try.call37 a w) rfl trivial) ?_
  refine Wy (.d (.lit (.int .i64 r10_0))) [] (Omv rfl) ?_
  refine Walk.nil ?_
  refine Then.normal ?_
  refine Amk 44 3 ⟨(tp 2 ((.loc 0 0) :: ((.loc 1 0) :: (tp 1 ((.d (.lit (.int .i64 r10_0))) :: (tp 34 [])))))), [(.box [(.d (byteD p0.Kind)), (.d (.lit (.int .i64 p0.N))), (.d (.lit (.int .u64 p0.Bits))), (.d (.lit (.string (toS p0.Text))))]), (.box [(.d (byteD p1.Kind)), (.d (.lit (.int .i64 p1.N))), (.d (.lit (.int .u64 p1.Bits))), (.d (.lit (.string (toS p1.Text))))])], 0⟩ ?_
  refine AWP.seq ?_
  refine AWP.text ?_
  refine Wy (.d (.lit (.int .i64 r10_0))) [] (Omv rfl) ?_
  refine Wy (.d (.lit (.bool (decide (r10_0 ≠ 0))))) [] (Obn rfl (fun _ => hb_neq (k := .i64))) ?_
  refine Walk.nil ?_
  refine Then.normal ?_
  refine Amk 4140 3 ⟨(tp 2 ((.loc 0 0) :: ((.loc 1 0) :: (tp 1 ((.d (.lit (.int .i64 r10_0))) :: (tp 6 ((.d (.lit (.bool (decide (r10_0 ≠ 0))))) :: (tp 27 [])))))))), [(.box [(.d (byteD p0.Kind)), (.d (.lit (.int .i64 p0.N))), (.d (.lit (.int .u64 p0.Bits))), (.d (.lit (.string (toS p0.Text))))]), (.box [(.d (byteD p1.Kind)), (.d (.lit (.int .i64 p1.N))), (.d (.lit (.int .u64 p1.Bits))), (.d (.lit (.string (toS p1.Text))))])], 0⟩ ?_
  rcases tf_ (decide (r10_0 ≠ 0)) with hc12_5 | hc12_5
  · replace hm := cT hc12_5 hm
    refine AWP.if_ true (Eq.trans (by kernel_rfl) (lit_tf (b := decide (r10_0 ≠ 0)) hc12_5)) ?_
    refine AWP.seq ?_
    refine AWP.text ?_
    refine Wy (.d (.lit (.int .i64 r10_0))) [] (Omv rfl) ?_
    refine Wy (.d (.lit (.int .i64 r10_0))) [] (Omv rfl) ?_
    refine Walk.nil ?_
    refine Then.normal ?_
    refine AWP.ret ?_
    refine Then.ret ?_
    obtain rfl := Option.some.inj hm
    exact ret_i []
  · replace hm := cF hc12_5 hm
    refine AWP.if_ false (Eq.trans (by kernel_rfl) (lit_tf (b := decide (r10_0 ≠ 0)) hc12_5)) ?_
    refine AWP.skip ?_
    refine Then.normal ?_
    refine Amk 12 3 ⟨(tp 2 ((.loc 0 0) :: ((.loc 1 0) :: (tp 36 [])))), [(.box [(.d (byteD p0.Kind)), (.d (.lit (.int .i64 p0.N))), (.d (.lit (.int .u64 p0.Bits))), (.d (.lit (.string (toS p0.Text))))]), (.box [(.d (byteD p1.Kind)), (.d (.lit (.int .i64 p1.N))), (.d (.lit (.int .u64 p1.Bits))), (.d (.lit (.string (toS p1.Text))))])], 0⟩ ?_
    refine AWP.seq ?_
    refine AWP.seq ?_
    refine AWP.text ?_
    refine Wy (.loc 0 0) [] (Ofa rfl) ?_
    refine Wy (.d (byteD p0.Kind)) [] (Old rfl) ?_
    refine Walk.nil ?_
    refine Then.normal ?_
    refine Amk 32780 3 ⟨(tp 2 ((.loc 0 0) :: ((.loc 1 0) :: (tp 11 ((.d (byteD p0.Kind)) :: (tp 24 [])))))), [(.box [(.d (byteD p0.Kind)), (.d (.lit (.int .i64 p0.N))), (.d (.lit (.int .u64 p0.Bits))), (.d (.lit (.string (toS p0.Text))))]), (.box [(.d (byteD p1.Kind)), (.d (.lit (.int .i64 p1.N))), (.d (.lit (.int .u64 p1.Bits))), (.d (.lit (.string (toS p1.Text))))])], 0⟩ ?_
    refine AWP.block ?_
    refine AWP.cutJ (α := Bool) (fun x => match x with | y16_1 => (⟨(tp 2 ((.loc 0 0) :: ((.loc 1 0) :: (tp 11 ((.d (byteD p0.Kind)) :: ((.d (.lit (.bool y16_1))) :: (tp 23 []))))))), [(.box [(.d (byteD p0.Kind)), (.d (.lit (.int .i64 p0.N))), (.d (.lit (.int .u64 p0.Bits))), (.d (.lit (.string (toS p0.Text))))]), (.box [(.d (byteD p1.Kind)), (.d (.lit (.int .i64 p1.N))), (.d (.lit (.int .u64 p1.Bits))), (.d (.lit (.string (toS p1.Text))))])], 0⟩ : St)) (fun x => match x with | y16_1 => m_value_Rank_j1 p0 p1 y16_1 = some r) ?_ (fun J1 => ?_)
    · rintro y16_1 hm
      try dsimp only at hm ⊢
      unfold m_value_Rank_j1 at hm
      rcases tf_ y16_1 with hc16_1 | hc16_1
      · replace hm := cT hc16_1 hm
        refine AWP.if_ true (Eq.trans (by kernel_rfl) (lit_tf (b := y16_1) hc16_1)) ?_
        refine AWP.seq ?_
        refine AWP.text ?_
        refine Wy (.loc 0 1) [] (Ofa rfl) ?_
        refine Wy (.d (.lit (.int .i64 p0.N))) [] (Old rfl) ?_
        refine Wy (.loc 1 1) [] (Ofa rfl) ?_
        refine Wy (.d (.lit (.int .i64 p1.N))) [] (Old rfl) ?_
        obtain ⟨r23_2, hr23_2, hm⟩ := bnd hm
        refine Wy (.d (.lit (.int .i64 r23_2))) [] (Ocf [] [] [] 0 (ok_cmp_Compare_int p0.N p1.N r23_2 hr23_2) (fun a w => Try.call38 a w) rfl trivial) ?_
        refine Wy (.d (.lit (.int .i64 r23_2))) [] (Omv rfl) ?_
        refine Walk.nil ?_
        refine Then.normal ?_
        refine AWP.ret ?_
        refine InBlock.ret ?_
        refine Then.ret ?_
        obtain rfl := Option.some.inj hm
        exact ret_i []
      · replace hm := cF hc16_1 hm
        refine AWP.if_ false (Eq.trans (by kernel_rfl) (lit_tf (b := y16_1) hc16_1)) ?_
        refine AWP.seq ?_
        refine AWP.text ?_
        refine Wy (.d (.lit (.bool (decide (((p0.Kind.toNat : Nat) : Int) = 3))))) [] (Ocs (by kernel_rfl) (op_bin rfl (a1 := .int .u8 ((p0.Kind.toNat : Nat) : Int)) (a2 := .int .u8 3) (by kernel_rfl) (by kernel_rfl) (fun _ => hb_eql))) ?_
        refine Wy (.d (.lit (.bool (decide (((p0.Kind.toNat : Nat) : Int) = 3))))) [] (Omv rfl) ?_
        refine Walk.nil ?_
        refine Then.normal ?_
        refine Amk 16809996 3 ⟨(tp 2 ((.loc 0 0) :: ((.loc 1 0) :: (tp 11 ((.d (byteD p0.Kind)) :: (tp 8 ((.d (.lit (.bool (decide (((p0.Kind.toNat : Nat) : Int) = 3))))) :: (tp 15 [])))))))), [(.box [(.d (byteD p0.Kind)), (.d (.lit (.int .i64 p0.N))), (.d (.lit (.int .u64 p0.Bits))), (.d (.lit (.string (toS p0.Text))))]), (.box [(.d (byteD p1.Kind)), (.d (.lit (.int .i64 p1.N))), (.d (.lit (.int .u64 p1.Bits))), (.d (.lit (.string (toS p1.Text))))])], 0⟩ ?_
        rcases tf_ (decide (((p0.Kind.toNat : Nat) : Int) = 3)) with hc24_6 | hc24_6
        · replace hm := cT hc24_6 hm
          refine AWP.if_ true (Eq.trans (by kernel_rfl) (lit_tf (b := decide (((p0.Kind.toNat : Nat) : Int) = 3)) hc24_6)) ?_
          refine AWP.seq ?_
          refine Adr ?_
          refine Wy (.loc 0 2) [] (Ofa rfl) ?_
          refine Wy (.d (.lit (.int .u64 p0.Bits))) [] (Old rfl) ?_
          obtain ⟨r28_3, hr28_3, hm⟩ := bnd hm
          refine Wy (.d (.lit (.int .u64 r28_3))) [] (Ocf [] [] [] 0 (ok_real_Rank p0.Bits r28_3 hr28_3) (fun a w => Try.call40 a w) rfl trivial) ?_
          refine Wy (.loc 1 2) [] (Ofa rfl) ?_
          refine Wy (.d (.lit (.int .u64 p1.Bits))) [] (Old rfl) ?_
          obtain ⟨r31_3, hr31_3, hm⟩ := bnd hm
          refine Wy (.d (.lit (.int .u64 r31_3))) [] (Ocf [] [] [] 0 (ok_real_Rank p1.Bits r31_3 hr31_3) (fun a w => Try.call40 a w) rfl trivial) ?_
          obtain ⟨r32_3, hr32_3, hm⟩ := bnd hm
          refine Wy (.d (.lit (.int .i64 r32_3))) [] (Ocf [] [] [] 0 (ok_cmp_Compare_uint64 r28_3 r31_3 r32_3 hr32_3) (fun a w => Try.call39 a w) rfl trivial) ?_
          refine Wy (.d (.lit (.int .i64 r32_3))) [] (Omv rfl) ?_
          refine Wdr ?_
          refine Then.normal ?_
          refine AWP.ret ?_
          refine InBlock.ret ?_
          refine Then.ret ?_
          obtain rfl := Option.some.inj hm
          exact ret_i []
        · replace hm := cF hc24_6 hm
          refine AWP.if_ false (Eq.trans (by kernel_rfl) (lit_tf (b := decide (((p0.Kind.toNat : Nat) : Int) = 3)) hc24_6)) ?_
          refine AWP.seq ?_
          refine AWP.text ?_
          refine Wy (.d (.lit (.bool (decide (((p0.Kind.toNat : Nat) : Int) = 4))))) [] (Ocs (by kernel_rfl) (op_bin rfl (a1 := .int .u8 ((p0.Kind.toNat : Nat) : Int)) (a2 := .int .u8 4) (by kernel_rfl) (by kernel_rfl) (fun _ => hb_eql))) ?_
          refine Wy (.d (.lit (.bool (decide (((p0.Kind.toNat : Nat) : Int) = 4))))) [] (Omv rfl) ?_
          refine Walk.nil ?_
          refine Then.normal ?_
          refine Amk 8589934604 3 ⟨(tp 2 ((.loc 0 0) :: ((.loc 1 0) :: (tp 29 ((.d (.lit (.bool (decide (((p0.Kind.toNat : Nat) : Int) = 4))))) :: (tp 6 [])))))), [(.box [(.d (byteD p0.Kind)), (.d (.lit (.int .i64 p0.N))), (.d (.lit (.int .u64 p0.Bits))), (.d (.lit (.string (toS p0.Text))))]), (.box [(.d (byteD p1.Kind)), (.d (.lit (.int .i64 p1.N))), (.d (.lit (.int .u64 p1.Bits))), (.d (.lit (.string (toS p1.Text))))])], 0⟩ ?_
          rcases tf_ (decide (((p0.Kind.toNat : Nat) : Int) = 4)) with hc33_7 | hc33_7
          · replace hm := cT hc33_7 hm
            refine AWP.if_ true (Eq.trans (by kernel_rfl) (lit_tf (b := decide (((p0.Kind.toNat : Nat) : Int) = 4)) hc33_7)) ?_
            refine AWP.seq ?_
            refine AWP.text ?_
            refine Wy (.loc 0 3) [] (Ofa rfl) ?_
            refine Wy (.d (.lit (.string (toS p0.Text)))) [] (Old rfl) ?_
            refine Wy (.loc 1 3) [] (Ofa rfl) ?_
            refine Wy (.d (.lit (.string (toS p1.Text)))) [] (Old rfl) ?_
            obtain ⟨r39_4, hr39_4, hm⟩ := bnd hm
            refine Wy (.d (.lit (.int .i64 r39_4))) [] (Ocf [] [] [] 0 (ok_cmp_Compare_string p0.Text p1.Text r39_4 hr39_4) (fun a w => Try.call41 a w) rfl trivial) ?_
            refine Wy (.d (.lit (.int .i64 r39_4))) [] (Omv rfl) ?_
            refine Walk.nil ?_
            refine Then.normal ?_
            refine AWP.ret ?_
            refine InBlock.ret ?_
            refine Then.ret ?_
            obtain rfl := Option.some.inj hm
            exact ret_i []
          · replace hm := cF hc33_7 hm
            refine AWP.if_ false (Eq.trans (by kernel_rfl) (lit_tf (b := decide (((p0.Kind.toNat : Nat) : Int) = 4)) hc33_7)) ?_
            refine AWP.skip ?_
            refine InBlock.normal ?_
            refine Then.normal ?_
            refine Amk 0 0 ⟨(tp 40 []), [.gone, .gone], 0⟩ ?_
            refine AWP.seq ?_
            refine AWP.text ?_
            refine Wy (.d (.lit (.int .i64 0))) [] (Omv rfl) ?_
            refine Walk.nil ?_
            refine Then.normal ?_
            refine AWP.ret ?_
            obtain rfl := Option.some.inj hm
            exact ret_i []
    refine AWP.seq ?_
    refine AWP.seq ?_
    refine AWP.text ?_
    refine Wy (.d (.lit (.bool (decide (((p0.Kind.toNat : Nat) : Int) = 1))))) [] (Ocs (by kernel_rfl) (op_bin rfl (a1 := .int .u8 ((p0.Kind.toNat : Nat) : Int)) (a2 := .int .u8 1) (by kernel_rfl) (by kernel_rfl) (fun _ => hb_eql))) ?_
    refine Wy (.d (.lit (.bool (decide (((p0.Kind.toNat : Nat) : Int) = 1))))) [] (Omv rfl) ?_
    refine Walk.nil ?_
    refine Then.normal ?_
    refine Amk 98316 3 ⟨(tp 2 ((.loc 0 0) :: ((.loc 1 0) :: (tp 11 ((.d (byteD p0.Kind)) :: ((.d (.lit (.bool (decide (((p0.Kind.toNat : Nat) : Int) = 1))))) :: (tp 23 []))))))), [(.box [(.d (byteD p0.Kind)), (.d (.lit (.int .i64 p0.N))), (.d (.lit (.int .u64 p0.Bits))), (.d (.lit (.string (toS p0.Text))))]), (.box [(.d (byteD p1.Kind)), (.d (.lit (.int .i64 p1.N))), (.d (.lit (.int .u64 p1.Bits))), (.d (.lit (.string (toS p1.Text))))])], 0⟩ ?_
    rcases tf_ (decide (((p0.Kind.toNat : Nat) : Int) = 1)) with hc16_8 | hc16_8
    · replace hm := cT hc16_8 hm
      refine AWP.if_ true (Eq.trans (by kernel_rfl) (lit_tf (b := decide (((p0.Kind.toNat : Nat) : Int) = 1)) hc16_8)) ?_
      refine AWP.skip ?_
      refine Then.normal ?_
      exact AWP.weak (Weak.toK 98316 0 0 [0, 1]) (J1 (decide (((p0.Kind.toNat : Nat) : Int) = 1)) hm)
    · replace hm := cF hc16_8 hm
      refine AWP.if_ false (Eq.trans (by kernel_rfl) (lit_tf (b := decide (((p0.Kind.toNat : Nat) : Int) = 1)) hc16_8)) ?_
      refine AWP.text ?_
      refine Wy (.d (.lit (.bool (decide (((p0.Kind.toNat : Nat) : Int) = 2))))) [] (Ocs (by kernel_rfl) (op_bin rfl (a1 := .int .u8 ((p0.Kind.toNat : Nat) : Int)) (a2 := .int .u8 2) (by kernel_rfl) (by kernel_rfl) (fun _ => hb_eql))) ?_
      refine Wy (.d (.lit (.bool (decide (((p0.Kind.toNat : Nat) : Int) = 2))))) [] (Omv rfl) ?_
      refine Walk.nil ?_
      refine Then.normal ?_
      exact AWP.weak (Weak.toK 98316 0 0 [0, 1]) (J1 (decide (((p0.Kind.toNat : Nat) : Int) = 2)) hm)

set_option maxRecDepth 20000 in
set_option maxHeartbeats 4000000 in
theorem ok_value_OfReal (p0 : Int) (r : GValue) (h : m_value_OfReal p0 = some r) : GCall Try.prog 20 [(.d (.lit (.int .u64 p0)))] [] (.agg [(.d (byteD r.Kind)), (.d (.lit (.int .i64 r.N))), (.d (.lit (.int .u64 r.Bits))), (.d (.lit (.string (toS r.Text))))]) [] := by
  refine GCall.of_body (n := 6) (rs := [(.cell 2 31)]) Try.func20 rfl rfl rfl ?_
  refine Ato ⟨((.d (.lit (.int .u64 p0))) :: (tu 5 [])), [], 0⟩ ?_
  have hm := h
  unfold m_value_OfReal at hm
  refine AWP.seq ?_
  refine AWP.text ?_
  refine Wy (.loc 0 0) [(0, (.box [(.d (byteD 0)), (.d (.lit (.int .i64 0))), (.d (.lit (.int .u64 0))), (.d (.lit (.string (toS ([] : List UInt8)))))]))] (Oal rfl) ?_
  refine Walk.nil ?_
  refine Then.normal ?_
  refine Amk 5 1 ⟨((.d (.lit (.int .u64 p0))) :: (tp 1 ((.loc 0 0) :: (tp 3 [])))), [(.box [(.d (byteD 0)), (.d (.lit (.int .i64 0))), (.d (.lit (.int .u64 0))), (.d (.lit (.string (toS ([] : List UInt8)))))])], 0⟩ ?_
  refine AWP.seq ?_
  refine AWP.text ?_
  refine Wy (.d (.lit (.int .u64 p0))) [] (Omv rfl) ?_
  obtain ⟨r4_0, hr4_0, hm⟩ := bnd hm
  refine Wy (.d (.lit (.int .u64 r4_0))) [] (Ocf [] [] [] 0 (ok_real_Clean p0 r4_0 hr4_0) (fun a w => Try.call35 a w) rfl trivial) ?_
  refine Wy (.agg [(.d (byteD 3)), (.d (.lit (.int .i64 0))), (.d (.lit (.int .u64 r4_0))), (.d (.lit (.string (toS ([] : List UInt8)))))]) [] (Obd rfl) ?_
  refine Wy (.tup []) [(0, (.box [(.d (byteD 3)), (.d (.lit (.int .i64 0))), (.d (.lit (.int .u64 r4_0))), (.d (.lit (.string (toS ([] : List UInt8)))))]))] (Ost rfl) ?_
  refine Walk.nil ?_
  refine Then.normal ?_
  refine AWP.ret ?_
  obtain rfl := Option.some.inj hm
  exact ret_i []

set_option maxRecDepth 20000 in
set_option maxHeartbeats 4000000 in
theorem ok_value_Word (p0 : UInt8) (r : (List UInt8)) (h : m_value_Word p0 = some r) : GCall Try.prog 26 [(.d (byteD p0))] [] (.d (.lit (.string (toS r)))) [] := by
  refine GCall.of_body (n := 12) (rs := [(.tmp 2)]) Try.func26 rfl rfl rfl ?_
  refine Ato ⟨((.d (byteD p0)) :: (tu 11 [])), [], 0⟩ ?_
  have hm := h
  unfold m_value_Word at hm
  refine AWP.seq ?_
  refine AWP.text ?_
  refine Wy (.d (.lit (.string (toS ([] : List UInt8))))) [] (Omv rfl) ?_
  refine Walk.nil ?_
  refine Then.normal ?_
  refine Amk 1 0 ⟨((.d (byteD p0)) :: (tp 11 [])), [], 0⟩ ?_
  refine AWP.seq ?_
  refine AWP.seq ?_
  refine AWP.text ?_
  refine Wy (.d (byteD p0)) [] (Omv rfl) ?_
  refine Walk.nil ?_
  refine Then.normal ?_
  refine Amk 8 0 ⟨(tp 3 ((.d (byteD p0)) :: (tp 8 []))), [], 0⟩ ?_
  refine AWP.block ?_
  refine AWP.seq ?_
  refine AWP.text ?_
  refine Wy (.d (.lit (.bool (decide (((p0.toNat : Nat) : Int) = 1))))) [] (Ocs (by kernel_rfl) (op_bin rfl (a1 := .int .u8 ((p0.toNat : Nat) : Int)) (a2 := .int .u8 1) (by kernel_rfl) (by kernel_rfl) (fun _ => hb_eql))) ?_
  refine Wy (.d (.lit (.bool (decide (((p0.toNat : Nat) : Int) = 1))))) [] (Omv rfl) ?_
  refine Walk.nil ?_
  refine Then.normal ?_
  refine Amk 24 0 ⟨(tp 3 ((.d (byteD p0)) :: ((.d (.lit (.bool (decide (((p0.toNat : Nat) : Int) = 1))))) :: (tp 7 [])))), [], 0⟩ ?_
  rcases tf_ (decide (((p0.toNat : Nat) : Int) = 1)) with hc4_0 | hc4_0
  · replace hm := cT hc4_0 hm
    refine AWP.if_ true (Eq.trans (by kernel_rfl) (lit_tf (b := decide (((p0.toNat : Nat) : Int) = 1)) hc4_0)) ?_
    refine AWP.seq ?_
    refine AWP.text ?_
    refine Wy (.d (.lit (.string (toS ([105, 110, 116] : List UInt8))))) [] (Omv rfl) ?_
    refine Walk.nil ?_
    refine Then.normal ?_
    refine AWP.ret ?_
    refine InBlock.ret ?_
    refine Then.ret ?_
    obtain rfl := Option.some.inj hm
    exact ret_i []
  · replace hm := cF hc4_0 hm
    refine AWP.if_ false (Eq.trans (by kernel_rfl) (lit_tf (b := decide (((p0.toNat : Nat) : Int) = 1)) hc4_0)) ?_
    refine AWP.seq ?_
    refine AWP.text ?_
    refine Wy (.d (.lit (.bool (decide (((p0.toNat : Nat) : Int) = 2))))) [] (Ocs (by kernel_rfl) (op_bin rfl (a1 := .int .u8 ((p0.toNat : Nat) : Int)) (a2 := .int .u8 2) (by kernel_rfl) (by kernel_rfl) (fun _ => hb_eql))) ?_
    refine Wy (.d (.lit (.bool (decide (((p0.toNat : Nat) : Int) = 2))))) [] (Omv rfl) ?_
    refine Walk.nil ?_
    refine Then.normal ?_
    refine Amk 72 0 ⟨(tp 3 ((.d (byteD p0)) :: (tp 2 ((.d (.lit (.bool (decide (((p0.toNat : Nat) : Int) = 2))))) :: (tp 5 []))))), [], 0⟩ ?_
    rcases tf_ (decide (((p0.toNat : Nat) : Int) = 2)) with hc6_1 | hc6_1
    · replace hm := cT hc6_1 hm
      refine AWP.if_ true (Eq.trans (by kernel_rfl) (lit_tf (b := decide (((p0.toNat : Nat) : Int) = 2)) hc6_1)) ?_
      refine AWP.seq ?_
      refine AWP.text ?_
      refine Wy (.d (.lit (.string (toS ([102, 108, 97, 103] : List UInt8))))) [] (Omv rfl) ?_
      refine Walk.nil ?_
      refine Then.normal ?_
      refine AWP.ret ?_
      refine InBlock.ret ?_
      refine Then.ret ?_
      obtain rfl := Option.some.inj hm
      exact ret_i []
    · replace hm := cF hc6_1 hm
      refine AWP.if_ false (Eq.trans (by kernel_rfl) (lit_tf (b := decide (((p0.toNat : Nat) : Int) = 2)) hc6_1)) ?_
      refine AWP.seq ?_
      refine AWP.text ?_
      refine Wy (.d (.lit (.bool (decide (((p0.toNat : Nat) : Int) = 3))))) [] (Ocs (by kernel_rfl) (op_bin rfl (a1 := .int .u8 ((p0.toNat : Nat) : Int)) (a2 := .int .u8 3) (by kernel_rfl) (by kernel_rfl) (fun _ => hb_eql))) ?_
      refine Wy (.d (.lit (.bool (decide (((p0.toNat : Nat) : Int) = 3))))) [] (Omv rfl) ?_
      refine Walk.nil ?_
      refine Then.normal ?_
      refine Amk 264 0 ⟨(tp 3 ((.d (byteD p0)) :: (tp 4 ((.d (.lit (.bool (decide (((p0.toNat : Nat) : Int) = 3))))) :: (tp 3 []))))), [], 0⟩ ?_
      rcases tf_ (decide (((p0.toNat : Nat) : Int) = 3)) with hc8_2 | hc8_2
      · replace hm := cT hc8_2 hm
        refine AWP.if_ true (Eq.trans (by kernel_rfl) (lit_tf (b := decide (((p0.toNat : Nat) : Int) = 3)) hc8_2)) ?_
        refine AWP.seq ?_
        refine AWP.text ?_
        refine Wy (.d (.lit (.string (toS ([114, 101, 97, 108] : List UInt8))))) [] (Omv rfl) ?_
        refine Walk.nil ?_
        refine Then.normal ?_
        refine AWP.ret ?_
        refine InBlock.ret ?_
        refine Then.ret ?_
        obtain rfl := Option.some.inj hm
        exact ret_i []
      · replace hm := cF hc8_2 hm
        refine AWP.if_ false (Eq.trans (by kernel_rfl) (lit_tf (b := decide (((p0.toNat : Nat) : Int) = 3)) hc8_2)) ?_
        refine AWP.seq ?_
        refine AWP.text ?_
        refine Wy (.d (.lit (.bool (decide (((p0.toNat : Nat) : Int) = 4))))) [] (Ocs (by kernel_rfl) (op_bin rfl (a1 := .int .u8 ((p0.toNat : Nat) : Int)) (a2 := .int .u8 4) (by kernel_rfl) (by kernel_rfl) (fun _ => hb_eql))) ?_
        refine Wy (.d (.lit (.bool (decide (((p0.toNat : Nat) : Int) = 4))))) [] (Omv rfl) ?_
        refine Walk.nil ?_
        refine Then.normal ?_
        refine Amk 1024 0 ⟨(tp 10 ((.d (.lit (.bool (decide (((p0.toNat : Nat) : Int) = 4))))) :: (tp 1 []))), [], 0⟩ ?_
        rcases tf_ (decide (((p0.toNat : Nat) : Int) = 4)) with hc10_3 | hc10_3
        · replace hm := cT hc10_3 hm
          refine AWP.if_ true (Eq.trans (by kernel_rfl) (lit_tf (b := decide (((p0.toNat : Nat) : Int) = 4)) hc10_3)) ?_
          refine AWP.seq ?_
          refine AWP.text ?_
          refine Wy (.d (.lit (.string (toS ([116, 101, 120, 116] : List UInt8))))) [] (Omv rfl) ?_
          refine Walk.nil ?_
          refine Then.normal ?_
          refine AWP.ret ?_
          refine InBlock.ret ?_
          refine Then.ret ?_
          obtain rfl := Option.some.inj hm
          exact ret_i []
        · replace hm := cF hc10_3 hm
          refine AWP.if_ false (Eq.trans (by kernel_rfl) (lit_tf (b := decide (((p0.toNat : Nat) : Int) = 4)) hc10_3)) ?_
          refine AWP.skip ?_
          refine InBlock.normal ?_
          refine Then.normal ?_
          refine Amk 0 0 ⟨(tp 12 []), [], 0⟩ ?_
          refine AWP.seq ?_
          refine AWP.text ?_
          refine Wy (.d (.lit (.string (toS ([] : List UInt8))))) [] (Omv rfl) ?_
          refine Walk.nil ?_
          refine Then.normal ?_
          refine AWP.ret ?_
          obtain rfl := Option.some.inj hm
          exact ret_i []

set_option maxRecDepth 20000 in
set_option maxHeartbeats 4000000 in
theorem ok_telltalelaw04_awake (r : Bool) (h : m_telltalelaw04_awake = some r) : GCall Try.prog 9 [] [] (.d (.lit (.bool r))) [] := by
  refine GCall.of_body (n := 79) (rs := [(.tmp 0)]) Try.func9 rfl rfl rfl ?_
  refine Ato ⟨(tu 79 []), [], 0⟩ ?_
  have hm := h
  unfold m_telltalelaw04_awake at hm
  refine AWP.seq ?_
  refine AWP.text ?_
  refine Wy (.d (.lit (.bool false))) [] (Omv rfl) ?_
  refine Walk.nil ?_
  refine Then.normal ?_
  refine Amk 0 0 ⟨(tp 79 []), [], 0⟩ ?_
  refine AWP.seq ?_
  refine AWP.text ?_
  obtain ⟨r12_0, hr12_0, hm⟩ := bnd hm
  refine Wy (.agg [(.d (byteD r12_0.Kind)), (.d (.lit (.int .i64 r12_0.N))), (.d (.lit (.int .u64 r12_0.Bits))), (.d (.lit (.string (toS r12_0.Text))))]) [] (Ocf [] [] [] 0 (ok_value_OfText ([97, 98] : List UInt8) r12_0 hr12_0) (fun a w => Try.call21 a w) rfl trivial) ?_
  obtain ⟨r13_0, hr13_0, hm⟩ := bnd hm
  refine Wy (.tup [(.own 0), (.d (.lit (.int .i64 r13_0.2)))]) [(0, (.arr 5 1 (List.length r13_0.1) (flatD encU8 r13_0.1)))] (Ocf [] [0] [] 0 (ok_value_Put ([] : List UInt8) r12_0 r13_0 hr13_0) (fun a w => Try.call10 a w) rfl trivial) ?_
  refine Wy (.tup [(.own 0), (.d (.lit (.int .i64 r13_0.2)))]) [] (Omv rfl) ?_
  refine Wy (.own 0) [] (Oex rfl) ?_
  refine Wy (.d (.lit (.int .i64 r13_0.2))) [] (Oex rfl) ?_
  refine Wy (.own 0) [] (Omv rfl) ?_
  refine Wy (.d (.lit (.int .i64 r13_0.2))) [] (Omv rfl) ?_
  refine Walk.nil ?_
  refine Then.normal ?_
  refine Amk 6 1 ⟨(tp 1 ((.own 0) :: ((.d (.lit (.int .i64 r13_0.2))) :: (tp 76 [])))), [(.arr 5 1 (List.length r13_0.1) (flatD encU8 r13_0.1))], 0⟩ ?_
  refine AWP.seq ?_
  refine AWP.text ?_
  obtain ⟨r17_1, hr17_1, hm⟩ := bnd hm
  refine Wy (.tup [(.agg [(.d (byteD r17_1.1.Kind)), (.d (.lit (.int .i64 r17_1.1.N))), (.d (.lit (.int .u64 r17_1.1.Bits))), (.d (.lit (.string (toS r17_1.1.Text))))]), (.d (.lit (.int .i64 r17_1.2.1))), (.d (.lit (.int .i64 r17_1.2.2)))]) [] (Ocf [] [] [] 0 (ok_value_Take ([2, 1] : List UInt8) 0 r17_1 hr17_1) (fun a w => Try.call16 a w) rfl trivial) ?_
  refine Wy (.tup [(.agg [(.d (byteD r17_1.1.Kind)), (.d (.lit (.int .i64 r17_1.1.N))), (.d (.lit (.int .u64 r17_1.1.Bits))), (.d (.lit (.string (toS r17_1.1.Text))))]), (.d (.lit (.int .i64 r17_1.2.1))), (.d (.lit (.int .i64 r17_1.2.2)))]) [] (Omv rfl) ?_
  refine Wy (.agg [(.d (byteD r17_1.1.Kind)), (.d (.lit (.int .i64 r17_1.1.N))), (.d (.lit (.int .u64 r17_1.1.Bits))), (.d (.lit (.string (toS r17_1.1.Text))))]) [] (Oex rfl) ?_
  refine Wy (.d (.lit (.int .i64 r17_1.2.1))) [] (Oex rfl) ?_
  refine Wy (.d (.lit (.int .i64 r17_1.2.2))) [] (Oex rfl) ?_
  refine Wy (.loc 1 0) [(1, (.box [(.d (byteD 0)), (.d (.lit (.int .i64 0))), (.d (.lit (.int .u64 0))), (.d (.lit (.string (toS ([] : List UInt8)))))]))] (Oal rfl) ?_
  refine Wy (.tup []) [(1, (.box [(.d (byteD r17_1.1.Kind)), (.d (.lit (.int .i64 r17_1.1.N))), (.d (.lit (.int .u64 r17_1.1.Bits))), (.d (.lit (.string (toS r17_1.1.Text))))]))] (Ost rfl) ?_
  refine Wy (.d (.lit (.int .i64 r17_1.2.1))) [] (Omv rfl) ?_
  refine Wy (.d (.lit (.int .i64 r17_1.2.2))) [] (Omv rfl) ?_
  refine Walk.nil ?_
  refine Then.normal ?_
  refine Amk 62 3 ⟨(tp 1 ((.own 0) :: ((.d (.lit (.int .i64 r13_0.2))) :: ((.loc 1 0) :: ((.d (.lit (.int .i64 r17_1.2.1))) :: ((.d (.lit (.int .i64 r17_1.2.2))) :: (tp 73 []))))))), [(.arr 5 1 (List.length r13_0.1) (flatD encU8 r13_0.1)), (.box [(.d (byteD r17_1.1.Kind)), (.d (.lit (.int .i64 r17_1.1.N))), (.d (.lit (.int .u64 r17_1.1.Bits))), (.d (.lit (.string (toS r17_1.1.Text))))])], 0⟩ ?_
  refine AWP.seq ?_
  refine AWP.text ?_
  refine Wy (.agg [(.d (byteD 2)), (.d (.lit (.int .i64 2))), (.d (.lit (.int .u64 0))), (.d (.lit (.string (toS ([] : List UInt8)))))]) [] (Obd rfl) ?_
  obtain ⟨r23_2, hr23_2, hm⟩ := bnd hm
  refine Wy (.tup [(.own 2), (.d (.lit (.int .i64 r23_2.2)))]) [(2, (.arr 5 1 (List.length r23_2.1) (flatD encU8 r23_2.1)))] (Ocf [] [2] [] 0 (ok_value_Put ([] : List UInt8) (GValue.mk 2 2 0 ([] : List UInt8)) r23_2 hr23_2) (fun a w => Try.call10 a w) rfl trivial) ?_
  refine Wy (.tup [(.own 2), (.d (.lit (.int .i64 r23_2.2)))]) [] (Omv rfl) ?_
  refine Wy (.own 2) [] (Oex rfl) ?_
  refine Wy (.d (.lit (.int .i64 r23_2.2))) [] (Oex rfl) ?_
  refine Wy (.own 2) [] (Omv rfl) ?_
  refine Wy (.d (.lit (.int .i64 r23_2.2))) [] (Omv rfl) ?_
  refine Walk.nil ?_
  refine Then.normal ?_
  refine Amk 190 3 ⟨(tp 1 ((.own 0) :: ((.d (.lit (.int .i64 r13_0.2))) :: ((.loc 1 0) :: ((.d (.lit (.int .i64 r17_1.2.1))) :: ((.d (.lit (.int .i64 r17_1.2.2))) :: (tp 1 ((.d (.lit (.int .i64 r23_2.2))) :: (tp 71 []))))))))), [(.arr 5 1 (List.length r13_0.1) (flatD encU8 r13_0.1)), (.box [(.d (byteD r17_1.1.Kind)), (.d (.lit (.int .i64 r17_1.1.N))), (.d (.lit (.int .u64 r17_1.1.Bits))), (.d (.lit (.string (toS r17_1.1.Text))))]), .gone], 0⟩ ?_
  refine AWP.seq ?_
  refine AWP.text ?_
  obtain ⟨r27_3, hr27_3, hm⟩ := bnd hm
  refine Wy (.tup [(.agg [(.d (byteD r27_3.1.Kind)), (.d (.lit (.int .i64 r27_3.1.N))), (.d (.lit (.int .u64 r27_3.1.Bits))), (.d (.lit (.string (toS r27_3.1.Text))))]), (.d (.lit (.int .i64 r27_3.2.1))), (.d (.lit (.int .i64 r27_3.2.2)))]) [] (Ocf [] [] [] 0 (ok_value_Take ([4, 25] : List UInt8) 0 r27_3 hr27_3) (fun a w => Try.call16 a w) rfl trivial) ?_
  refine Wy (.tup [(.agg [(.d (byteD r27_3.1.Kind)), (.d (.lit (.int .i64 r27_3.1.N))), (.d (.lit (.int .u64 r27_3.1.Bits))), (.d (.lit (.string (toS r27_3.1.Text))))]), (.d (.lit (.int .i64 r27_3.2.1))), (.d (.lit (.int .i64 r27_3.2.2)))]) [] (Omv rfl) ?_
  refine Wy (.agg [(.d (byteD r27_3.1.Kind)), (.d (.lit (.int .i64 r27_3.1.N))), (.d (.lit (.int .u64 r27_3.1.Bits))), (.d (.lit (.string (toS r27_3.1.Text))))]) [] (Oex rfl) ?_
  refine Wy (.d (.lit (.int .i64 r27_3.2.1))) [] (Oex rfl) ?_
  refine Wy (.d (.lit (.int .i64 r27_3.2.2))) [] (Oex rfl) ?_
  refine Wy (.loc 3 0) [(3, (.box [(.d (byteD 0)), (.d (.lit (.int .i64 0))), (.d (.lit (.int .u64 0))), (.d (.lit (.string (toS ([] : List UInt8)))))]))] (Oal rfl) ?_
  refine Wy (.tup []) [(3, (.box [(.d (byteD r27_3.1.Kind)), (.d (.lit (.int .i64 r27_3.1.N))), (.d (.lit (.int .u64 r27_3.1.Bits))), (.d (.lit (.string (toS r27_3.1.Text))))]))] (Ost rfl) ?_
  refine Wy (.d (.lit (.int .i64 r27_3.2.1))) [] (Omv rfl) ?_
  refine Wy (.d (.lit (.int .i64 r27_3.2.2))) [] (Omv rfl) ?_
  refine Walk.nil ?_
  refine Then.normal ?_
  refine Amk 1214 3 ⟨(tp 1 ((.own 0) :: ((.d (.lit (.int .i64 r13_0.2))) :: ((.loc 1 0) :: ((.d (.lit (.int .i64 r17_1.2.1))) :: ((.d (.lit (.int .i64 r17_1.2.2))) :: (tp 1 ((.d (.lit (.int .i64 r23_2.2))) :: (tp 2 ((.d (.lit (.int .i64 r27_3.2.2))) :: (tp 68 []))))))))))), [(.arr 5 1 (List.length r13_0.1) (flatD encU8 r13_0.1)), (.box [(.d (byteD r17_1.1.Kind)), (.d (.lit (.int .i64 r17_1.1.N))), (.d (.lit (.int .u64 r17_1.1.Bits))), (.d (.lit (.string (toS r17_1.1.Text))))]), .gone, .gone], 0⟩ ?_
  refine AWP.seq ?_
  refine Adr ?_
  refine Wy (.d (.lit (.int .i64 r13_0.2))) [] (Omv rfl) ?_
  refine Wy (.d (.lit (.bool (decide (r13_0.2 = 0))))) [] (Obn rfl (fun _ => hb_eql (k := .i64))) ?_
  rcases tf_ (decide (r13_0.2 = 0)) with hq33_4 | hq33_4
  · replace hm := cT hq33_4 hm
    refine Wy (.d (.lit (.bool true))) [] (Ocs (lit_tf (b := decide (r13_0.2 = 0)) hq33_4) (Omv rfl)) ?_
    refine Wy (.own 0) [] (Omv rfl) ?_
    refine Wy (.d (.lit (.string (toS r13_0.1)))) [] (Ocs (by kernel_rfl) (op_str rfl (e := 5) (by kernel_rfl) (by kernel_rfl) (by kernel_rfl) (y := (.own 0)) (by kernel_rfl) (ds := flatD encU8 r13_0.1) (off := 0) (n := List.length r13_0.1) (by kernel_rfl) (l := r13_0.1) flatU8_take rfl)) ?_
    refine Wy (.d (.lit (.bool (decide (r13_0.1 = ([4, 2, 97, 98] : List UInt8)))))) [] (Ocs (lit_tf (by simp only [toS_inj, ne_eq])) (op_bin rfl (a1 := .string (toS r13_0.1)) (a2 := .string (toS ([4, 2, 97, 98] : List UInt8))) (by kernel_rfl) (by kernel_rfl) (fun _ => hb_seql))) ?_
    refine Wy (.d (.lit (.bool (decide (r13_0.1 = ([4, 2, 97, 98] : List UInt8)))))) [] (OpT rfl) ?_
    rcases tf_ (decide (r13_0.1 = ([4, 2, 97, 98] : List UInt8))) with hq38_4 | hq38_4
    · replace hm := cT hq38_4 hm
      refine Wy (.d (.lit (.bool true))) [] (Ocs (lit_tf (b := decide (r13_0.1 = ([4, 2, 97, 98] : List UInt8))) hq38_4) (Omv rfl)) ?_
      refine Wy (.d (.lit (.int .i64 r17_1.2.2))) [] (Omv rfl) ?_
      refine Wy (.d (.lit (.bool (decide (r17_1.2.2 = 0))))) [] (Obn rfl (fun _ => hb_eql (k := .i64))) ?_
      refine Wy (.d (.lit (.bool (decide (r17_1.2.2 = 0))))) [] (OpT rfl) ?_
      rcases tf_ (decide (r17_1.2.2 = 0)) with hq42_4 | hq42_4
      · replace hm := cT hq42_4 hm
        refine Wy (.d (.lit (.bool true))) [] (Ocs (lit_tf (b := decide (r17_1.2.2 = 0)) hq42_4) (Omv rfl)) ?_
        refine Wy (.agg [(.d (byteD r17_1.1.Kind)), (.d (.lit (.int .i64 r17_1.1.N))), (.d (.lit (.int .u64 r17_1.1.Bits))), (.d (.lit (.string (toS r17_1.1.Text))))]) [] (Old rfl) ?_
        obtain ⟨r44_4, hr44_4, hm⟩ := bnd hm
        refine Wy (.agg [(.d (byteD r44_4.Kind)), (.d (.lit (.int .i64 r44_4.N))), (.d (.lit (.int .u64 r44_4.Bits))), (.d (.lit (.string (toS r44_4.Text))))]) [] (Ocf [] [] [] 0 (ok_value_OfFlag true r44_4 hr44_4) (fun a w => Try.call19 a w) rfl trivial) ?_
        obtain ⟨v45_4, hv45_4, hm⟩ := bnd hm; replace hv45_4 := Option.some.inj hv45_4
        refine Wy (.d (.lit (.bool v45_4))) [] (Ocs (Eq.trans (lit_tf (by simp only [toS_inj])) (congrArg (fun z => A.d (.lit (.bool z))) hv45_4)) (op_eql_struct rfl (la := [(.d (byteD r17_1.1.Kind)), (.d (.lit (.int .i64 r17_1.1.N))), (.d (.lit (.int .u64 r17_1.1.Bits))), (.d (.lit (.string (toS r17_1.1.Text))))]) (lb := [(.d (byteD r44_4.Kind)), (.d (.lit (.int .i64 r44_4.N))), (.d (.lit (.int .u64 r44_4.Bits))), (.d (.lit (.string (toS r44_4.Text))))]) (us := [.int .u8 ((r17_1.1.Kind.toNat : Nat) : Int), .int .i64 r17_1.1.N, .int .u64 r17_1.1.Bits, .string (toS r17_1.1.Text)]) (vs := [.int .u8 ((r44_4.Kind.toNat : Nat) : Int), .int .i64 r44_4.N, .int .u64 r44_4.Bits, .string (toS r44_4.Text)]) (r := (decide (((r17_1.1.Kind.toNat : Nat) : Int) = ((r44_4.Kind.toNat : Nat) : Int)) && (decide (r17_1.1.N = r44_4.N) && (decide (r17_1.1.Bits = r44_4.Bits) && (decide ((toS r17_1.1.Text) = (toS r44_4.Text)) && true))))) (by kernel_rfl) (by kernel_rfl) (by kernel_rfl) (by kernel_rfl) (by kernel_rfl))) ?_
        refine Wy (.d (.lit (.bool v45_4))) [] (OpT rfl) ?_
        rcases tf_ v45_4 with hq47_4 | hq47_4
        · replace hm := cT hq47_4 hm
          refine Wy (.d (.lit (.bool true))) [] (Ocs (lit_tf (b := v45_4) hq47_4) (Omv rfl)) ?_
          refine Wy (.d (.lit (.int .i64 r17_1.2.1))) [] (Omv rfl) ?_
          refine Wy (.d (.lit (.bool (decide (r17_1.2.1 = 2))))) [] (Obn rfl (fun _ => hb_eql (k := .i64))) ?_
          refine Wy (.d (.lit (.bool (decide (r17_1.2.1 = 2))))) [] (OpT rfl) ?_
          rcases tf_ (decide (r17_1.2.1 = 2)) with hq51_4 | hq51_4
          · replace hm := cT hq51_4 hm
            refine Wy (.d (.lit (.bool true))) [] (Ocs (lit_tf (b := decide (r17_1.2.1 = 2)) hq51_4) (Omv rfl)) ?_
            refine Wy (.d (.lit (.int .i64 r23_2.2))) [] (Omv rfl) ?_
            refine Wy (.d (.lit (.bool (decide (r23_2.2 = 8))))) [] (Obn rfl (fun _ => hb_eql (k := .i64))) ?_
            refine Wy (.d (.lit (.bool (decide (r23_2.2 = 8))))) [] (OpT rfl) ?_
            rcases tf_ (decide (r23_2.2 = 8)) with hq55_4 | hq55_4
            · replace hm := cT hq55_4 hm
              refine Wy (.d (.lit (.bool true))) [] (Ocs (lit_tf (b := decide (r23_2.2 = 8)) hq55_4) (Omv rfl)) ?_
              refine Wy (.d (.lit (.int .i64 r27_3.2.2))) [] (Omv rfl) ?_
              refine Wy (.d (.lit (.bool (decide (r27_3.2.2 = 5))))) [] (Obn rfl (fun _ => hb_eql (k := .i64))) ?_
              refine Wy (.d (.lit (.bool (decide (r27_3.2.2 = 5))))) [] (OpT rfl) ?_
              rcases tf_ (decide (r27_3.2.2 = 5)) with hq59_4 | hq59_4
              · replace hm := cT hq59_4 hm
                refine Wy (.d (.lit (.bool true))) [] (Ocs (lit_tf (b := decide (r27_3.2.2 = 5)) hq59_4) (Omv rfl)) ?_
                obtain ⟨r60_4, hr60_4, hm⟩ := bnd hm
                refine Wy (.agg [(.d (byteD r60_4.Kind)), (.d (.lit (.int .i64 r60_4.N))), (.d (.lit (.int .u64 r60_4.Bits))), (.d (.lit (.string (toS r60_4.Text))))]) [] (Ocf [] [] [] 0 (ok_value_OfInt 3 r60_4 hr60_4) (fun a w => Try.call18 a w) rfl trivial) ?_
                obtain ⟨r61_4, hr61_4, hm⟩ := bnd hm
                refine Wy (.agg [(.d (byteD r61_4.Kind)), (.d (.lit (.int .i64 r61_4.N))), (.d (.lit (.int .u64 r61_4.Bits))), (.d (.lit (.string (toS r61_4.Text))))]) [] (Ocf [] [] [] 0 (ok_value_OfFlag false r61_4 hr61_4) (fun a w => Try.call19 a w) rfl trivial) ?_
                obtain ⟨r62_4, hr62_4, hm⟩ := bnd hm
                refine Wy (.d (.lit (.int .i64 r62_4))) [] (Ocf [] [] [] 0 (ok_value_Rank r60_4 r61_4 r62_4 hr62_4) (fun a w => Try.call14 a w) rfl trivial) ?_
                refine Wy (.d (.lit (.bool (decide (r62_4 = (-1)))))) [] (Obn rfl (fun _ => hb_eql (k := .i64))) ?_
                refine Wy (.d (.lit (.bool (decide (r62_4 = (-1)))))) [] (OpT rfl) ?_
                rcases tf_ (decide (r62_4 = (-1))) with hq65_4 | hq65_4
                · replace hm := cT hq65_4 hm
                  refine Wy (.d (.lit (.bool true))) [] (Ocs (lit_tf (b := decide (r62_4 = (-1))) hq65_4) (Omv rfl)) ?_
                  obtain ⟨r66_4, hr66_4, hm⟩ := bnd hm
                  refine Wy (.agg [(.d (byteD r66_4.Kind)), (.d (.lit (.int .i64 r66_4.N))), (.d (.lit (.int .u64 r66_4.Bits))), (.d (.lit (.string (toS r66_4.Text))))]) [] (Ocf [] [] [] 0 (ok_value_OfReal 9223372036854775808 r66_4 hr66_4) (fun a w => Try.call20 a w) rfl trivial) ?_
                  obtain ⟨r67_4, hr67_4, hm⟩ := bnd hm
                  refine Wy (.agg [(.d (byteD r67_4.Kind)), (.d (.lit (.int .i64 r67_4.N))), (.d (.lit (.int .u64 r67_4.Bits))), (.d (.lit (.string (toS r67_4.Text))))]) [] (Ocf [] [] [] 0 (ok_value_OfReal 0 r67_4 hr67_4) (fun a w => Try.call20 a w) rfl trivial) ?_
                  obtain ⟨r68_4, hr68_4, hm⟩ := bnd hm
                  refine Wy (.d (.lit (.int .i64 r68_4))) [] (Ocf [] [] [] 0 (ok_value_Rank r66_4 r67_4 r68_4 hr68_4) (fun a w => Try.call14 a w) rfl trivial) ?_
                  refine Wy (.d (.lit (.bool (decide (r68_4 = (-1)))))) [] (Obn rfl (fun _ => hb_eql (k := .i64))) ?_
                  refine Wy (.d (.lit (.bool (decide (r68_4 = (-1)))))) [] (OpT rfl) ?_
                  rcases tf_ (decide (r68_4 = (-1))) with hq71_4 | hq71_4
                  · replace hm := cT hq71_4 hm
                    refine Wy (.d (.lit (.bool true))) [] (Ocs (lit_tf (b := decide (r68_4 = (-1))) hq71_4) (Omv rfl)) ?_
                    obtain ⟨r72_4, hr72_4, hm⟩ := bnd hm
                    refine Wy (.d (.lit (.string (toS r72_4)))) [] (Ocf [] [] [] 0 (ok_value_Word 3 r72_4 hr72_4) (fun a w => Try.call26 a w) rfl trivial) ?_
                    refine Wy (.d (.lit (.bool (decide (r72_4 = ([114, 101, 97, 108] : List UInt8)))))) [] (Ocs (lit_tf (by simp only [toS_inj, ne_eq])) (op_bin rfl (a1 := .string (toS r72_4)) (a2 := .string (toS ([114, 101, 97, 108] : List UInt8))) (by kernel_rfl) (by kernel_rfl) (fun _ => hb_seql))) ?_
                    refine Wy (.d (.lit (.bool (decide (r72_4 = ([114, 101, 97, 108] : List UInt8)))))) [] (OpT rfl) ?_
                    rcases tf_ (decide (r72_4 = ([114, 101, 97, 108] : List UInt8))) with hq75_4 | hq75_4
                    · replace hm := cT hq75_4 hm
                      refine Wy (.d (.lit (.bool true))) [] (Ocs (lit_tf (b := decide (r72_4 = ([114, 101, 97, 108] : List UInt8))) hq75_4) (Omv rfl)) ?_
                      refine Wy (.d (.lit (.bool true))) [] (OpT rfl) ?_
                      refine Wy (.d (.lit (.bool true))) [] (Omv rfl) ?_
                      refine Wy (.d (.lit (.bool true))) [] (OpT rfl) ?_
                      refine Wy (.d (.lit (.bool true))) [] (Omv rfl) ?_
                      refine Wdr ?_
                      refine Then.normal ?_
                      refine AWP.ret ?_
                      obtain rfl := Option.some.inj hm
                      exact ret_i []
                    · replace hm := cF hq75_4 hm
                      refine Wy (.d (.lit (.bool false))) [] (Ocs (lit_tf (b := decide (r72_4 = ([114, 101, 97, 108] : List UInt8))) hq75_4) (Omv rfl)) ?_
                      refine Wy (.d (.lit (.bool false))) [] (OpF rfl) ?_
                      refine Wy (.d (.lit (.bool false))) [] (Omv rfl) ?_
                      refine Wy (.d (.lit (.bool false))) [] (OpF rfl) ?_
                      refine Wy (.d (.lit (.bool false))) [] (Omv rfl) ?_
                      refine Wdr ?_
                      refine Then.normal ?_
                      refine AWP.ret ?_
                      obtain rfl := Option.some.inj hm
                      exact ret_i []
                  · replace hm := cF hq71_4 hm
                    refine Wy (.d (.lit (.bool false))) [] (Ocs (lit_tf (b := decide (r68_4 = (-1))) hq71_4) (Omv rfl)) ?_
                    refine Wn ?_
                    refine Wn ?_
                    refine Wy (.d (.lit (.bool false))) [] (OpF rfl) ?_
                    refine Wy (.d (.lit (.bool false))) [] (Omv rfl) ?_
                    refine Wy (.d (.lit (.bool false))) [] (OpF rfl) ?_
                    refine Wy (.d (.lit (.bool false))) [] (Omv rfl) ?_
                    refine Wy (.d (.lit (.bool false))) [] (OpF rfl) ?_
                    refine Wy (.d (.lit (.bool false))) [] (Omv rfl) ?_
                    refine Wdr ?_
                    refine Then.normal ?_
                    refine AWP.ret ?_
                    obtain rfl := Option.some.inj hm
                    exact ret_i []
                · replace hm := cF hq65_4 hm
                  refine Wy (.d (.lit (.bool false))) [] (Ocs (lit_tf (b := decide (r62_4 = (-1))) hq65_4) (Omv rfl)) ?_
                  refine Wn ?_
                  refine Wn ?_
                  refine Wn ?_
                  refine Wn ?_
                  refine Wy (.d (.lit (.bool false))) [] (OpF rfl) ?_
                  refine Wy (.d (.lit (.bool false))) [] (Omv rfl) ?_
                  refine Wn ?_
                  refine Wn ?_
                  refine Wy (.d (.lit (.bool false))) [] (OpF rfl) ?_
                  refine Wy (.d (.lit (.bool false))) [] (Omv rfl) ?_
                  refine Wy (.d (.lit (.bool false))) [] (OpF rfl) ?_
                  refine Wy (.d (.lit (.bool false))) [] (Omv rfl) ?_
                  refine Wy (.d (.lit (.bool false))) [] (OpF rfl) ?_
                  refine Wy (.d (.lit (.bool false))) [] (Omv rfl) ?_
                  refine Wdr ?_
                  refine Then.normal ?_
                  refine AWP.ret ?_
                  obtain rfl := Option.some.inj hm
                  exact ret_i []
              · replace hm := cF hq59_4 hm
                refine Wy (.d (.lit (.bool false))) [] (Ocs (lit_tf (b := decide (r27_3.2.2 = 5)) hq59_4) (Omv rfl)) ?_
                refine Wn ?_
                refine Wn ?_
                refine Wn ?_
                refine Wn ?_
                refine Wy (.d (.lit (.bool false))) [] (OpF rfl) ?_
                refine Wy (.d (.lit (.bool false))) [] (Omv rfl) ?_
                refine Wn ?_
                refine Wn ?_
                refine Wn ?_
                refine Wn ?_
                refine Wy (.d (.lit (.bool false))) [] (OpF rfl) ?_
                refine Wy (.d (.lit (.bool false))) [] (Omv rfl) ?_
                refine Wn ?_
                refine Wn ?_
                refine Wy (.d (.lit (.bool false))) [] (OpF rfl) ?_
                refine Wy (.d (.lit (.bool false))) [] (Omv rfl) ?_
                refine Wy (.d (.lit (.bool false))) [] (OpF rfl) ?_
                refine Wy (.d (.lit (.bool false))) [] (Omv rfl) ?_
                refine Wy (.d (.lit (.bool false))) [] (OpF rfl) ?_
                refine Wy (.d (.lit (.bool false))) [] (Omv rfl) ?_
                refine Wdr ?_
                refine Then.normal ?_
                refine AWP.ret ?_
                obtain rfl := Option.some.inj hm
                exact ret_i []
            · replace hm := cF hq55_4 hm
              refine Wy (.d (.lit (.bool false))) [] (Ocs (lit_tf (b := decide (r23_2.2 = 8)) hq55_4) (Omv rfl)) ?_
              refine Wn ?_
              refine Wn ?_
              refine Wy (.d (.lit (.bool false))) [] (OpF rfl) ?_
              refine Wy (.d (.lit (.bool false))) [] (Omv rfl) ?_
              refine Wn ?_
              refine Wn ?_
              refine Wn ?_
              refine Wn ?_
              refine Wy (.d (.lit (.bool false))) [] (OpF rfl) ?_
              refine Wy (.d (.lit (.bool false))) [] (Omv rfl) ?_
              refine Wn ?_
              refine Wn ?_
              refine Wn ?_
              refine Wn ?_
              refine Wy (.d (.lit (.bool false))) [] (OpF rfl) ?_
              refine Wy (.d (.lit (.bool false))) [] (Omv rfl) ?_
              refine Wn ?_
              refine Wn ?_
              refine Wy (.d (.lit (.bool false))) [] (OpF rfl) ?_
              refine Wy (.d (.lit (.bool false))) [] (Omv rfl) ?_
              refine Wy (.d (.lit (.bool false))) [] (OpF rfl) ?_
              refine Wy (.d (.lit (.bool false))) [] (Omv rfl) ?_
              refine Wy (.d (.lit (.bool false))) [] (OpF rfl) ?_
              refine Wy (.d (.lit (.bool false))) [] (Omv rfl) ?_
              refine Wdr ?_
              refine Then.normal ?_
              refine AWP.ret ?_
              obtain rfl := Option.some.inj hm
              exact ret_i []
          · replace hm := cF hq51_4 hm
            refine Wy (.d (.lit (.bool false))) [] (Ocs (lit_tf (b := decide (r17_1.2.1 = 2)) hq51_4) (Omv rfl)) ?_
            refine Wn ?_
            refine Wn ?_
            refine Wy (.d (.lit (.bool false))) [] (OpF rfl) ?_
            refine Wy (.d (.lit (.bool false))) [] (Omv rfl) ?_
            refine Wn ?_
            refine Wn ?_
            refine Wy (.d (.lit (.bool false))) [] (OpF rfl) ?_
            refine Wy (.d (.lit (.bool false))) [] (Omv rfl) ?_
            refine Wn ?_
            refine Wn ?_
            refine Wn ?_
            refine Wn ?_
            refine Wy (.d (.lit (.bool false))) [] (OpF rfl) ?_
            refine Wy (.d (.lit (.bool false))) [] (Omv rfl) ?_
            refine Wn ?_
            refine Wn ?_
            refine Wn ?_
            refine Wn ?_
            refine Wy (.d (.lit (.bool false))) [] (OpF rfl) ?_
            refine Wy (.d (.lit (.bool false))) [] (Omv rfl) ?_
            refine Wn ?_
            refine Wn ?_
            refine Wy (.d (.lit (.bool false))) [] (OpF rfl) ?_
            refine Wy (.d (.lit (.bool false))) [] (Omv rfl) ?_
            refine Wy (.d (.lit (.bool false))) [] (OpF rfl) ?_
            refine Wy (.d (.lit (.bool false))) [] (Omv rfl) ?_
            refine Wy (.d (.lit (.bool false))) [] (OpF rfl) ?_
            refine Wy (.d (.lit (.bool false))) [] (Omv rfl) ?_
            refine Wdr ?_
            refine Then.normal ?_
            refine AWP.ret ?_
            obtain rfl := Option.some.inj hm
            exact ret_i []
        · replace hm := cF hq47_4 hm
          refine Wy (.d (.lit (.bool false))) [] (Ocs (lit_tf (b := v45_4) hq47_4) (Omv rfl)) ?_
          refine Wn ?_
          refine Wn ?_
          refine Wy (.d (.lit (.bool false))) [] (OpF rfl) ?_
          refine Wy (.d (.lit (.bool false))) [] (Omv rfl) ?_
          refine Wn ?_
          refine Wn ?_
          refine Wy (.d (.lit (.bool false))) [] (OpF rfl) ?_
          refine Wy (.d (.lit (.bool false))) [] (Omv rfl) ?_
          refine Wn ?_
          refine Wn ?_
          refine Wy (.d (.lit (.bool false))) [] (OpF rfl) ?_
          refine Wy (.d (.lit (.bool false))) [] (Omv rfl) ?_
          refine Wn ?_
          refine Wn ?_
          refine Wn ?_
          refine Wn ?_
          refine Wy (.d (.lit (.bool false))) [] (OpF rfl) ?_
          refine Wy (.d (.lit (.bool false))) [] (Omv rfl) ?_
          refine Wn ?_
          refine Wn ?_
          refine Wn ?_
          refine Wn ?_
          refine Wy (.d (.lit (.bool false))) [] (OpF rfl) ?_
          refine Wy (.d (.lit (.bool false))) [] (Omv rfl) ?_
          refine Wn ?_
          refine Wn ?_
          refine Wy (.d (.lit (.bool false))) [] (OpF rfl) ?_
          refine Wy (.d (.lit (.bool false))) [] (Omv rfl) ?_
          refine Wy (.d (.lit (.bool false))) [] (OpF rfl) ?_
          refine Wy (.d (.lit (.bool false))) [] (Omv rfl) ?_
          refine Wy (.d (.lit (.bool false))) [] (OpF rfl) ?_
          refine Wy (.d (.lit (.bool false))) [] (Omv rfl) ?_
          refine Wdr ?_
          refine Then.normal ?_
          refine AWP.ret ?_
          obtain rfl := Option.some.inj hm
          exact ret_i []
      · replace hm := cF hq42_4 hm
        refine Wy (.d (.lit (.bool false))) [] (Ocs (lit_tf (b := decide (r17_1.2.2 = 0)) hq42_4) (Omv rfl)) ?_
        refine Wn ?_
        refine Wn ?_
        refine Wn ?_
        refine Wy (.d (.lit (.bool false))) [] (OpF rfl) ?_
        refine Wy (.d (.lit (.bool false))) [] (Omv rfl) ?_
        refine Wn ?_
        refine Wn ?_
        refine Wy (.d (.lit (.bool false))) [] (OpF rfl) ?_
        refine Wy (.d (.lit (.bool false))) [] (Omv rfl) ?_
        refine Wn ?_
        refine Wn ?_
        refine Wy (.d (.lit (.bool false))) [] (OpF rfl) ?_
        refine Wy (.d (.lit (.bool false))) [] (Omv rfl) ?_
        refine Wn ?_
        refine Wn ?_
        refine Wy (.d (.lit (.bool false))) [] (OpF rfl) ?_
        refine Wy (.d (.lit (.bool false))) [] (Omv rfl) ?_
        refine Wn ?_
        refine Wn ?_
        refine Wn ?_
        refine Wn ?_
        refine Wy (.d (.lit (.bool false))) [] (OpF rfl) ?_
        refine Wy (.d (.lit (.bool false))) [] (Omv rfl) ?_
        refine Wn ?_
        refine Wn ?_
        refine Wn ?_
        refine Wn ?_
        refine Wy (.d (.lit (.bool false))) [] (OpF rfl) ?_
        refine Wy (.d (.lit (.bool false))) [] (Omv rfl) ?_
        refine Wn ?_
        refine Wn ?_
        refine Wy (.d (.lit (.bool false))) [] (OpF rfl) ?_
        refine Wy (.d (.lit (.bool false))) [] (Omv rfl) ?_
        refine Wy (.d (.lit (.bool false))) [] (OpF rfl) ?_
        refine Wy (.d (.lit (.bool false))) [] (Omv rfl) ?_
        refine Wy (.d (.lit (.bool false))) [] (OpF rfl) ?_
        refine Wy (.d (.lit (.bool false))) [] (Omv rfl) ?_
        refine Wdr ?_
        refine Then.normal ?_
        refine AWP.ret ?_
        obtain rfl := Option.some.inj hm
        exact ret_i []
    · replace hm := cF hq38_4 hm
      refine Wy (.d (.lit (.bool false))) [] (Ocs (lit_tf (b := decide (r13_0.1 = ([4, 2, 97, 98] : List UInt8))) hq38_4) (Omv rfl)) ?_
      refine Wn ?_
      refine Wn ?_
      refine Wy (.d (.lit (.bool false))) [] (OpF rfl) ?_
      refine Wy (.d (.lit (.bool false))) [] (Omv rfl) ?_
      refine Wn ?_
      refine Wn ?_
      refine Wn ?_
      refine Wy (.d (.lit (.bool false))) [] (OpF rfl) ?_
      refine Wy (.d (.lit (.bool false))) [] (Omv rfl) ?_
      refine Wn ?_
      refine Wn ?_
      refine Wy (.d (.lit (.bool false))) [] (OpF rfl) ?_
      refine Wy (.d (.lit (.bool false))) [] (Omv rfl) ?_
      refine Wn ?_
      refine Wn ?_
      refine Wy (.d (.lit (.bool false))) [] (OpF rfl) ?_
      refine Wy (.d (.lit (.bool false))) [] (Omv rfl) ?_
      refine Wn ?_
      refine Wn ?_
      refine Wy (.d (.lit (.bool false))) [] (OpF rfl) ?_
      refine Wy (.d (.lit (.bool false))) [] (Omv rfl) ?_
      refine Wn ?_
      refine Wn ?_
      refine Wn ?_
      refine Wn ?_
      refine Wy (.d (.lit (.bool false))) [] (OpF rfl) ?_
      refine Wy (.d (.lit (.bool false))) [] (Omv rfl) ?_
      refine Wn ?_
      refine Wn ?_
      refine Wn ?_
      refine Wn ?_
      refine Wy (.d (.lit (.bool false))) [] (OpF rfl) ?_
      refine Wy (.d (.lit (.bool false))) [] (Omv rfl) ?_
      refine Wn ?_
      refine Wn ?_
      refine Wy (.d (.lit (.bool false))) [] (OpF rfl) ?_
      refine Wy (.d (.lit (.bool false))) [] (Omv rfl) ?_
      refine Wy (.d (.lit (.bool false))) [] (OpF rfl) ?_
      refine Wy (.d (.lit (.bool false))) [] (Omv rfl) ?_
      refine Wy (.d (.lit (.bool false))) [] (OpF rfl) ?_
      refine Wy (.d (.lit (.bool false))) [] (Omv rfl) ?_
      refine Wdr ?_
      refine Then.normal ?_
      refine AWP.ret ?_
      obtain rfl := Option.some.inj hm
      exact ret_i []
  · replace hm := cF hq33_4 hm
    refine Wy (.d (.lit (.bool false))) [] (Ocs (lit_tf (b := decide (r13_0.2 = 0)) hq33_4) (Omv rfl)) ?_
    refine Wn ?_
    refine Wn ?_
    refine Wn ?_
    refine Wy (.d (.lit (.bool false))) [] (OpF rfl) ?_
    refine Wy (.d (.lit (.bool false))) [] (Omv rfl) ?_
    refine Wn ?_
    refine Wn ?_
    refine Wy (.d (.lit (.bool false))) [] (OpF rfl) ?_
    refine Wy (.d (.lit (.bool false))) [] (Omv rfl) ?_
    refine Wn ?_
    refine Wn ?_
    refine Wn ?_
    refine Wy (.d (.lit (.bool false))) [] (OpF rfl) ?_
    refine Wy (.d (.lit (.bool false))) [] (Omv rfl) ?_
    refine Wn ?_
    refine Wn ?_
    refine Wy (.d (.lit (.bool false))) [] (OpF rfl) ?_
    refine Wy (.d (.lit (.bool false))) [] (Omv rfl) ?_
    refine Wn ?_
    refine Wn ?_
    refine Wy (.d (.lit (.bool false))) [] (OpF rfl) ?_
    refine Wy (.d (.lit (.bool false))) [] (Omv rfl) ?_
    refine Wn ?_
    refine Wn ?_
    refine Wy (.d (.lit (.bool false))) [] (OpF rfl) ?_
    refine Wy (.d (.lit (.bool false))) [] (Omv rfl) ?_
    refine Wn ?_
    refine Wn ?_
    refine Wn ?_
    refine Wn ?_
    refine Wy (.d (.lit (.bool false))) [] (OpF rfl) ?_
    refine Wy (.d (.lit (.bool false))) [] (Omv rfl) ?_
    refine Wn ?_
    refine Wn ?_
    refine Wn ?_
    refine Wn ?_
    refine Wy (.d (.lit (.bool false))) [] (OpF rfl) ?_
    refine Wy (.d (.lit (.bool false))) [] (Omv rfl) ?_
    refine Wn ?_
    refine Wn ?_
    refine Wy (.d (.lit (.bool false))) [] (OpF rfl) ?_
    refine Wy (.d (.lit (.bool false))) [] (Omv rfl) ?_
    refine Wy (.d (.lit (.bool false))) [] (OpF rfl) ?_
    refine Wy (.d (.lit (.bool false))) [] (Omv rfl) ?_
    refine Wy (.d (.lit (.bool false))) [] (OpF rfl) ?_
    refine Wy (.d (.lit (.bool false))) [] (Omv rfl) ?_
    refine Wdr ?_
    refine Then.normal ?_
    refine AWP.ret ?_
    obtain rfl := Option.some.inj hm
    exact ret_i []

set_option maxRecDepth 20000 in
set_option maxHeartbeats 4000000 in
theorem ok_telltaleref04_OfInt (p0 : Int) (r : GValue) (h : m_telltaleref04_OfInt p0 = some r) : GCall Try.prog 22 [(.d (.lit (.int .i64 p0)))] [] (.agg [(.d (byteD r.Kind)), (.d (.lit (.int .i64 r.N))), (.d (.lit (.int .u64 r.Bits))), (.d (.lit (.string (toS r.Text))))]) [] := by
  refine GCall.of_body (n := 7) (rs := [(.cell 2 24)]) Try.func22 rfl rfl rfl ?_
  refine Ato ⟨((.d (.lit (.int .i64 p0))) :: (tu 6 [])), [], 0⟩ ?_
  have hm := h
  unfold m_telltaleref04_OfInt at hm
  refine AWP.seq ?_
  refine AWP.text ?_
  refine Wy (.loc 0 0) [(0, (.box [(.d (byteD 0)), (.d (.lit (.int .i64 0))), (.d (.lit (.int .u64 0))), (.d (.lit (.string (toS ([] : List UInt8)))))]))] (Oal rfl) ?_
  refine Walk.nil ?_
  refine Then.normal ?_
  refine Amk 5 1 ⟨((.d (.lit (.int .i64 p0))) :: (tp 1 ((.loc 0 0) :: (tp 4 [])))), [(.box [(.d (byteD 0)), (.d (.lit (.int .i64 0))), (.d (.lit (.int .u64 0))), (.d (.lit (.string (toS ([] : List UInt8)))))])], 0⟩ ?_
  refine AWP.seq ?_
  refine AWP.text ?_
  refine Wy (.d (.lit (.int .i64 p0))) [] (Omv rfl) ?_
  refine Wy (.d (.lit (.int .i64 (min 4611686018427387904 p0)))) [] (op_bi2 rfl (a1 := .int .i64 4611686018427387904) (a2 := .int .i64 p0) (by kernel_rfl) (by kernel_rfl) hb_min) ?_
  refine Wy (.d (.lit (.int .i64 (max (-4611686018427387904) (min 4611686018427387904 p0))))) [] (op_bi2 rfl (a1 := .int .i64 (-4611686018427387904)) (a2 := .int .i64 (min 4611686018427387904 p0)) (by kernel_rfl) (by kernel_rfl) hb_max) ?_
  refine Wy (.agg [(.d (byteD 1)), (.d (.lit (.int .i64 (max (-4611686018427387904) (min 4611686018427387904 p0))))), (.d (.lit (.int .u64 0))), (.d (.lit (.string (toS ([] : List UInt8)))))]) [] (Obd rfl) ?_
  refine Wy (.tup []) [(0, (.box [(.d (byteD 1)), (.d (.lit (.int .i64 (max (-4611686018427387904) (min 4611686018427387904 p0))))), (.d (.lit (.int .u64 0))), (.d (.lit (.string (toS ([] : List UInt8)))))]))] (Ost rfl) ?_
  refine Walk.nil ?_
  refine Then.normal ?_
  refine AWP.ret ?_
  obtain rfl := Option.some.inj hm
  exact ret_i []

set_option maxRecDepth 20000 in
set_option maxHeartbeats 4000000 in
theorem ok_telltaleref04_OfFlag (p0 : Bool) (r : GValue) (h : m_telltaleref04_OfFlag p0 = some r) : GCall Try.prog 23 [(.d (.lit (.bool p0)))] [] (.agg [(.d (byteD r.Kind)), (.d (.lit (.int .i64 r.N))), (.d (.lit (.int .u64 r.Bits))), (.d (.lit (.string (toS r.Text))))]) [] := by
  refine GCall.of_body (n := 6) (rs := [(.cell 2 24)]) Try.func23 rfl rfl rfl ?_
  refine Ato ⟨((.d (.lit (.bool p0))) :: (tu 5 [])), [], 0⟩ ?_
  have hm := h
  unfold m_telltaleref04_OfFlag at hm
  refine AWP.seq ?_
  refine AWP.text ?_
  refine Wy (.loc 0 0) [(0, (.box [(.d (byteD 0)), (.d (.lit (.int .i64 0))), (.d (.lit (.int .u64 0))), (.d (.lit (.string (toS ([] : List UInt8)))))]))] (Oal rfl) ?_
  refine Walk.nil ?_
  refine Then.normal ?_
  refine Amk 5 1 ⟨((.d (.lit (.bool p0))) :: (tp 1 ((.loc 0 0) :: (tp 3 [])))), [(.box [(.d (byteD 0)), (.d (.lit (.int .i64 0))), (.d (.lit (.int .u64 0))), (.d (.lit (.string (toS ([] : List UInt8)))))])], 0⟩ ?_
  refine AWP.seq ?_
  refine AWP.seq ?_
  refine AWP.text ?_
  refine Wy (.d (.lit (.bool p0))) [] (Omv rfl) ?_
  refine Walk.nil ?_
  refine Then.normal ?_
  refine Amk 12 1 ⟨(tp 2 ((.loc 0 0) :: ((.d (.lit (.bool p0))) :: (tp 2 [])))), [(.box [(.d (byteD 0)), (.d (.lit (.int .i64 0))), (.d (.lit (.int .u64 0))), (.d (.lit (.string (toS ([] : List UInt8)))))])], 0⟩ ?_
  rcases tf_ p0 with hc3_0 | hc3_0
  · replace hm := cT hc3_0 hm
    refine AWP.if_ true (Eq.trans (by kernel_rfl) (lit_tf (b := p0) hc3_0)) ?_
    refine AWP.seq ?_
    refine AWP.text ?_
    refine Wy (.agg [(.d (byteD 2)), (.d (.lit (.int .i64 1))), (.d (.lit (.int .u64 0))), (.d (.lit (.string (toS ([] : List UInt8)))))]) [] (Obd rfl) ?_
    refine Wy (.tup []) [(0, (.box [(.d (byteD 2)), (.d (.lit (.int .i64 1))), (.d (.lit (.int .u64 0))), (.d (.lit (.string (toS ([] : List UInt8)))))]))] (Ost rfl) ?_
    refine Walk.nil ?_
    refine Then.normal ?_
    refine AWP.ret ?_
    refine Then.ret ?_
    obtain rfl := Option.some.inj hm
    exact ret_i []
  · replace hm := cF hc3_0 hm
    refine AWP.if_ false (Eq.trans (by kernel_rfl) (lit_tf (b := p0) hc3_0)) ?_
    refine AWP.skip ?_
    refine Then.normal ?_
    refine Amk 4 1 ⟨(tp 2 ((.loc 0 0) :: (tp 3 []))), [(.box [(.d (byteD 0)), (.d (.lit (.int .i64 0))), (.d (.lit (.int .u64 0))), (.d (.lit (.string (toS ([] : List UInt8)))))])], 0⟩ ?_
    refine AWP.seq ?_
    refine AWP.text ?_
    refine Wy (.agg [(.d (byteD 2)), (.d (.lit (.int .i64 0))), (.d (.lit (.int .u64 0))), (.d (.lit (.string (toS ([] : List UInt8)))))]) [] (Obd rfl) ?_
    refine Wy (.tup []) [(0, (.box [(.d (byteD 2)), (.d (.lit (.int .i64 0))), (.d (.lit (.int .u64 0))), (.d (.lit (.string (toS ([] : List UInt8)))))]))] (Ost rfl) ?_
    refine Walk.nil ?_
    refine Then.normal ?_
    refine AWP.ret ?_
    obtain rfl := Option.some.inj hm
    exact ret_i []

set_option maxRecDepth 20000 in
set_option maxHeartbeats 4000000 in
theorem ok_telltaleref03_Exp (p0 : Int) (r : Int) (h : m_telltaleref03_Exp p0 = some r) : GCall Try.prog 67 [(.d (.lit (.int .u64 p0)))] [] (.d (.lit (.int .i64 r))) [] := by
  refine GCall.of_body (n := 7) (rs := [(.tmp 2)]) Try.func67 rfl rfl rfl ?_
  refine Ato ⟨((.d (.lit (.int .u64 p0))) :: (tu 6 [])), [], 0⟩ ?_
  have hm := h
  unfold m_telltaleref03_Exp at hm
  refine AWP.seq ?_
  refine AWP.text ?_
  refine Wy (.d (.lit (.int .i64 0))) [] (Omv rfl) ?_
  refine Walk.nil ?_
  refine Then.normal ?_
  refine Amk 1 0 ⟨((.d (.lit (.int .u64 p0))) :: (tp 6 [])), [], 0⟩ ?_
  refine AWP.seq ?_
  refine AWP.text ?_
  refine Wy (.d (.lit (.int .u64 p0))) [] (Omv rfl) ?_
  refine Wy (.d (.lit (.int .u64 (IntKind.u64.wrap (Int.tdiv p0 4503599627370496))))) [] (Ocs (by kernel_rfl) (op_bin rfl (a1 := .int .u64 p0) (a2 := .int .u64 4503599627370496) (by kernel_rfl) (by kernel_rfl) (fun _ => hb_quo (by decide)))) ?_
  refine Wy (.d (.lit (.int .u64 (Int.tmod (IntKind.u64.wrap (Int.tdiv p0 4503599627370496)) 2048)))) [] (Ocs (by kernel_rfl) (op_bin rfl (a1 := .int .u64 (IntKind.u64.wrap (Int.tdiv p0 4503599627370496))) (a2 := .int .u64 2048) (by kernel_rfl) (by kernel_rfl) (fun _ => hb_rem (by decide)))) ?_
  refine Wy (.d (.lit (.int .i64 (IntKind.i64.wrap (Int.tmod (IntKind.u64.wrap (Int.tdiv p0 4503599627370496)) 2048))))) [] (Ocs (by kernel_rfl) (op_convert rfl (a1 := .int .u64 (Int.tmod (IntKind.u64.wrap (Int.tdiv p0 4503599627370496)) 2048)) (by kernel_rfl) (run_conv (ds := .int .u64) (k' := .i64) (by kernel_rfl) (by kernel_rfl)))) ?_
  refine Wy (.d (.lit (.int .i64 (IntKind.i64.wrap (Int.tmod (IntKind.u64.wrap (Int.tdiv p0 4503599627370496)) 2048))))) [] (Omv rfl) ?_
  refine Walk.nil ?_
  refine Then.normal ?_
  refine AWP.ret ?_
  obtain rfl := Option.some.inj hm
  exact ret_i []

set_option maxRecDepth 20000 in
set_option maxHeartbeats 4000000 in
theorem ok_telltaleref03_Frac (p0 : Int) (r : Int) (h : m_telltaleref03_Frac p0 = some r) : GCall Try.prog 68 [(.d (.lit (.int .u64 p0)))] [] (.d (.lit (.int .u64 r))) [] := by
  refine GCall.of_body (n := 5) (rs := [(.tmp 2)]) Try.func68 rfl rfl rfl ?_
  refine Ato ⟨((.d (.lit (.int .u64 p0))) :: (tu 4 [])), [], 0⟩ ?_
  have hm := h
  unfold m_telltaleref03_Frac at hm
  refine AWP.seq ?_
  refine AWP.text ?_
  refine Wy (.d (.lit (.int .u64 0))) [] (Omv rfl) ?_
  refine Walk.nil ?_
  refine Then.normal ?_
  refine Amk 1 0 ⟨((.d (.lit (.int .u64 p0))) :: (tp 4 [])), [], 0⟩ ?_
  refine AWP.seq ?_
  refine AWP.text ?_
  refine Wy (.d (.lit (.int .u64 p0))) [] (Omv rfl) ?_
  refine Wy (.d (.lit (.int .u64 (Int.tmod p0 4503599627370496)))) [] (Ocs (by kernel_rfl) (op_bin rfl (a1 := .int .u64 p0) (a2 := .int .u64 4503599627370496) (by kernel_rfl) (by kernel_rfl) (fun _ => hb_rem (by decide)))) ?_
  refine Wy (.d (.lit (.int .u64 (Int.tmod p0 4503599627370496)))) [] (Omv rfl) ?_
  refine Walk.nil ?_
  refine Then.normal ?_
  refine AWP.ret ?_
  obtain rfl := Option.some.inj hm
  exact ret_i []

set_option maxRecDepth 20000 in
set_option maxHeartbeats 4000000 in
theorem ok_telltaleref03_Kind (p0 : Int) (r : UInt8) (h : m_telltaleref03_Kind p0 = some r) : GCall Try.prog 54 [(.d (.lit (.int .u64 p0)))] [] (.d (byteD r)) [] := by
  refine GCall.of_body (n := 20) (rs := [(.tmp 2)]) Try.func54 rfl rfl rfl ?_
  refine Ato ⟨((.d (.lit (.int .u64 p0))) :: (tu 19 [])), [], 0⟩ ?_
  have hm := h
  unfold m_telltaleref03_Kind at hm
  refine AWP.seq ?_
  refine AWP.text ?_
  refine Wy (.d (byteD 0)) [] (Omv rfl) ?_
  refine Walk.nil ?_
  refine Then.normal ?_
  refine Amk 1 0 ⟨((.d (.lit (.int .u64 p0))) :: (tp 19 [])), [], 0⟩ ?_
  refine AWP.cutJ (α := Unit) (fun x => match x with | () => (⟨((.d (.lit (.int .u64 p0))) :: (tp 19 [])), [], 0⟩ : St)) (fun x => match x with | () => m_telltaleref03_Kind_j1 p0 = some r) ?_ (fun J1 => ?_)
  · rintro ⟨⟩ hm
    try dsimp only at hm ⊢
    unfold m_telltaleref03_Kind_j1 at hm
    refine AWP.seq ?_
    refine AWP.seq ?_
    refine AWP.text ?_
    refine Wy (.d (.lit (.int .u64 p0))) [] (Omv rfl) ?_
    obtain ⟨r12_2, hr12_2, hm⟩ := bnd hm
    refine Wy (.d (.lit (.int .i64 r12_2))) [] (Ocf [] [] [] 0 (ok_telltaleref03_Exp p0 r12_2 hr12_2) (fun a w => Try.call67 a w) rfl trivial) ?_
    refine Wy (.d (.lit (.bool (decide (r12_2 = 2047))))) [] (Obn rfl (fun _ => hb_eql (k := .i64))) ?_
    refine Walk.nil ?_
    refine Then.normal ?_
    refine Amk 8193 0 ⟨((.d (.lit (.int .u64 p0))) :: (tp 12 ((.d (.lit (.bool (decide (r12_2 = 2047))))) :: (tp 6 [])))), [], 0⟩ ?_
    rcases tf_ (decide (r12_2 = 2047)) with hc13_5 | hc13_5
    · replace hm := cT hc13_5 hm
      refine AWP.if_ true (Eq.trans (by kernel_rfl) (lit_tf (b := decide (r12_2 = 2047)) hc13_5)) ?_
      refine AWP.seq ?_
      refine AWP.text ?_
      refine Wy (.d (byteD 4)) [] (Omv rfl) ?_
      refine Walk.nil ?_
      refine Then.normal ?_
      refine AWP.ret ?_
      refine Then.ret ?_
      obtain rfl := Option.some.inj hm
      exact ret_i []
    · replace hm := cF hc13_5 hm
      refine AWP.if_ false (Eq.trans (by kernel_rfl) (lit_tf (b := decide (r12_2 = 2047)) hc13_5)) ?_
      refine AWP.skip ?_
      refine Then.normal ?_
      refine Amk 1 0 ⟨((.d (.lit (.int .u64 p0))) :: (tp 19 [])), [], 0⟩ ?_
      refine AWP.seq ?_
      refine AWP.seq ?_
      refine AWP.text ?_
      refine Wy (.d (.lit (.int .u64 p0))) [] (Omv rfl) ?_
      obtain ⟨r15_3, hr15_3, hm⟩ := bnd hm
      refine Wy (.d (.lit (.int .i64 r15_3))) [] (Ocf [] [] [] 0 (ok_telltaleref03_Exp p0 r15_3 hr15_3) (fun a w => Try.call67 a w) rfl trivial) ?_
      refine Wy (.d (.lit (.bool (decide (r15_3 ≠ 0))))) [] (Obn rfl (fun _ => hb_neq (k := .i64))) ?_
      refine Walk.nil ?_
      refine Then.normal ?_
      refine Amk 65537 0 ⟨((.d (.lit (.int .u64 p0))) :: (tp 15 ((.d (.lit (.bool (decide (r15_3 ≠ 0))))) :: (tp 3 [])))), [], 0⟩ ?_
      rcases tf_ (decide (r15_3 ≠ 0)) with hc16_6 | hc16_6
      · replace hm := cT hc16_6 hm
        refine AWP.if_ true (Eq.trans (by kernel_rfl) (lit_tf (b := decide (r15_3 ≠ 0)) hc16_6)) ?_
        refine AWP.seq ?_
        refine AWP.text ?_
        refine Wy (.d (byteD 3)) [] (Omv rfl) ?_
        refine Walk.nil ?_
        refine Then.normal ?_
        refine AWP.ret ?_
        refine Then.ret ?_
        obtain rfl := Option.some.inj hm
        exact ret_i []
      · replace hm := cF hc16_6 hm
        refine AWP.if_ false (Eq.trans (by kernel_rfl) (lit_tf (b := decide (r15_3 ≠ 0)) hc16_6)) ?_
        refine AWP.skip ?_
        refine Then.normal ?_
        refine Amk 1 0 ⟨((.d (.lit (.int .u64 p0))) :: (tp 19 [])), [], 0⟩ ?_
        refine AWP.seq ?_
        refine AWP.seq ?_
        refine AWP.text ?_
        refine Wy (.d (.lit (.int .u64 p0))) [] (Omv rfl) ?_
        obtain ⟨r18_4, hr18_4, hm⟩ := bnd hm
        refine Wy (.d (.lit (.int .u64 r18_4))) [] (Ocf [] [] [] 0 (ok_telltaleref03_Frac p0 r18_4 hr18_4) (fun a w => Try.call68 a w) rfl trivial) ?_
        refine Wy (.d (.lit (.bool (decide (r18_4 ≠ 0))))) [] (Obn rfl (fun _ => hb_neq (k := .u64))) ?_
        refine Walk.nil ?_
        refine Then.normal ?_
        refine Amk 524288 0 ⟨(tp 19 ((.d (.lit (.bool (decide (r18_4 ≠ 0))))) :: [])), [], 0⟩ ?_
        rcases tf_ (decide (r18_4 ≠ 0)) with hc19_7 | hc19_7
        · replace hm := cT hc19_7 hm
          refine AWP.if_ true (Eq.trans (by kernel_rfl) (lit_tf (b := decide (r18_4 ≠ 0)) hc19_7)) ?_
          refine AWP.seq ?_
          refine AWP.text ?_
          refine Wy (.d (byteD 2)) [] (Omv rfl) ?_
          refine Walk.nil ?_
          refine Then.normal ?_
          refine AWP.ret ?_
          refine Then.ret ?_
          obtain rfl := Option.some.inj hm
          exact ret_i []
        · replace hm := cF hc19_7 hm
          refine AWP.if_ false (Eq.trans (by kernel_rfl) (lit_tf (b := decide (r18_4 ≠ 0)) hc19_7)) ?_
          refine AWP.skip ?_
          refine Then.normal ?_
          refine Amk 0 0 ⟨(tp 20 []), [], 0⟩ ?_
          refine AWP.seq ?_
          refine AWP.text ?_
          refine Wy (.d (byteD 1)) [] (Omv rfl) ?_
          refine Walk.nil ?_
          refine Then.normal ?_
          refine AWP.ret ?_
          obtain rfl := Option.some.inj hm
          exact ret_i []
  refine AWP.seq ?_
  refine AWP.seq ?_
  refine AWP.text ?_
  refine Wy (.d (.lit (.int .u64 p0))) [] (Omv rfl) ?_
  obtain ⟨r4_0, hr4_0, hm⟩ := bnd hm
  refine Wy (.d (.lit (.int .i64 r4_0))) [] (Ocf [] [] [] 0 (ok_telltaleref03_Exp p0 r4_0 hr4_0) (fun a w => Try.call67 a w) rfl trivial) ?_
  refine Wy (.d (.lit (.bool (decide (r4_0 = 2047))))) [] (Obn rfl (fun _ => hb_eql (k := .i64))) ?_
  rcases tf_ (decide (r4_0 = 2047)) with hq6_0 | hq6_0
  · replace hm := cT hq6_0 hm
    refine Wy (.d (.lit (.bool true))) [] (Ocs (lit_tf (b := decide (r4_0 = 2047)) hq6_0) (Omv rfl)) ?_
    refine Wy (.d (.lit (.int .u64 p0))) [] (Omv rfl) ?_
    obtain ⟨r8_0, hr8_0, hm⟩ := bnd hm
    refine Wy (.d (.lit (.int .u64 r8_0))) [] (Ocf [] [] [] 0 (ok_telltaleref03_Frac p0 r8_0 hr8_0) (fun a w => Try.call68 a w) rfl trivial) ?_
    refine Wy (.d (.lit (.bool (decide (r8_0 ≠ 0))))) [] (Obn rfl (fun _ => hb_neq (k := .u64))) ?_
    refine Wy (.d (.lit (.bool (decide (r8_0 ≠ 0))))) [] (OpT rfl) ?_
    refine Walk.nil ?_
    refine Then.normal ?_
    refine Amk 1025 0 ⟨((.d (.lit (.int .u64 p0))) :: (tp 9 ((.d (.lit (.bool (decide (r8_0 ≠ 0))))) :: (tp 9 [])))), [], 0⟩ ?_
    rcases tf_ (decide (r8_0 ≠ 0)) with hc10_8 | hc10_8
    · replace hm := cT hc10_8 hm
      refine AWP.if_ true (Eq.trans (by kernel_rfl) (lit_tf (b := decide (r8_0 ≠ 0)) hc10_8)) ?_
      refine AWP.seq ?_
      refine AWP.text ?_
      refine Wy (.d (byteD 5)) [] (Omv rfl) ?_
      refine Walk.nil ?_
      refine Then.normal ?_
      refine AWP.ret ?_
      refine Then.ret ?_
      obtain rfl := Option.some.inj hm
      exact ret_i []
    · replace hm := cF hc10_8 hm
      refine AWP.if_ false (Eq.trans (by kernel_rfl) (lit_tf (b := decide (r8_0 ≠ 0)) hc10_8)) ?_
      refine AWP.skip ?_
      refine Then.normal ?_
      exact AWP.weak (Weak.toK 1 0 0 []) (J1 () hm)
  · replace hm := cF hq6_0 hm
    refine Wy (.d (.lit (.bool false))) [] (Ocs (lit_tf (b := decide (r4_0 = 2047)) hq6_0) (Omv rfl)) ?_
    refine Wn ?_
    refine Wn ?_
    refine Wn ?_
    refine Wy (.d (.lit (.bool false))) [] (OpF rfl) ?_
    refine Walk.nil ?_
    refine Then.normal ?_
    refine Amk 1025 0 ⟨((.d (.lit (.int .u64 p0))) :: (tp 9 ((.d (.lit (.bool false))) :: (tp 9 [])))), [], 0⟩ ?_
    refine AWP.if_ false (by kernel_rfl) ?_
    refine AWP.skip ?_
    refine Then.normal ?_
    exact AWP.weak (Weak.toK 1 0 0 []) (J1 () hm)

set_option maxRecDepth 20000 in
set_option maxHeartbeats 4000000 in
theorem ok_telltaleref03_Clean (p0 : Int) (r : Int) (h : m_telltaleref03_Clean p0 = some r) : GCall Try.prog 36 [(.d (.lit (.int .u64 p0)))] [] (.d (.lit (.int .u64 r))) [] := by
  refine GCall.of_body (n := 7) (rs := [(.tmp 2)]) Try.func36 rfl rfl rfl ?_
  refine Ato ⟨((.d (.lit (.int .u64 p0))) :: (tu 6 [])), [], 0⟩ ?_
  have hm := h
  unfold m_telltaleref03_Clean at hm
  refine AWP.seq ?_
  refine AWP.text ?_
  refine Wy (.d (.lit (.int .u64 0))) [] (Omv rfl) ?_
  refine Walk.nil ?_
  refine Then.normal ?_
  refine Amk 1 0 ⟨((.d (.lit (.int .u64 p0))) :: (tp 6 [])), [], 0⟩ ?_
  refine AWP.seq ?_
  refine AWP.seq ?_
  refine AWP.text ?_
  refine Wy (.d (.lit (.int .u64 p0))) [] (Omv rfl) ?_
  obtain ⟨r4_0, hr4_0, hm⟩ := bnd hm
  refine Wy (.d (byteD r4_0)) [] (Ocf [] [] [] 0 (ok_telltaleref03_Kind p0 r4_0 hr4_0) (fun a w => Try.call54 a w) rfl trivial) ?_
  refine Wy (.d (.lit (.bool (decide (((r4_0.toNat : Nat) : Int) = 5))))) [] (Ocs (by kernel_rfl) (op_bin rfl (a1 := .int .u8 ((r4_0.toNat : Nat) : Int)) (a2 := .int .u8 5) (by kernel_rfl) (by kernel_rfl) (fun _ => hb_eql))) ?_
  refine Walk.nil ?_
  refine Then.normal ?_
  refine Amk 33 0 ⟨((.d (.lit (.int .u64 p0))) :: (tp 4 ((.d (.lit (.bool (decide (((r4_0.toNat : Nat) : Int) = 5))))) :: (tp 1 [])))), [], 0⟩ ?_
  rcases tf_ (decide (((r4_0.toNat : Nat) : Int) = 5)) with hc5_1 | hc5_1
  · replace hm := cT hc5_1 hm
    refine AWP.if_ true (Eq.trans (by kernel_rfl) (lit_tf (b := decide (((r4_0.toNat : Nat) : Int) = 5)) hc5_1)) ?_
    refine AWP.seq ?_
    refine AWP.text ?_
    refine Wy (.d (.lit (.int .u64 9221120237041090560))) [] (Omv rfl) ?_
    refine Walk.nil ?_
    refine Then.normal ?_
    refine AWP.ret ?_
    refine Then.ret ?_
    obtain rfl := Option.some.inj hm
    exact ret_i []
  · replace hm := cF hc5_1 hm
    refine AWP.if_ false (Eq.trans (by kernel_rfl) (lit_tf (b := decide (((r4_0.toNat : Nat) : Int) = 5)) hc5_1)) ?_
    refine AWP.skip ?_
    refine Then.normal ?_
    refine Amk 1 0 ⟨((.d (.lit (.int .u64 p0))) :: (tp 6 [])), [], 0⟩ ?_
    refine AWP.seq ?_
    refine AWP.text ?_
    refine Wy (.d (.lit (.int .u64 p0))) [] (Omv rfl) ?_
    refine Wy (.d (.lit (.int .u64 p0))) [] (Omv rfl) ?_
    refine Walk.nil ?_
    refine Then.normal ?_
    refine AWP.ret ?_
    obtain rfl := Option.some.inj hm
    exact ret_i []

set_option maxRecDepth 20000 in
set_option maxHeartbeats 4000000 in
theorem ok_telltaleref04_OfReal (p0 : Int) (r : GValue) (h : m_telltaleref04_OfReal p0 = some r) : GCall Try.prog 24 [(.d (.lit (.int .u64 p0)))] [] (.agg [(.d (byteD r.Kind)), (.d (.lit (.int .i64 r.N))), (.d (.lit (.int .u64 r.Bits))), (.d (.lit (.string (toS r.Text))))]) [] := by
  refine GCall.of_body (n := 6) (rs := [(.cell 2 24)]) Try.func24 rfl rfl rfl ?_
  refine Ato ⟨((.d (.lit (.int .u64 p0))) :: (tu 5 [])), [], 0⟩ ?_
  have hm := h
  unfold m_telltaleref04_OfReal at hm
  refine AWP.seq ?_
  refine AWP.text ?_
  refine Wy (.loc 0 0) [(0, (.box [(.d (byteD 0)), (.d (.lit (.int .i64 0))), (.d (.lit (.int .u64 0))), (.d (.lit (.string (toS ([] : List UInt8)))))]))] (Oal rfl) ?_
  refine Walk.nil ?_
  refine Then.normal ?_
  refine Amk 5 1 ⟨((.d (.lit (.int .u64 p0))) :: (tp 1 ((.loc 0 0) :: (tp 3 [])))), [(.box [(.d (byteD 0)), (.d (.lit (.int .i64 0))), (.d (.lit (.int .u64 0))), (.d (.lit (.string (toS ([] : List UInt8)))))])], 0⟩ ?_
  refine AWP.seq ?_
  refine AWP.text ?_
  refine Wy (.d (.lit (.int .u64 p0))) [] (Omv rfl) ?_
  obtain ⟨r4_0, hr4_0, hm⟩ := bnd hm
  refine Wy (.d (.lit (.int .u64 r4_0))) [] (Ocf [] [] [] 0 (ok_telltaleref03_Clean p0 r4_0 hr4_0) (fun a w => Try.call36 a w) rfl trivial) ?_
  refine Wy (.agg [(.d (byteD 3)), (.d (.lit (.int .i64 0))), (.d (.lit (.int .u64 r4_0))), (.d (.lit (.string (toS ([] : List UInt8)))))]) [] (Obd rfl) ?_
  refine Wy (.tup []) [(0, (.box [(.d (byteD 3)), (.d (.lit (.int .i64 0))), (.d (.lit (.int .u64 r4_0))), (.d (.lit (.string (toS ([] : List UInt8)))))]))] (Ost rfl) ?_
  refine Walk.nil ?_
  refine Then.normal ?_
  refine AWP.ret ?_
  obtain rfl := Option.some.inj hm
  exact ret_i []

set_option maxRecDepth 20000 in
set_option maxHeartbeats 4000000 in
theorem ok_telltaleref04_OfText (p0 : (List UInt8)) (r : GValue) (h : m_telltaleref04_OfText p0 = some r) : GCall Try.prog 25 [(.d (.lit (.string (toS p0))))] [] (.agg [(.d (byteD r.Kind)), (.d (.lit (.int .i64 r.N))), (.d (.lit (.int .u64 r.Bits))), (.d (.lit (.string (toS r.Text))))]) [] := by
  refine GCall.of_body (n := 9) (rs := [(.cell 2 24)]) Try.func25 rfl rfl rfl ?_
  refine Ato ⟨((.d (.lit (.string (toS p0)))) :: (tu 8 [])), [], 0⟩ ?_
  have hm := h
  unfold m_telltaleref04_OfText at hm
  refine AWP.seq ?_
  refine AWP.text ?_
  refine Wy (.loc 0 0) [(0, (.box [(.d (byteD 0)), (.d (.lit (.int .i64 0))), (.d (.lit (.int .u64 0))), (.d (.lit (.string (toS ([] : List UInt8)))))]))] (Oal rfl) ?_
  refine Walk.nil ?_
  refine Then.normal ?_
  refine Amk 5 1 ⟨((.d (.lit (.string (toS p0)))) :: (tp 1 ((.loc 0 0) :: (tp 6 [])))), [(.box [(.d (byteD 0)), (.d (.lit (.int .i64 0))), (.d (.lit (.int .u64 0))), (.d (.lit (.string (toS ([] : List UInt8)))))])], 0⟩ ?_
  refine AWP.seq ?_
  refine AWP.text ?_
  refine Wy (.d (.lit (.string (toS p0)))) [] (Omv rfl) ?_
  refine Wy (.d (.lit (.string (toS p0)))) [] (Omv rfl) ?_
  refine Wy (.d (.lit (.int .i64 ((List.length p0 : Nat) : Int)))) [] (Oln rfl) ?_
  refine Wy (.d (.lit (.int .i64 (min ((List.length p0 : Nat) : Int) 24)))) [] (op_bi2 rfl (a1 := .int .i64 ((List.length p0 : Nat) : Int)) (a2 := .int .i64 24) (by kernel_rfl) (by kernel_rfl) hb_min) ?_
  obtain ⟨s7_0, hs7_0, hm⟩ := bnd hm; obtain ⟨hs7_0a, hs7_0b, hs7_0c, hs7_0d, hs7_0e⟩ := cut_some hs7_0
  refine Wy (.d (.lit (.string (toS s7_0)))) [] (Ocs (lit_str (toS_cut hs7_0e)) (op_slice_str rfl (by kernel_rfl) (s := toS p0) (by kernel_rfl) (l := (Int.toNat 0)) (h := (Int.toNat (min ((List.length p0 : Nat) : Int) 24))) (by exact rfl) (⟨.i64, (min ((List.length p0 : Nat) : Int) 24), by kernel_rfl, hs7_0b⟩) hs7_0c hs7_0d)) ?_
  refine Wy (.agg [(.d (byteD 4)), (.d (.lit (.int .i64 0))), (.d (.lit (.int .u64 0))), (.d (.lit (.string (toS s7_0))))]) [] (Obd rfl) ?_
  refine Wy (.tup []) [(0, (.box [(.d (byteD 4)), (.d (.lit (.int .i64 0))), (.d (.lit (.int .u64 0))), (.d (.lit (.string (toS s7_0))))]))] (Ost rfl) ?_
  refine Walk.nil ?_
  refine Then.normal ?_
  refine AWP.ret ?_
  obtain rfl := Option.some.inj hm
  exact ret_i []

set_option maxRecDepth 20000 in
set_option maxHeartbeats 4000000 in
theorem ok_telltaleref04_Word (p0 : UInt8) (r : (List UInt8)) (h : m_telltaleref04_Word p0 = some r) : GCall Try.prog 27 [(.d (byteD p0))] [] (.d (.lit (.string (toS r)))) [] := by
  refine GCall.of_body (n := 11) (rs := [(.tmp 2)]) Try.func27 rfl rfl rfl ?_
  refine Ato ⟨((.d (byteD p0)) :: (tu 10 [])), [], 0⟩ ?_
  have hm := h
  unfold m_telltaleref04_Word at hm
  refine AWP.seq ?_
  refine AWP.text ?_
  refine Wy (.d (.lit (.string (toS ([] : List UInt8))))) [] (Omv rfl) ?_
  refine Walk.nil ?_
  refine Then.normal ?_
  refine Amk 1 0 ⟨((.d (byteD p0)) :: (tp 10 [])), [], 0⟩ ?_
  refine AWP.seq ?_
  refine AWP.seq ?_
  refine AWP.text ?_
  refine Wy (.d (byteD p0)) [] (Omv rfl) ?_
  refine Wy (.d (.lit (.bool (decide (((p0.toNat : Nat) : Int) = 1))))) [] (Ocs (by kernel_rfl) (op_bin rfl (a1 := .int .u8 ((p0.toNat : Nat) : Int)) (a2 := .int .u8 1) (by kernel_rfl) (by kernel_rfl) (fun _ => hb_eql))) ?_
  refine Walk.nil ?_
  refine Then.normal ?_
  refine Amk 17 0 ⟨((.d (byteD p0)) :: (tp 3 ((.d (.lit (.bool (decide (((p0.toNat : Nat) : Int) = 1))))) :: (tp 6 [])))), [], 0⟩ ?_
  rcases tf_ (decide (((p0.toNat : Nat) : Int) = 1)) with hc4_0 | hc4_0
  · replace hm := cT hc4_0 hm
    refine AWP.if_ true (Eq.trans (by kernel_rfl) (lit_tf (b := decide (((p0.toNat : Nat) : Int) = 1)) hc4_0)) ?_
    refine AWP.seq ?_
    refine AWP.text ?_
    refine Wy (.d (.lit (.string (toS ([105, 110, 116] : List UInt8))))) [] (Omv rfl) ?_
    refine Walk.nil ?_
    refine Then.normal ?_
    refine AWP.ret ?_
    refine Then.ret ?_
    obtain rfl := Option.some.inj hm
    exact ret_i []
  · replace hm := cF hc4_0 hm
    refine AWP.if_ false (Eq.trans (by kernel_rfl) (lit_tf (b := decide (((p0.toNat : Nat) : Int) = 1)) hc4_0)) ?_
    refine AWP.skip ?_
    refine Then.normal ?_
    refine Amk 1 0 ⟨((.d (byteD p0)) :: (tp 10 [])), [], 0⟩ ?_
    refine AWP.seq ?_
    refine AWP.seq ?_
    refine AWP.text ?_
    refine Wy (.d (byteD p0)) [] (Omv rfl) ?_
    refine Wy (.d (.lit (.bool (decide (((p0.toNat : Nat) : Int) = 2))))) [] (Ocs (by kernel_rfl) (op_bin rfl (a1 := .int .u8 ((p0.toNat : Nat) : Int)) (a2 := .int .u8 2) (by kernel_rfl) (by kernel_rfl) (fun _ => hb_eql))) ?_
    refine Walk.nil ?_
    refine Then.normal ?_
    refine Amk 65 0 ⟨((.d (byteD p0)) :: (tp 5 ((.d (.lit (.bool (decide (((p0.toNat : Nat) : Int) = 2))))) :: (tp 4 [])))), [], 0⟩ ?_
    rcases tf_ (decide (((p0.toNat : Nat) : Int) = 2)) with hc6_1 | hc6_1
    · replace hm := cT hc6_1 hm
      refine AWP.if_ true (Eq.trans (by kernel_rfl) (lit_tf (b := decide (((p0.toNat : Nat) : Int) = 2)) hc6_1)) ?_
      refine AWP.seq ?_
      refine AWP.text ?_
      refine Wy (.d (.lit (.string (toS ([102, 108, 97, 103] : List UInt8))))) [] (Omv rfl) ?_
      refine Walk.nil ?_
      refine Then.normal ?_
      refine AWP.ret ?_
      refine Then.ret ?_
      obtain rfl := Option.some.inj hm
      exact ret_i []
    · replace hm := cF hc6_1 hm
      refine AWP.if_ false (Eq.trans (by kernel_rfl) (lit_tf (b := decide (((p0.toNat : Nat) : Int) = 2)) hc6_1)) ?_
      refine AWP.skip ?_
      refine Then.normal ?_
      refine Amk 1 0 ⟨((.d (byteD p0)) :: (tp 10 [])), [], 0⟩ ?_
      refine AWP.seq ?_
      refine AWP.seq ?_
      refine AWP.text ?_
      refine Wy (.d (byteD p0)) [] (Omv rfl) ?_
      refine Wy (.d (.lit (.bool (decide (((p0.toNat : Nat) : Int) = 3))))) [] (Ocs (by kernel_rfl) (op_bin rfl (a1 := .int .u8 ((p0.toNat : Nat) : Int)) (a2 := .int .u8 3) (by kernel_rfl) (by kernel_rfl) (fun _ => hb_eql))) ?_
      refine Walk.nil ?_
      refine Then.normal ?_
      refine Amk 257 0 ⟨((.d (byteD p0)) :: (tp 7 ((.d (.lit (.bool (decide (((p0.toNat : Nat) : Int) = 3))))) :: (tp 2 [])))), [], 0⟩ ?_
      rcases tf_ (decide (((p0.toNat : Nat) : Int) = 3)) with hc8_2 | hc8_2
      · replace hm := cT hc8_2 hm
        refine AWP.if_ true (Eq.trans (by kernel_rfl) (lit_tf (b := decide (((p0.toNat : Nat) : Int) = 3)) hc8_2)) ?_
        refine AWP.seq ?_
        refine AWP.text ?_
        refine Wy (.d (.lit (.string (toS ([114, 101, 97, 108] : List UInt8))))) [] (Omv rfl) ?_
        refine Walk.nil ?_
        refine Then.normal ?_
        refine AWP.ret ?_
        refine Then.ret ?_
        obtain rfl := Option.some.inj hm
        exact ret_i []
      · replace hm := cF hc8_2 hm
        refine AWP.if_ false (Eq.trans (by kernel_rfl) (lit_tf (b := decide (((p0.toNat : Nat) : Int) = 3)) hc8_2)) ?_
        refine AWP.skip ?_
        refine Then.normal ?_
        refine Amk 1 0 ⟨((.d (byteD p0)) :: (tp 10 [])), [], 0⟩ ?_
        refine AWP.seq ?_
        refine AWP.seq ?_
        refine AWP.text ?_
        refine Wy (.d (byteD p0)) [] (Omv rfl) ?_
        refine Wy (.d (.lit (.bool (decide (((p0.toNat : Nat) : Int) = 4))))) [] (Ocs (by kernel_rfl) (op_bin rfl (a1 := .int .u8 ((p0.toNat : Nat) : Int)) (a2 := .int .u8 4) (by kernel_rfl) (by kernel_rfl) (fun _ => hb_eql))) ?_
        refine Walk.nil ?_
        refine Then.normal ?_
        refine Amk 1024 0 ⟨(tp 10 ((.d (.lit (.bool (decide (((p0.toNat : Nat) : Int) = 4))))) :: [])), [], 0⟩ ?_
        rcases tf_ (decide (((p0.toNat : Nat) : Int) = 4)) with hc10_3 | hc10_3
        · replace hm := cT hc10_3 hm
          refine AWP.if_ true (Eq.trans (by kernel_rfl) (lit_tf (b := decide (((p0.toNat : Nat) : Int) = 4)) hc10_3)) ?_
          refine AWP.seq ?_
          refine AWP.text ?_
          refine Wy (.d (.lit (.string (toS ([116, 101, 120, 116] : List UInt8))))) [] (Omv rfl) ?_
          refine Walk.nil ?_
          refine Then.normal ?_
          refine AWP.ret ?_
          refine Then.ret ?_
          obtain rfl := Option.some.inj hm
          exact ret_i []
        · replace hm := cF hc10_3 hm
          refine AWP.if_ false (Eq.trans (by kernel_rfl) (lit_tf (b := decide (((p0.toNat : Nat) : Int) = 4)) hc10_3)) ?_
          refine AWP.skip ?_
          refine Then.normal ?_
          refine Amk 0 0 ⟨(tp 11 []), [], 0⟩ ?_
          refine AWP.seq ?_
          refine AWP.text ?_
          refine Wy (.d (.lit (.string (toS ([] : List UInt8))))) [] (Omv rfl) ?_
          refine Walk.nil ?_
          refine Then.normal ?_
          refine AWP.ret ?_
          obtain rfl := Option.some.inj hm
          exact ret_i []
end Go.Proofs.Ytgocnknbiipcfaa.K
