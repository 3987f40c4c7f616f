/- each function computes what its model says (2) -/
import Derived.Test.YthcilaomjkaciaaL1
namespace Go.Proofs.Ythcilaomjkaciaa.K
open Go.RowKit Go.Lib
set_option linter.unusedVariables false
set_option linter.unusedSimpArgs false

set_option maxRecDepth 20000 in
set_option maxHeartbeats 4000000 in
theorem ok_slices_stableCmpFunc_tally_Change__tally_order (p0 : (List GChange)) (p1 : Int) (r : (List GChange)) (h : m_slices_stableCmpFunc_tally_Change__tally_order p0 p1 = some r) : GCall Try.prog 28 [(.own 0), (.d (.lit (.int .i64 p1))), (.clo (.func 24) [] [])] [(.arr 43 3 (List.length p0) (flatD enc_GChange p0))] (.tup []) [(.arr 43 3 (List.length r) (flatD enc_GChange r))] := by
  refine GCall.of_body (n := 63) (rs := []) Try.func28 rfl rfl rfl ?_
  refine Ato ⟨((.own 0) :: ((.d (.lit (.int .i64 p1))) :: ((.clo (.func 24) [] []) :: (tu 60 [])))), [(.arr 43 3 (List.length p0) (flatD enc_GChange p0))], 1⟩ ?_
  have hm := h
  unfold m_slices_stableCmpFunc_tally_Change__tally_order at hm
  refine AWP.seq ?_
  refine AWP.text ?_
  refine Wy (.d (.lit (.int .i64 20))) [] (Omv rfl) ?_
  refine Walk.nil ?_
  refine Then.normal ?_
  refine Amk 71 1 ⟨((.own 0) :: ((.d (.lit (.int .i64 p1))) :: ((.clo (.func 24) [] []) :: (tp 3 ((.d (.lit (.int .i64 20))) :: (tp 56 [])))))), [(.arr 43 3 (List.length p0) (flatD enc_GChange p0))], 1⟩ ?_
  refine AWP.seq ?_
  refine AWP.text ?_
  refine Wy (.d (.lit (.int .i64 20))) [] (Omv rfl) ?_
  refine Wy (.d (.lit (.int .i64 0))) [] (Omv rfl) ?_
  refine Wy (.d (.lit (.int .i64 20))) [] (Omv rfl) ?_
  refine Walk.nil ?_
  refine Then.normal ?_
  refine Amk 455 1 ⟨((.own 0) :: ((.d (.lit (.int .i64 p1))) :: ((.clo (.func 24) [] []) :: (tp 3 ((.d (.lit (.int .i64 20))) :: ((.d (.lit (.int .i64 0))) :: ((.d (.lit (.int .i64 20))) :: (tp 54 [])))))))), [(.arr 43 3 (List.length p0) (flatD enc_GChange p0))], 1⟩ ?_
  refine AWP.seq ?_
  refine AWP.block ?_
  refine AWP.loopI (α := Nat × (List GChange) × Int × Int)
    (fun x => match x with | (fu_0, y0_0, y7_0, y8_0) => (⟨((.own 0) :: ((.d (.lit (.int .i64 p1))) :: ((.clo (.func 24) [] []) :: (tp 3 ((.d (.lit (.int .i64 20))) :: ((.d (.lit (.int .i64 y7_0))) :: ((.d (.lit (.int .i64 y8_0))) :: (tp 54 [])))))))), [(.arr 43 3 (List.length y0_0) (flatD enc_GChange y0_0))], 1⟩ : St))
    (fun x => match x with | (fu_0, y0_0, y7_0, y8_0) => m_slices_stableCmpFunc_tally_Change__tally_order_l0 p1 fu_0 y0_0 y7_0 y8_0 = some r)
    (fun x => match x with | (fu_0, y0_0, y7_0, y8_0) => fu_0) (1152921504606846976, p0, 0, 20)
    (Weak.toK 455 0 0 [0]) hm ?_
  rintro ⟨fu_0, y0_0, y7_0, y8_0⟩ n_0 hm ih_0
  try dsimp only at hm ih_0 ⊢
  cases fu_0 with
  | zero => exact absurd hm (by unfold m_slices_stableCmpFunc_tally_Change__tally_order_l0; simp)
  | succ fu_0 =>
    unfold m_slices_stableCmpFunc_tally_Change__tally_order_l0 at hm
    refine AWP.seq ?_
    refine AWP.seq ?_
    refine AWP.text ?_
    refine Wy (.d (.lit (.int .i64 y8_0))) [] (Omv rfl) ?_
    refine Wy (.d (.lit (.int .i64 p1))) [] (Omv rfl) ?_
    refine Wy (.d (.lit (.bool (decide (y8_0 ≤ p1))))) [] (Obn rfl (fun _ => hb_leq (k := .i64))) ?_
    refine Walk.nil ?_
    refine Then.normal ?_
    refine Amk 8647 1 ⟨((.own 0) :: ((.d (.lit (.int .i64 p1))) :: ((.clo (.func 24) [] []) :: (tp 3 ((.d (.lit (.int .i64 20))) :: ((.d (.lit (.int .i64 y7_0))) :: ((.d (.lit (.int .i64 y8_0))) :: (tp 4 ((.d (.lit (.bool (decide (y8_0 ≤ p1))))) :: (tp 49 [])))))))))), [(.arr 43 3 (List.length y0_0) (flatD enc_GChange y0_0))], 1⟩ ?_
    rcases tf_ (decide (y8_0 ≤ p1)) with hc13_7 | hc13_7
    · replace hm := cT hc13_7 hm
      refine AWP.if_ true (Eq.trans (by kernel_rfl) (lit_tf (b := decide (y8_0 ≤ p1)) hc13_7)) ?_
      refine AWP.skip ?_
      refine Then.normal ?_
      refine Amk 455 1 ⟨((.own 0) :: ((.d (.lit (.int .i64 p1))) :: ((.clo (.func 24) [] []) :: (tp 3 ((.d (.lit (.int .i64 20))) :: ((.d (.lit (.int .i64 y7_0))) :: ((.d (.lit (.int .i64 y8_0))) :: (tp 54 [])))))))), [(.arr 43 3 (List.length y0_0) (flatD enc_GChange y0_0))], 1⟩ ?_
      refine AWP.block ?_
      refine AWP.seq ?_
      refine AWP.text ?_
      refine Wy (.own 0) [] (Omv rfl) ?_
      refine Wy (.d (.lit (.int .i64 y7_0))) [] (Omv rfl) ?_
      refine Wy (.d (.lit (.int .i64 y8_0))) [] (Omv rfl) ?_
      refine Wy (.clo (.func 24) [] []) [] (Omv rfl) ?_
      obtain ⟨r18_1, hr18_1, hm⟩ := bnd hm
      refine Wy (.tup []) [(0, (.arr 43 3 (List.length r18_1) (flatD enc_GChange r18_1)))] (Ocf [0] [] [] 0 (ok_slices_insertionSortCmpFunc_tally_Change__tally_order y0_0 y7_0 y8_0 r18_1 hr18_1) (fun a w => Try.call32 a w) rfl ⟨rfl, trivial⟩) ?_
      refine Walk.nil ?_
      refine Then.normal ?_
      refine Amk 327 1 ⟨((.own 0) :: ((.d (.lit (.int .i64 p1))) :: ((.clo (.func 24) [] []) :: (tp 3 ((.d (.lit (.int .i64 20))) :: (tp 1 ((.d (.lit (.int .i64 y8_0))) :: (tp 54 [])))))))), [(.arr 43 3 (List.length r18_1) (flatD enc_GChange r18_1))], 1⟩ ?_
      refine AWP.seq ?_
      refine AWP.text ?_
      refine Wy (.d (.lit (.int .i64 y8_0))) [] (Omv rfl) ?_
      refine Wy (.d (.lit (.int .i64 y8_0))) [] (Omv rfl) ?_
      refine Walk.nil ?_
      refine Then.normal ?_
      refine Amk 455 1 ⟨((.own 0) :: ((.d (.lit (.int .i64 p1))) :: ((.clo (.func 24) [] []) :: (tp 3 ((.d (.lit (.int .i64 20))) :: ((.d (.lit (.int .i64 y8_0))) :: ((.d (.lit (.int .i64 y8_0))) :: (tp 54 [])))))))), [(.arr 43 3 (List.length r18_1) (flatD enc_GChange r18_1))], 1⟩ ?_
      refine AWP.text ?_
      refine Wy (.d (.lit (.int .i64 y8_0))) [] (Omv rfl) ?_
      refine Wy (.d (.lit (.int .i64 20))) [] (Omv rfl) ?_
      refine Wy (.d (.lit (.int .i64 (IntKind.i64.wrap (y8_0 + 20))))) [] (Obn rfl (fun _ => hb_add (k := .i64))) ?_
      refine Wy (.d (.lit (.int .i64 (IntKind.i64.wrap (y8_0 + 20))))) [] (Omv rfl) ?_
      refine Walk.nil ?_
      refine InBlock.normal ?_
      refine RoundK.normal ?_
      exact Rounds.weak (Weak.toK 455 0 0 [0]) (ih_0 (fu_0, r18_1, y8_0, (IntKind.i64.wrap (y8_0 + 20))) hm (Nat.lt_succ_self _))
    · replace hm := cF hc13_7 hm
      refine AWP.if_ false (Eq.trans (by kernel_rfl) (lit_tf (b := decide (y8_0 ≤ p1)) hc13_7)) ?_
      refine AWP.exit ?_
      refine Then.exit ?_
      refine RoundK.exit ?_
      refine InBlock.same ?_
      refine Then.normal ?_
      refine Amk 199 1 ⟨((.own 0) :: ((.d (.lit (.int .i64 p1))) :: ((.clo (.func 24) [] []) :: (tp 3 ((.d (.lit (.int .i64 20))) :: ((.d (.lit (.int .i64 y7_0))) :: (tp 55 []))))))), [(.arr 43 3 (List.length y0_0) (flatD enc_GChange y0_0))], 1⟩ ?_
      refine AWP.seq ?_
      refine AWP.text ?_
      refine Wy (.own 0) [] (Omv rfl) ?_
      refine Wy (.d (.lit (.int .i64 y7_0))) [] (Omv rfl) ?_
      refine Wy (.d (.lit (.int .i64 p1))) [] (Omv rfl) ?_
      refine Wy (.clo (.func 24) [] []) [] (Omv rfl) ?_
      obtain ⟨r27_2, hr27_2, hm⟩ := bnd hm
      refine Wy (.tup []) [(0, (.arr 43 3 (List.length r27_2) (flatD enc_GChange r27_2)))] (Ocf [0] [] [] 0 (ok_slices_insertionSortCmpFunc_tally_Change__tally_order y0_0 y7_0 p1 r27_2 hr27_2) (fun a w => Try.call32 a w) rfl ⟨rfl, trivial⟩) ?_
      refine Walk.nil ?_
      refine Then.normal ?_
      refine Amk 71 1 ⟨((.own 0) :: ((.d (.lit (.int .i64 p1))) :: ((.clo (.func 24) [] []) :: (tp 3 ((.d (.lit (.int .i64 20))) :: (tp 56 [])))))), [(.arr 43 3 (List.length r27_2) (flatD enc_GChange r27_2))], 1⟩ ?_
      refine AWP.block ?_
      refine AWP.loopI (α := Nat × (List GChange) × Int)
        (fun x => match x with | (fu_3, y0_3, y6_3) => (⟨((.own 0) :: ((.d (.lit (.int .i64 p1))) :: ((.clo (.func 24) [] []) :: (tp 3 ((.d (.lit (.int .i64 y6_3))) :: (tp 56 [])))))), [(.arr 43 3 (List.length y0_3) (flatD enc_GChange y0_3))], 1⟩ : St))
        (fun x => match x with | (fu_3, y0_3, y6_3) => m_slices_stableCmpFunc_tally_Change__tally_order_l3 p1 fu_3 y0_3 y6_3 = some r)
        (fun x => match x with | (fu_3, y0_3, y6_3) => fu_3) (1152921504606846976, r27_2, 20)
        (Weak.toK 71 0 0 [0]) hm ?_
      rintro ⟨fu_3, y0_3, y6_3⟩ n_3 hm ih_3
      try dsimp only at hm ih_3 ⊢
      cases fu_3 with
      | zero => exact absurd hm (by unfold m_slices_stableCmpFunc_tally_Change__tally_order_l3; simp)
      | succ fu_3 =>
        unfold m_slices_stableCmpFunc_tally_Change__tally_order_l3 at hm
        refine AWP.seq ?_
        refine AWP.seq ?_
        refine AWP.text ?_
        refine Wy (.d (.lit (.int .i64 y6_3))) [] (Omv rfl) ?_
        refine Wy (.d (.lit (.int .i64 p1))) [] (Omv rfl) ?_
        refine Wy (.d (.lit (.bool (decide (y6_3 < p1))))) [] (Obn rfl (fun _ => hb_lss (k := .i64))) ?_
        refine Walk.nil ?_
        refine Then.normal ?_
        refine Amk 1073741895 1 ⟨((.own 0) :: ((.d (.lit (.int .i64 p1))) :: ((.clo (.func 24) [] []) :: (tp 3 ((.d (.lit (.int .i64 y6_3))) :: (tp 23 ((.d (.lit (.bool (decide (y6_3 < p1))))) :: (tp 32 [])))))))), [(.arr 43 3 (List.length y0_3) (flatD enc_GChange y0_3))], 1⟩ ?_
        rcases tf_ (decide (y6_3 < p1)) with hc30_8 | hc30_8
        · replace hm := cT hc30_8 hm
          refine AWP.if_ true (Eq.trans (by kernel_rfl) (lit_tf (b := decide (y6_3 < p1)) hc30_8)) ?_
          refine AWP.skip ?_
          refine Then.normal ?_
          refine Amk 71 1 ⟨((.own 0) :: ((.d (.lit (.int .i64 p1))) :: ((.clo (.func 24) [] []) :: (tp 3 ((.d (.lit (.int .i64 y6_3))) :: (tp 56 [])))))), [(.arr 43 3 (List.length y0_3) (flatD enc_GChange y0_3))], 1⟩ ?_
          refine AWP.block ?_
          refine AWP.seq ?_
          refine AWP.text ?_
          refine Wy (.d (.lit (.int .i64 y6_3))) [] (Omv rfl) ?_
          refine Wy (.d (.lit (.int .i64 (IntKind.i64.wrap (2 * y6_3))))) [] (Obn rfl (fun _ => hb_mul (k := .i64))) ?_
          refine Wy (.d (.lit (.int .i64 0))) [] (Omv rfl) ?_
          refine Wy (.d (.lit (.int .i64 (IntKind.i64.wrap (2 * y6_3))))) [] (Omv rfl) ?_
          refine Walk.nil ?_
          refine Then.normal ?_
          refine Amk 455 1 ⟨((.own 0) :: ((.d (.lit (.int .i64 p1))) :: ((.clo (.func 24) [] []) :: (tp 3 ((.d (.lit (.int .i64 y6_3))) :: ((.d (.lit (.int .i64 0))) :: ((.d (.lit (.int .i64 (IntKind.i64.wrap (2 * y6_3))))) :: (tp 54 [])))))))), [(.arr 43 3 (List.length y0_3) (flatD enc_GChange y0_3))], 1⟩ ?_
          refine AWP.seq ?_
          refine AWP.block ?_
          refine AWP.loopI (α := Nat × (List GChange) × Int × Int)
            (fun x => match x with | (fu_4, y0_4, y7_4, y8_4) => (⟨((.own 0) :: ((.d (.lit (.int .i64 p1))) :: ((.clo (.func 24) [] []) :: (tp 3 ((.d (.lit (.int .i64 y6_3))) :: ((.d (.lit (.int .i64 y7_4))) :: ((.d (.lit (.int .i64 y8_4))) :: (tp 54 [])))))))), [(.arr 43 3 (List.length y0_4) (flatD enc_GChange y0_4))], 1⟩ : St))
            (fun x => match x with | (fu_4, y0_4, y7_4, y8_4) => m_slices_stableCmpFunc_tally_Change__tally_order_l4 p1 y6_3 (fun y0_3 y6_3 => m_slices_stableCmpFunc_tally_Change__tally_order_l3 p1 fu_3 y0_3 y6_3) fu_4 y0_4 y7_4 y8_4 = some r)
            (fun x => match x with | (fu_4, y0_4, y7_4, y8_4) => fu_4) (1152921504606846976, y0_3, 0, (IntKind.i64.wrap (2 * y6_3)))
            (Weak.toK 455 0 0 [0]) hm ?_
          rintro ⟨fu_4, y0_4, y7_4, y8_4⟩ n_4 hm ih_4
          try dsimp only at hm ih_4 ⊢
          cases fu_4 with
          | zero => exact absurd hm (by unfold m_slices_stableCmpFunc_tally_Change__tally_order_l4; simp)
          | succ fu_4 =>
            unfold m_slices_stableCmpFunc_tally_Change__tally_order_l4 at hm
            refine AWP.seq ?_
            refine AWP.seq ?_
            refine AWP.text ?_
            refine Wy (.d (.lit (.int .i64 y8_4))) [] (Omv rfl) ?_
            refine Wy (.d (.lit (.int .i64 p1))) [] (Omv rfl) ?_
            refine Wy (.d (.lit (.bool (decide (y8_4 ≤ p1))))) [] (Obn rfl (fun _ => hb_leq (k := .i64))) ?_
            refine Walk.nil ?_
            refine Then.normal ?_
            refine Amk 34359738823 1 ⟨((.own 0) :: ((.d (.lit (.int .i64 p1))) :: ((.clo (.func 24) [] []) :: (tp 3 ((.d (.lit (.int .i64 y6_3))) :: ((.d (.lit (.int .i64 y7_4))) :: ((.d (.lit (.int .i64 y8_4))) :: (tp 26 ((.d (.lit (.bool (decide (y8_4 ≤ p1))))) :: (tp 27 [])))))))))), [(.arr 43 3 (List.length y0_4) (flatD enc_GChange y0_4))], 1⟩ ?_
            rcases tf_ (decide (y8_4 ≤ p1)) with hc35_9 | hc35_9
            · replace hm := cT hc35_9 hm
              refine AWP.if_ true (Eq.trans (by kernel_rfl) (lit_tf (b := decide (y8_4 ≤ p1)) hc35_9)) ?_
              refine AWP.skip ?_
              refine Then.normal ?_
              refine Amk 455 1 ⟨((.own 0) :: ((.d (.lit (.int .i64 p1))) :: ((.clo (.func 24) [] []) :: (tp 3 ((.d (.lit (.int .i64 y6_3))) :: ((.d (.lit (.int .i64 y7_4))) :: ((.d (.lit (.int .i64 y8_4))) :: (tp 54 [])))))))), [(.arr 43 3 (List.length y0_4) (flatD enc_GChange y0_4))], 1⟩ ?_
              refine AWP.block ?_
              refine AWP.seq ?_
              refine AWP.text ?_
              refine Wy (.own 0) [] (Omv rfl) ?_
              refine Wy (.d (.lit (.int .i64 y7_4))) [] (Omv rfl) ?_
              refine Wy (.d (.lit (.int .i64 y7_4))) [] (Omv rfl) ?_
              refine Wy (.d (.lit (.int .i64 y6_3))) [] (Omv rfl) ?_
              refine Wy (.d (.lit (.int .i64 (IntKind.i64.wrap (y7_4 + y6_3))))) [] (Obn rfl (fun _ => hb_add (k := .i64))) ?_
              refine Wy (.d (.lit (.int .i64 y8_4))) [] (Omv rfl) ?_
              refine Wy (.clo (.func 24) [] []) [] (Omv rfl) ?_
              obtain ⟨r43_5, hr43_5, hm⟩ := bnd hm
              refine Wy (.tup []) [(0, (.arr 43 3 (List.length r43_5) (flatD enc_GChange r43_5)))] (Ocf [0] [] [] 0 (ok_slices_symMergeCmpFunc_tally_Change__tally_order 1152921504606846976 y0_4 y7_4 (IntKind.i64.wrap (y7_4 + y6_3)) y8_4 r43_5 hr43_5) (fun a w => Try.call33 a w) rfl ⟨rfl, trivial⟩) ?_
              refine Walk.nil ?_
              refine Then.normal ?_
              refine Amk 327 1 ⟨((.own 0) :: ((.d (.lit (.int .i64 p1))) :: ((.clo (.func 24) [] []) :: (tp 3 ((.d (.lit (.int .i64 y6_3))) :: (tp 1 ((.d (.lit (.int .i64 y8_4))) :: (tp 54 [])))))))), [(.arr 43 3 (List.length r43_5) (flatD enc_GChange r43_5))], 1⟩ ?_
              refine AWP.seq ?_
              refine AWP.text ?_
              refine Wy (.d (.lit (.int .i64 y8_4))) [] (Omv rfl) ?_
              refine Wy (.d (.lit (.int .i64 y8_4))) [] (Omv rfl) ?_
              refine Walk.nil ?_
              refine Then.normal ?_
              refine Amk 455 1 ⟨((.own 0) :: ((.d (.lit (.int .i64 p1))) :: ((.clo (.func 24) [] []) :: (tp 3 ((.d (.lit (.int .i64 y6_3))) :: ((.d (.lit (.int .i64 y8_4))) :: ((.d (.lit (.int .i64 y8_4))) :: (tp 54 [])))))))), [(.arr 43 3 (List.length r43_5) (flatD enc_GChange r43_5))], 1⟩ ?_
              refine AWP.text ?_
              refine Wy (.d (.lit (.int .i64 y8_4))) [] (Omv rfl) ?_
              refine Wy (.d (.lit (.int .i64 y6_3))) [] (Omv rfl) ?_
              refine Wy (.d (.lit (.int .i64 (IntKind.i64.wrap (2 * y6_3))))) [] (Obn rfl (fun _ => hb_mul (k := .i64))) ?_
              refine Wy (.d (.lit (.int .i64 (IntKind.i64.wrap (y8_4 + (IntKind.i64.wrap (2 * y6_3))))))) [] (Obn rfl (fun _ => hb_add (k := .i64))) ?_
              refine Wy (.d (.lit (.int .i64 (IntKind.i64.wrap (y8_4 + (IntKind.i64.wrap (2 * y6_3))))))) [] (Omv rfl) ?_
              refine Walk.nil ?_
              refine InBlock.normal ?_
              refine RoundK.normal ?_
              exact Rounds.weak (Weak.toK 455 0 0 [0]) (ih_4 (fu_4, r43_5, y8_4, (IntKind.i64.wrap (y8_4 + (IntKind.i64.wrap (2 * y6_3))))) hm (Nat.lt_succ_self _))
            · replace hm := cF hc35_9 hm
              refine AWP.if_ false (Eq.trans (by kernel_rfl) (lit_tf (b := decide (y8_4 ≤ p1)) hc35_9)) ?_
              refine AWP.exit ?_
              refine Then.exit ?_
              refine RoundK.exit ?_
              refine InBlock.same ?_
              refine Then.normal ?_
              refine Amk 199 1 ⟨((.own 0) :: ((.d (.lit (.int .i64 p1))) :: ((.clo (.func 24) [] []) :: (tp 3 ((.d (.lit (.int .i64 y6_3))) :: ((.d (.lit (.int .i64 y7_4))) :: (tp 55 []))))))), [(.arr 43 3 (List.length y0_4) (flatD enc_GChange y0_4))], 1⟩ ?_
              refine AWP.seq ?_
              refine AWP.seq ?_
              refine AWP.text ?_
              refine Wy (.d (.lit (.int .i64 y7_4))) [] (Omv rfl) ?_
              refine Wy (.d (.lit (.int .i64 y6_3))) [] (Omv rfl) ?_
              refine Wy (.d (.lit (.int .i64 (IntKind.i64.wrap (y7_4 + y6_3))))) [] (Obn rfl (fun _ => hb_add (k := .i64))) ?_
              refine Wy (.d (.lit (.int .i64 (IntKind.i64.wrap (y7_4 + y6_3))))) [] (Omv rfl) ?_
              refine Walk.nil ?_
              refine Then.normal ?_
              refine Amk 711 1 ⟨((.own 0) :: ((.d (.lit (.int .i64 p1))) :: ((.clo (.func 24) [] []) :: (tp 3 ((.d (.lit (.int .i64 y6_3))) :: ((.d (.lit (.int .i64 y7_4))) :: (tp 1 ((.d (.lit (.int .i64 (IntKind.i64.wrap (y7_4 + y6_3))))) :: (tp 53 []))))))))), [(.arr 43 3 (List.length y0_4) (flatD enc_GChange y0_4))], 1⟩ ?_
              refine AWP.seq ?_
              refine AWP.text ?_
              refine Wy (.d (.lit (.int .i64 (IntKind.i64.wrap (y7_4 + y6_3))))) [] (Omv rfl) ?_
              refine Wy (.d (.lit (.int .i64 p1))) [] (Omv rfl) ?_
              refine Wy (.d (.lit (.bool (decide ((IntKind.i64.wrap (y7_4 + y6_3)) < p1))))) [] (Obn rfl (fun _ => hb_lss (k := .i64))) ?_
              refine Walk.nil ?_
              refine Then.normal ?_
              refine Amk 18014398509482695 1 ⟨((.own 0) :: ((.d (.lit (.int .i64 p1))) :: ((.clo (.func 24) [] []) :: (tp 3 ((.d (.lit (.int .i64 y6_3))) :: ((.d (.lit (.int .i64 y7_4))) :: (tp 1 ((.d (.lit (.int .i64 (IntKind.i64.wrap (y7_4 + y6_3))))) :: (tp 44 ((.d (.lit (.bool (decide ((IntKind.i64.wrap (y7_4 + y6_3)) < p1))))) :: (tp 8 []))))))))))), [(.arr 43 3 (List.length y0_4) (flatD enc_GChange y0_4))], 1⟩ ?_
              rcases tf_ (decide ((IntKind.i64.wrap (y7_4 + y6_3)) < p1)) with hc54_10 | hc54_10
              · replace hm := cT hc54_10 hm
                refine AWP.if_ true (Eq.trans (by kernel_rfl) (lit_tf (b := decide ((IntKind.i64.wrap (y7_4 + y6_3)) < p1)) hc54_10)) ?_
                refine AWP.text ?_
                refine Wy (.own 0) [] (Omv rfl) ?_
                refine Wy (.d (.lit (.int .i64 y7_4))) [] (Omv rfl) ?_
                refine Wy (.d (.lit (.int .i64 (IntKind.i64.wrap (y7_4 + y6_3))))) [] (Omv rfl) ?_
                refine Wy (.d (.lit (.int .i64 p1))) [] (Omv rfl) ?_
                refine Wy (.clo (.func 24) [] []) [] (Omv rfl) ?_
                obtain ⟨r60_6, hr60_6, hm⟩ := bnd hm
                refine Wy (.tup []) [(0, (.arr 43 3 (List.length r60_6) (flatD enc_GChange r60_6)))] (Ocf [0] [] [] 0 (ok_slices_symMergeCmpFunc_tally_Change__tally_order 1152921504606846976 y0_4 y7_4 (IntKind.i64.wrap (y7_4 + y6_3)) p1 r60_6 hr60_6) (fun a w => Try.call33 a w) rfl ⟨rfl, trivial⟩) ?_
                refine Walk.nil ?_
                refine Then.normal ?_
                refine Amk 71 1 ⟨((.own 0) :: ((.d (.lit (.int .i64 p1))) :: ((.clo (.func 24) [] []) :: (tp 3 ((.d (.lit (.int .i64 y6_3))) :: (tp 56 [])))))), [(.arr 43 3 (List.length r60_6) (flatD enc_GChange r60_6))], 1⟩ ?_
                refine AWP.text ?_
                refine Wy (.d (.lit (.int .i64 y6_3))) [] (Omv rfl) ?_
                refine Wy (.d (.lit (.int .i64 (IntKind.i64.wrap (y6_3 * 2))))) [] (Obn rfl (fun _ => hb_mul (k := .i64))) ?_
                refine Wy (.d (.lit (.int .i64 (IntKind.i64.wrap (y6_3 * 2))))) [] (Omv rfl) ?_
                refine Walk.nil ?_
                refine InBlock.normal ?_
                refine RoundK.normal ?_
                exact Rounds.weak (Weak.toK 71 0 0 [0]) (ih_3 (fu_3, r60_6, (IntKind.i64.wrap (y6_3 * 2))) hm (Nat.lt_succ_self _))
              · replace hm := cF hc54_10 hm
                refine AWP.if_ false (Eq.trans (by kernel_rfl) (lit_tf (b := decide ((IntKind.i64.wrap (y7_4 + y6_3)) < p1)) hc54_10)) ?_
                refine AWP.skip ?_
                refine Then.normal ?_
                refine Amk 71 1 ⟨((.own 0) :: ((.d (.lit (.int .i64 p1))) :: ((.clo (.func 24) [] []) :: (tp 3 ((.d (.lit (.int .i64 y6_3))) :: (tp 56 [])))))), [(.arr 43 3 (List.length y0_4) (flatD enc_GChange y0_4))], 1⟩ ?_
                refine AWP.text ?_
                refine Wy (.d (.lit (.int .i64 y6_3))) [] (Omv rfl) ?_
                refine Wy (.d (.lit (.int .i64 (IntKind.i64.wrap (y6_3 * 2))))) [] (Obn rfl (fun _ => hb_mul (k := .i64))) ?_
                refine Wy (.d (.lit (.int .i64 (IntKind.i64.wrap (y6_3 * 2))))) [] (Omv rfl) ?_
                refine Walk.nil ?_
                refine InBlock.normal ?_
                refine RoundK.normal ?_
                exact Rounds.weak (Weak.toK 71 0 0 [0]) (ih_3 (fu_3, y0_4, (IntKind.i64.wrap (y6_3 * 2))) hm (Nat.lt_succ_self _))
        · replace hm := cF hc30_8 hm
          refine AWP.if_ false (Eq.trans (by kernel_rfl) (lit_tf (b := decide (y6_3 < p1)) hc30_8)) ?_
          refine AWP.exit ?_
          refine Then.exit ?_
          refine RoundK.exit ?_
          refine InBlock.same ?_
          obtain rfl := Option.some.inj hm
          exact ret_n [0]

set_option maxRecDepth 20000 in
set_option maxHeartbeats 4000000 in
theorem ok_slices_SortStableFunc_Change__tally_order (p0 : (List GChange)) (r : (List GChange)) (h : m_slices_SortStableFunc_Change__tally_order p0 = some r) : GCall Try.prog 23 [(.own 0), (.clo (.func 24) [] [])] [(.arr 43 3 (List.length p0) (flatD enc_GChange p0))] (.tup []) [(.arr 43 3 (List.length r) (flatD enc_GChange r))] := by
  refine GCall.of_body (n := 9) (rs := []) Try.func23 rfl rfl rfl ?_
  refine Ato ⟨((.own 0) :: ((.clo (.func 24) [] []) :: (tu 7 []))), [(.arr 43 3 (List.length p0) (flatD enc_GChange p0))], 1⟩ ?_
  have hm := h
  unfold m_slices_SortStableFunc_Change__tally_order at hm
  refine AWP.text ?_
  refine Wy (.own 0) [] (Omv rfl) ?_
  refine Wy (.own 0) [] (Omv rfl) ?_
  refine Wy (.d (.lit (.int .i64 ((List.length p0 : Nat) : Int)))) [] (Oln rfl) ?_
  refine Wy (.clo (.func 24) [] []) [] (Omv rfl) ?_
  obtain ⟨r8_0, hr8_0, hm⟩ := bnd hm
  refine Wy (.tup []) [(0, (.arr 43 3 (List.length r8_0) (flatD enc_GChange r8_0)))] (Ocf [0] [] [] 0 (ok_slices_stableCmpFunc_tally_Change__tally_order p0 ((List.length p0 : Nat) : Int) r8_0 hr8_0) (fun a w => Try.call28 a w) rfl ⟨rfl, trivial⟩) ?_
  refine Walk.nil ?_
  obtain rfl := Option.some.inj hm
  exact ret_n [0]

set_option maxRecDepth 20000 in
set_option maxHeartbeats 4000000 in
theorem ok_tally_Normal_1 (p0 : GChange) (r : Bool) (h : m_tally_Normal_1 p0 = some r) : GCall Try.prog 26 [(.agg [(.d (.lit (.int .i64 p0.Loc))), (.d (.lit (.int .i64 p0.Time))), (.d (.lit (.int .i64 p0.N)))])] [] (.d (.lit (.bool r))) [] := by
  refine GCall.of_body (n := 6) (rs := [(.tmp 2)]) Try.func26 rfl rfl rfl ?_
  refine Ato ⟨((.agg [(.d (.lit (.int .i64 p0.Loc))), (.d (.lit (.int .i64 p0.Time))), (.d (.lit (.int .i64 p0.N)))]) :: (tu 5 [])), [], 0⟩ ?_
  have hm := h
  unfold m_tally_Normal_1 at hm
  refine AWP.seq ?_
  refine AWP.text ?_
  refine Wy (.loc 0 0) [(0, (.box [(.d (.lit (.int .i64 p0.Loc))), (.d (.lit (.int .i64 p0.Time))), (.d (.lit (.int .i64 p0.N)))]))] (Obx rfl) ?_
  refine Wy (.d (.lit (.bool false))) [] (Omv rfl) ?_
  refine Walk.nil ?_
  refine Then.normal ?_
  refine Amk 2 1 ⟨(tp 1 ((.loc 0 0) :: (tp 4 []))), [(.box [(.d (.lit (.int .i64 p0.Loc))), (.d (.lit (.int .i64 p0.Time))), (.d (.lit (.int .i64 p0.N)))])], 0⟩ ?_
  refine AWP.seq ?_
  refine AWP.text ?_
  refine Wy (.loc 0 2) [] (Ofa rfl) ?_
  refine Wy (.d (.lit (.int .i64 p0.N))) [] (Old rfl) ?_
  refine Wy (.d (.lit (.bool (decide (p0.N = 0))))) [] (Obn rfl (fun _ => hb_eql (k := .i64))) ?_
  refine Wy (.d (.lit (.bool (decide (p0.N = 0))))) [] (Omv rfl) ?_
  refine Walk.nil ?_
  refine Then.normal ?_
  refine AWP.ret ?_
  obtain rfl := Option.some.inj hm
  exact ret_i []

set_option maxRecDepth 20000 in
set_option maxHeartbeats 4000000 in
theorem ok_slices_IndexFunc_Change__tally_Normal_1 (p0 : (List GChange)) (r : Int) (h : m_slices_IndexFunc_Change__tally_Normal_1 p0 = some r) : GCall Try.prog 31 [(.d (.sl (List.length p0) (flatD enc_GChange p0))), (.clo (.func 26) [] [])] [] (.d (.lit (.int .i64 r))) [] := by
  refine GCall.of_body (n := 19) (rs := [(.tmp 4)]) Try.func31 rfl rfl rfl ?_
  refine Ato ⟨((.d (.sl (List.length p0) (flatD enc_GChange p0))) :: ((.clo (.func 26) [] []) :: (tu 17 []))), [], 0⟩ ?_
  have hm := h
  unfold m_slices_IndexFunc_Change__tally_Normal_1 at hm
  refine AWP.seq ?_
  refine AWP.text ?_
  refine Wy (.d (.lit (.int .i64 0))) [] (Omv rfl) ?_
  refine Walk.nil ?_
  refine Then.normal ?_
  refine Amk 3 0 ⟨((.d (.sl (List.length p0) (flatD enc_GChange p0))) :: ((.clo (.func 26) [] []) :: (tp 17 []))), [], 0⟩ ?_
  refine AWP.seq ?_
  refine AWP.seq ?_
  refine AWP.text ?_
  refine Wy (.d (.sl (List.length p0) (flatD enc_GChange p0))) [] (Omv rfl) ?_
  refine Wy (.d (.lit (.int .i64 ((List.length p0 : Nat) : Int)))) [] (Oln rfl) ?_
  refine Wy (.d (.lit (.int .i64 0))) [] (Omv rfl) ?_
  refine Walk.nil ?_
  refine Then.normal ?_
  refine Amk 387 0 ⟨((.d (.sl (List.length p0) (flatD enc_GChange p0))) :: ((.clo (.func 26) [] []) :: (tp 5 ((.d (.lit (.int .i64 ((List.length p0 : Nat) : Int)))) :: ((.d (.lit (.int .i64 0))) :: (tp 10 [])))))), [], 0⟩ ?_
  refine AWP.block ?_
  refine AWP.loopI (α := Nat × Int)
    (fun x => match x with | (fu_1, y8_1) => (⟨((.d (.sl (List.length p0) (flatD enc_GChange p0))) :: ((.clo (.func 26) [] []) :: (tp 5 ((.d (.lit (.int .i64 ((List.length p0 : Nat) : Int)))) :: ((.d (.lit (.int .i64 y8_1))) :: (tp 10 [])))))), [], 0⟩ : St))
    (fun x => match x with | (fu_1, y8_1) => m_slices_IndexFunc_Change__tally_Normal_1_l1 p0 fu_1 y8_1 = some r)
    (fun x => match x with | (fu_1, y8_1) => fu_1) (1152921504606846976, 0)
    (Weak.toK 387 0 0 []) hm ?_
  rintro ⟨fu_1, y8_1⟩ n_1 hm ih_1
  try dsimp only at hm ih_1 ⊢
  cases fu_1 with
  | zero => exact absurd hm (by unfold m_slices_IndexFunc_Change__tally_Normal_1_l1; simp)
  | succ fu_1 =>
    unfold m_slices_IndexFunc_Change__tally_Normal_1_l1 at hm
    refine AWP.seq ?_
    refine AWP.text ?_
    refine Wy (.d (.lit (.bool (decide (y8_1 < ((List.length p0 : Nat) : Int)))))) [] (Obn rfl (fun _ => hb_lss (k := .i64))) ?_
    refine Walk.nil ?_
    refine Then.normal ?_
    refine Amk 899 0 ⟨((.d (.sl (List.length p0) (flatD enc_GChange p0))) :: ((.clo (.func 26) [] []) :: (tp 5 ((.d (.lit (.int .i64 ((List.length p0 : Nat) : Int)))) :: ((.d (.lit (.int .i64 y8_1))) :: ((.d (.lit (.bool (decide (y8_1 < ((List.length p0 : Nat) : Int)))))) :: (tp 9 []))))))), [], 0⟩ ?_
    refine AWP.seq ?_
    rcases tf_ (decide (y8_1 < ((List.length p0 : Nat) : Int))) with hc9_3 | hc9_3
    · replace hm := cT hc9_3 hm
      refine AWP.if_ true (Eq.trans (by kernel_rfl) (lit_tf (b := decide (y8_1 < ((List.length p0 : Nat) : Int))) hc9_3)) ?_
      refine AWP.skip ?_
      refine Then.normal ?_
      refine Amk 387 0 ⟨((.d (.sl (List.length p0) (flatD enc_GChange p0))) :: ((.clo (.func 26) [] []) :: (tp 5 ((.d (.lit (.int .i64 ((List.length p0 : Nat) : Int)))) :: ((.d (.lit (.int .i64 y8_1))) :: (tp 10 [])))))), [], 0⟩ ?_
      refine AWP.seq ?_
      refine AWP.block ?_
      refine AWP.seq ?_
      refine AWP.text ?_
      refine Wy (.d (.lit (.int .i64 y8_1))) [] (Omv rfl) ?_
      refine Wy (.d (.lit (.int .i64 y8_1))) [] (Omv rfl) ?_
      refine Walk.nil ?_
      refine Then.normal ?_
      refine Amk 419 0 ⟨((.d (.sl (List.length p0) (flatD enc_GChange p0))) :: ((.clo (.func 26) [] []) :: (tp 3 ((.d (.lit (.int .i64 y8_1))) :: (tp 1 ((.d (.lit (.int .i64 ((List.length p0 : Nat) : Int)))) :: ((.d (.lit (.int .i64 y8_1))) :: (tp 10 [])))))))), [], 0⟩ ?_
      refine AWP.seq ?_
      refine AWP.text ?_
      refine Wy (.clo (.func 26) [] []) [] (Omv rfl) ?_
      refine Wy (.d (.sl (List.length p0) (flatD enc_GChange p0))) [] (Omv rfl) ?_
      refine Wy (.d (.lit (.int .i64 y8_1))) [] (Omv rfl) ?_
      obtain ⟨x14_2, hx14_2, hm⟩ := bnd hm
      obtain ⟨hx14_2i, hx14_2g⟩ := geti_some hx14_2
      refine Wy (.d (.ref (List.drop ((Int.toNat y8_1) * 3) (flatD enc_GChange p0)))) [] (Oia rfl enc_GChange_len hx14_2i hx14_2g) ?_
      refine Wy (.agg [(.d (.lit (.int .i64 x14_2.Loc))), (.d (.lit (.int .i64 x14_2.Time))), (.d (.lit (.int .i64 x14_2.N)))]) [] (Lf rfl enc_GChange_len hx14_2g) ?_
      obtain ⟨r16_2, hr16_2, hm⟩ := bnd hm
      refine Wy (.d (.lit (.bool r16_2))) [] (Ocf [] [] [] 0 (ok_tally_Normal_1 x14_2 r16_2 hr16_2) (fun a w => Try.call26 a w) rfl trivial) ?_
      refine Walk.nil ?_
      refine Then.normal ?_
      refine Amk 65955 0 ⟨((.d (.sl (List.length p0) (flatD enc_GChange p0))) :: ((.clo (.func 26) [] []) :: (tp 3 ((.d (.lit (.int .i64 y8_1))) :: (tp 1 ((.d (.lit (.int .i64 ((List.length p0 : Nat) : Int)))) :: ((.d (.lit (.int .i64 y8_1))) :: (tp 7 ((.d (.lit (.bool r16_2))) :: (tp 2 [])))))))))), [], 0⟩ ?_
      rcases tf_ r16_2 with hc16_4 | hc16_4
      · replace hm := cT hc16_4 hm
        refine AWP.if_ true (Eq.trans (by kernel_rfl) (lit_tf (b := r16_2) hc16_4)) ?_
        refine AWP.seq ?_
        refine AWP.text ?_
        refine Wy (.d (.lit (.int .i64 y8_1))) [] (Omv rfl) ?_
        refine Wy (.d (.lit (.int .i64 y8_1))) [] (Omv rfl) ?_
        refine Walk.nil ?_
        refine Then.normal ?_
        refine AWP.ret ?_
        refine InBlock.ret ?_
        refine Then.ret ?_
        refine RoundK.ret ?_
        refine InBlock.ret ?_
        refine Then.ret ?_
        obtain rfl := Option.some.inj hm
        exact ret_i []
      · replace hm := cF hc16_4 hm
        refine AWP.if_ false (Eq.trans (by kernel_rfl) (lit_tf (b := r16_2) hc16_4)) ?_
        refine AWP.skip ?_
        refine InBlock.normal ?_
        refine Then.normal ?_
        refine Amk 387 0 ⟨((.d (.sl (List.length p0) (flatD enc_GChange p0))) :: ((.clo (.func 26) [] []) :: (tp 5 ((.d (.lit (.int .i64 ((List.length p0 : Nat) : Int)))) :: ((.d (.lit (.int .i64 y8_1))) :: (tp 10 [])))))), [], 0⟩ ?_
        refine AWP.text ?_
        refine Wy (.d (.lit (.int .i64 (IntKind.i64.wrap (y8_1 + 1))))) [] (Obn rfl (fun _ => hb_add (k := .i64))) ?_
        refine Wy (.d (.lit (.int .i64 (IntKind.i64.wrap (y8_1 + 1))))) [] (Omv rfl) ?_
        refine Walk.nil ?_
        refine RoundK.normal ?_
        exact Rounds.weak (Weak.toK 387 0 0 []) (ih_1 (fu_1, (IntKind.i64.wrap (y8_1 + 1))) hm (Nat.lt_succ_self _))
    · replace hm := cF hc9_3 hm
      refine AWP.if_ false (Eq.trans (by kernel_rfl) (lit_tf (b := decide (y8_1 < ((List.length p0 : Nat) : Int))) hc9_3)) ?_
      refine AWP.exit ?_
      refine Then.exit ?_
      refine RoundK.exit ?_
      refine InBlock.same ?_
      refine Then.normal ?_
      refine Amk 0 0 ⟨(tp 19 []), [], 0⟩ ?_
      refine AWP.seq ?_
      refine AWP.text ?_
      refine Wy (.d (.lit (.int .i64 (-1)))) [] (Omv rfl) ?_
      refine Walk.nil ?_
      refine Then.normal ?_
      refine AWP.ret ?_
      obtain rfl := Option.some.inj hm
      exact ret_i []

set_option maxRecDepth 20000 in
set_option maxHeartbeats 4000000 in
theorem ok_slices_DeleteFunc_Change__tally_Normal_1 (p0 : (List GChange)) (r : (List GChange)) (h : m_slices_DeleteFunc_Change__tally_Normal_1 p0 = some r) : GCall Try.prog 25 [(.own 0), (.clo (.func 26) [] [])] [(.arr 43 3 (List.length p0) (flatD enc_GChange p0))] (.d (.sl (List.length r) (flatD enc_GChange r))) [.gone] := by
  refine GCall.of_body (n := 42) (rs := [(.tmp 4)]) Try.func25 rfl rfl rfl ?_
  refine Ato ⟨((.own 0) :: ((.clo (.func 26) [] []) :: (tu 40 []))), [(.arr 43 3 (List.length p0) (flatD enc_GChange p0))], 1⟩ ?_
  have hm := h
  unfold m_slices_DeleteFunc_Change__tally_Normal_1 at hm
  refine AWP.seq ?_
  refine AWP.text ?_
  refine Wy (.d .nil) [] (Omv rfl) ?_
  refine Walk.nil ?_
  refine Then.normal ?_
  refine Amk 3 1 ⟨((.own 0) :: ((.clo (.func 26) [] []) :: (tp 40 []))), [(.arr 43 3 (List.length p0) (flatD enc_GChange p0))], 1⟩ ?_
  refine AWP.seq ?_
  refine AWP.text ?_
  refine Wy (.own 0) [] (Omv rfl) ?_
  refine Wy (.clo (.func 26) [] []) [] (Omv rfl) ?_
  obtain ⟨r10_0, hr10_0, hm⟩ := bnd hm
  refine Wy (.d (.lit (.int .i64 r10_0))) [] (Ocp [] [] [0] 0 (ok_slices_IndexFunc_Change__tally_Normal_1 p0 r10_0 hr10_0) (plain_triv (by simp [A.Plain, A.Plains, D.Plain, byteD])) (fun a w => Try.call31 a w) rfl trivial) ?_
  refine Wy (.d (.lit (.int .i64 r10_0))) [] (Omv rfl) ?_
  refine Walk.nil ?_
  refine Then.normal ?_
  refine Amk 35 1 ⟨((.own 0) :: ((.clo (.func 26) [] []) :: (tp 3 ((.d (.lit (.int .i64 r10_0))) :: (tp 36 []))))), [(.arr 43 3 (List.length p0) (flatD enc_GChange p0))], 1⟩ ?_
  refine AWP.seq ?_
  refine AWP.seq ?_
  refine AWP.text ?_
  refine Wy (.d (.lit (.int .i64 r10_0))) [] (Omv rfl) ?_
  refine Wy (.d (.lit (.bool (decide (r10_0 = (-1)))))) [] (Obn rfl (fun _ => hb_eql (k := .i64))) ?_
  refine Walk.nil ?_
  refine Then.normal ?_
  refine Amk 4131 1 ⟨((.own 0) :: ((.clo (.func 26) [] []) :: (tp 3 ((.d (.lit (.int .i64 r10_0))) :: (tp 6 ((.d (.lit (.bool (decide (r10_0 = (-1)))))) :: (tp 29 []))))))), [(.arr 43 3 (List.length p0) (flatD enc_GChange p0))], 1⟩ ?_
  rcases tf_ (decide (r10_0 = (-1))) with hc12_8 | hc12_8
  · replace hm := cT hc12_8 hm
    refine AWP.if_ true (Eq.trans (by kernel_rfl) (lit_tf (b := decide (r10_0 = (-1))) hc12_8)) ?_
    refine AWP.seq ?_
    refine AWP.text ?_
    refine Wy (.own 0) [] (Omv rfl) ?_
    refine Wy (.own 0) [] (Omv rfl) ?_
    refine Walk.nil ?_
    refine Then.normal ?_
    refine Afz [0] ⟨((.d (.sl (List.length p0) (flatD enc_GChange p0))) :: ((.clo (.func 26) [] []) :: (tp 2 ((.d (.sl (List.length p0) (flatD enc_GChange p0))) :: ((.d (.lit (.int .i64 r10_0))) :: (tp 6 ((.d (.lit (.bool (decide (r10_0 = (-1)))))) :: ((.d (.sl (List.length p0) (flatD enc_GChange p0))) :: (tp 28 []))))))))), [(.fro 43 3 (List.length p0) (flatD enc_GChange p0))], 1⟩ ?_
    refine Ago 0 ⟨((.d (.sl (List.length p0) (flatD enc_GChange p0))) :: ((.clo (.func 26) [] []) :: (tp 2 ((.d (.sl (List.length p0) (flatD enc_GChange p0))) :: ((.d (.lit (.int .i64 r10_0))) :: (tp 6 ((.d (.lit (.bool (decide (r10_0 = (-1)))))) :: ((.d (.sl (List.length p0) (flatD enc_GChange p0))) :: (tp 28 []))))))))), [.gone], 1⟩ ?_
    refine AWP.ret ?_
    refine Then.ret ?_
    obtain rfl := Option.some.inj hm
    exact ret_i [0]
  · replace hm := cF hc12_8 hm
    refine AWP.if_ false (Eq.trans (by kernel_rfl) (lit_tf (b := decide (r10_0 = (-1))) hc12_8)) ?_
    refine AWP.skip ?_
    refine Then.normal ?_
    refine Amk 35 1 ⟨((.own 0) :: ((.clo (.func 26) [] []) :: (tp 3 ((.d (.lit (.int .i64 r10_0))) :: (tp 36 []))))), [(.arr 43 3 (List.length p0) (flatD enc_GChange p0))], 1⟩ ?_
    refine AWP.seq ?_
    refine AWP.seq ?_
    refine AWP.text ?_
    refine Wy (.d (.lit (.int .i64 r10_0))) [] (Omv rfl) ?_
    refine Wy (.d (.lit (.int .i64 (IntKind.i64.wrap (r10_0 + 1))))) [] (Obn rfl (fun _ => hb_add (k := .i64))) ?_
    refine Wy (.d (.lit (.int .i64 (IntKind.i64.wrap (r10_0 + 1))))) [] (Omv rfl) ?_
    refine Walk.nil ?_
    refine Then.normal ?_
    refine Amk 99 1 ⟨((.own 0) :: ((.clo (.func 26) [] []) :: (tp 3 ((.d (.lit (.int .i64 r10_0))) :: ((.d (.lit (.int .i64 (IntKind.i64.wrap (r10_0 + 1))))) :: (tp 35 [])))))), [(.arr 43 3 (List.length p0) (flatD enc_GChange p0))], 1⟩ ?_
    refine AWP.block ?_
    refine AWP.loopI (α := Nat × (List GChange) × Int × Int)
      (fun x => match x with | (fu_1, y0_1, y5_1, y6_1) => (⟨((.own 0) :: ((.clo (.func 26) [] []) :: (tp 3 ((.d (.lit (.int .i64 y5_1))) :: ((.d (.lit (.int .i64 y6_1))) :: (tp 35 [])))))), [(.arr 43 3 (List.length y0_1) (flatD enc_GChange y0_1))], 1⟩ : St))
      (fun x => match x with | (fu_1, y0_1, y5_1, y6_1) => m_slices_DeleteFunc_Change__tally_Normal_1_l1  fu_1 y0_1 y5_1 y6_1 = some r)
      (fun x => match x with | (fu_1, y0_1, y5_1, y6_1) => fu_1) (1152921504606846976, p0, r10_0, (IntKind.i64.wrap (r10_0 + 1)))
      (Weak.toK 99 0 0 [0]) hm ?_
    rintro ⟨fu_1, y0_1, y5_1, y6_1⟩ n_1 hm ih_1
    try dsimp only at hm ih_1 ⊢
    cases fu_1 with
    | zero => exact absurd hm (by unfold m_slices_DeleteFunc_Change__tally_Normal_1_l1; simp)
    | succ fu_1 =>
      unfold m_slices_DeleteFunc_Change__tally_Normal_1_l1 at hm
      refine AWP.seq ?_
      refine AWP.seq ?_
      refine AWP.text ?_
      refine Wy (.d (.lit (.int .i64 y6_1))) [] (Omv rfl) ?_
      refine Wy (.own 0) [] (Omv rfl) ?_
      refine Wy (.d (.lit (.int .i64 ((List.length y0_1 : Nat) : Int)))) [] (Oln rfl) ?_
      refine Wy (.d (.lit (.bool (decide (y6_1 < ((List.length y0_1 : Nat) : Int)))))) [] (Obn rfl (fun _ => hb_lss (k := .i64))) ?_
      refine Walk.nil ?_
      refine Then.normal ?_
      refine Amk 524387 1 ⟨((.own 0) :: ((.clo (.func 26) [] []) :: (tp 3 ((.d (.lit (.int .i64 y5_1))) :: ((.d (.lit (.int .i64 y6_1))) :: (tp 12 ((.d (.lit (.bool (decide (y6_1 < ((List.length y0_1 : Nat) : Int)))))) :: (tp 22 [])))))))), [(.arr 43 3 (List.length y0_1) (flatD enc_GChange y0_1))], 1⟩ ?_
      rcases tf_ (decide (y6_1 < ((List.length y0_1 : Nat) : Int))) with hc19_9 | hc19_9
      · replace hm := cT hc19_9 hm
        refine AWP.if_ true (Eq.trans (by kernel_rfl) (lit_tf (b := decide (y6_1 < ((List.length y0_1 : Nat) : Int))) hc19_9)) ?_
        refine AWP.skip ?_
        refine Then.normal ?_
        refine Amk 99 1 ⟨((.own 0) :: ((.clo (.func 26) [] []) :: (tp 3 ((.d (.lit (.int .i64 y5_1))) :: ((.d (.lit (.int .i64 y6_1))) :: (tp 35 [])))))), [(.arr 43 3 (List.length y0_1) (flatD enc_GChange y0_1))], 1⟩ ?_
        refine AWP.seq ?_
        refine AWP.block ?_
        refine AWP.seq ?_
        refine AWP.text ?_
        refine Wy (.own 0) [] (Omv rfl) ?_
        refine Wy (.d (.lit (.int .i64 y6_1))) [] (Omv rfl) ?_
        obtain ⟨x24_3, hx24_3, hm⟩ := bnd hm
        obtain ⟨hx24_3i, hx24_3g⟩ := geti_some hx24_3
        refine Wy (.loc 0 ((Int.toNat y6_1) * 3)) [] (Oia rfl enc_GChange_len hx24_3i hx24_3g) ?_
        refine Wy (.agg [(.d (.lit (.int .i64 x24_3.Loc))), (.d (.lit (.int .i64 x24_3.Time))), (.d (.lit (.int .i64 x24_3.N)))]) [] (Lr rfl enc_GChange_len hx24_3g) ?_
        refine Wy (.loc 1 0) [(1, (.box [(.d (.lit (.int .i64 0))), (.d (.lit (.int .i64 0))), (.d (.lit (.int .i64 0)))]))] (Oal rfl) ?_
        refine Wy (.tup []) [(1, (.box [(.d (.lit (.int .i64 x24_3.Loc))), (.d (.lit (.int .i64 x24_3.Time))), (.d (.lit (.int .i64 x24_3.N)))]))] (Ost rfl) ?_
        refine Walk.nil ?_
        refine Then.normal ?_
        refine Amk 227 3 ⟨((.own 0) :: ((.clo (.func 26) [] []) :: (tp 3 ((.d (.lit (.int .i64 y5_1))) :: ((.d (.lit (.int .i64 y6_1))) :: ((.loc 1 0) :: (tp 34 []))))))), [(.arr 43 3 (List.length y0_1) (flatD enc_GChange y0_1)), (.box [(.d (.lit (.int .i64 x24_3.Loc))), (.d (.lit (.int .i64 x24_3.Time))), (.d (.lit (.int .i64 x24_3.N)))])], 1⟩ ?_
        refine AWP.seq ?_
        refine AWP.text ?_
        refine Wy (.clo (.func 26) [] []) [] (Omv rfl) ?_
        refine Wy (.agg [(.d (.lit (.int .i64 x24_3.Loc))), (.d (.lit (.int .i64 x24_3.Time))), (.d (.lit (.int .i64 x24_3.N)))]) [] (Old rfl) ?_
        obtain ⟨r28_4, hr28_4, hm⟩ := bnd hm
        refine Wy (.d (.lit (.bool r28_4))) [] (Ocf [] [] [] 0 (ok_tally_Normal_1 x24_3 r28_4 hr28_4) (fun a w => Try.call26 a w) rfl trivial) ?_
        refine Wy (.d (.lit (.bool (!r28_4)))) [] (Ocs (by kernel_rfl) (op_un rfl (a1 := .bool r28_4) (by kernel_rfl) (fun _ => hu_not))) ?_
        refine Walk.nil ?_
        refine Then.normal ?_
        refine Amk 536871139 3 ⟨((.own 0) :: ((.clo (.func 26) [] []) :: (tp 3 ((.d (.lit (.int .i64 y5_1))) :: ((.d (.lit (.int .i64 y6_1))) :: ((.loc 1 0) :: (tp 21 ((.d (.lit (.bool (!r28_4)))) :: (tp 12 []))))))))), [(.arr 43 3 (List.length y0_1) (flatD enc_GChange y0_1)), (.box [(.d (.lit (.int .i64 x24_3.Loc))), (.d (.lit (.int .i64 x24_3.Time))), (.d (.lit (.int .i64 x24_3.N)))])], 1⟩ ?_
        rcases tf_ (!r28_4) with hc29_10 | hc29_10
        · replace hm := cT hc29_10 hm
          refine AWP.if_ true (Eq.trans (by kernel_rfl) (lit_tf (b := (!r28_4)) hc29_10)) ?_
          refine AWP.seq ?_
          refine AWP.text ?_
          refine Wy (.own 0) [] (Omv rfl) ?_
          refine Wy (.d (.lit (.int .i64 y5_1))) [] (Omv rfl) ?_
          refine Wy (.agg [(.d (.lit (.int .i64 x24_3.Loc))), (.d (.lit (.int .i64 x24_3.Time))), (.d (.lit (.int .i64 x24_3.N)))]) [] (Old rfl) ?_
          obtain ⟨x33_5, hx33_5, hm⟩ := bnd hm
          obtain ⟨hx33_5i, hx33_5g⟩ := geti_some hx33_5
          refine Wy (.loc 0 ((Int.toNat y5_1) * 3)) [] (Oia rfl enc_GChange_len hx33_5i hx33_5g) ?_
          refine Wy (.tup []) [(0, (.arr 43 3 (List.length (List.set y0_1 (Int.toNat y5_1) x24_3)) (flatD enc_GChange (List.set y0_1 (Int.toNat y5_1) x24_3))))] (Osr 0 rfl enc_GChange_len hx33_5g x24_3) ?_
          refine Walk.nil ?_
          refine Then.normal ?_
          refine Amk 99 1 ⟨((.own 0) :: ((.clo (.func 26) [] []) :: (tp 3 ((.d (.lit (.int .i64 y5_1))) :: ((.d (.lit (.int .i64 y6_1))) :: (tp 35 [])))))), [(.arr 43 3 (List.length (List.set y0_1 (Int.toNat y5_1) x24_3)) (flatD enc_GChange (List.set y0_1 (Int.toNat y5_1) x24_3))), .gone], 1⟩ ?_
          refine AWP.text ?_
          refine Wy (.d (.lit (.int .i64 y5_1))) [] (Omv rfl) ?_
          refine Wy (.d (.lit (.int .i64 (IntKind.i64.wrap (y5_1 + 1))))) [] (Obn rfl (fun _ => hb_add (k := .i64))) ?_
          refine Wy (.d (.lit (.int .i64 (IntKind.i64.wrap (y5_1 + 1))))) [] (Omv rfl) ?_
          refine Walk.nil ?_
          refine InBlock.normal ?_
          refine Then.normal ?_
          refine Amk 99 1 ⟨((.own 0) :: ((.clo (.func 26) [] []) :: (tp 3 ((.d (.lit (.int .i64 (IntKind.i64.wrap (y5_1 + 1))))) :: ((.d (.lit (.int .i64 y6_1))) :: (tp 35 [])))))), [(.arr 43 3 (List.length (List.set y0_1 (Int.toNat y5_1) x24_3)) (flatD enc_GChange (List.set y0_1 (Int.toNat y5_1) x24_3))), .gone], 1⟩ ?_
          refine AWP.text ?_
          refine Wy (.d (.lit (.int .i64 y6_1))) [] (Omv rfl) ?_
          refine Wy (.d (.lit (.int .i64 (IntKind.i64.wrap (y6_1 + 1))))) [] (Obn rfl (fun _ => hb_add (k := .i64))) ?_
          refine Wy (.d (.lit (.int .i64 (IntKind.i64.wrap (y6_1 + 1))))) [] (Omv rfl) ?_
          refine Walk.nil ?_
          refine RoundK.normal ?_
          exact Rounds.weak (Weak.toK 99 0 0 [0]) (ih_1 (fu_1, (List.set y0_1 (Int.toNat y5_1) x24_3), (IntKind.i64.wrap (y5_1 + 1)), (IntKind.i64.wrap (y6_1 + 1))) hm (Nat.lt_succ_self _))
        · replace hm := cF hc29_10 hm
          refine AWP.if_ false (Eq.trans (by kernel_rfl) (lit_tf (b := (!r28_4)) hc29_10)) ?_
          refine AWP.skip ?_
          refine InBlock.normal ?_
          refine Then.normal ?_
          refine Amk 99 1 ⟨((.own 0) :: ((.clo (.func 26) [] []) :: (tp 3 ((.d (.lit (.int .i64 y5_1))) :: ((.d (.lit (.int .i64 y6_1))) :: (tp 35 [])))))), [(.arr 43 3 (List.length y0_1) (flatD enc_GChange y0_1)), .gone], 1⟩ ?_
          refine AWP.text ?_
          refine Wy (.d (.lit (.int .i64 y6_1))) [] (Omv rfl) ?_
          refine Wy (.d (.lit (.int .i64 (IntKind.i64.wrap (y6_1 + 1))))) [] (Obn rfl (fun _ => hb_add (k := .i64))) ?_
          refine Wy (.d (.lit (.int .i64 (IntKind.i64.wrap (y6_1 + 1))))) [] (Omv rfl) ?_
          refine Walk.nil ?_
          refine RoundK.normal ?_
          exact Rounds.weak (Weak.toK 99 0 0 [0]) (ih_1 (fu_1, y0_1, y5_1, (IntKind.i64.wrap (y6_1 + 1))) hm (Nat.lt_succ_self _))
      · replace hm := cF hc19_9 hm
        refine AWP.if_ false (Eq.trans (by kernel_rfl) (lit_tf (b := decide (y6_1 < ((List.length y0_1 : Nat) : Int))) hc19_9)) ?_
        refine AWP.exit ?_
        refine Then.exit ?_
        refine RoundK.exit ?_
        refine InBlock.same ?_
        refine Then.normal ?_
        refine Amk 33 1 ⟨((.own 0) :: (tp 4 ((.d (.lit (.int .i64 y5_1))) :: (tp 36 [])))), [(.arr 43 3 (List.length y0_1) (flatD enc_GChange y0_1))], 1⟩ ?_
        refine AWP.seq ?_
        refine AWP.text ?_
        refine Wy (.own 0) [] (Omv rfl) ?_
        refine Wy (.d (.lit (.int .i64 y5_1))) [] (Omv rfl) ?_
        obtain ⟨hb38_6, hm⟩ := chk_some hm
        refine Wy (.sub 0 ((Int.toNat y5_1) * 3) (List.length y0_1 - (Int.toNat y5_1) - 1 + 1)) [] (Osb rfl (e := 43) (k := .i64) (iv := y5_1) enc_GChange_len (by omega) (by omega)) ?_
        refine Wy (.tup []) [(0, (.arr 43 3 (List.length (clr y0_1 (Int.toNat y5_1) ((GChange.mk 0 0 0) : GChange))) (flatD enc_GChange (clr y0_1 (Int.toNat y5_1) ((GChange.mk 0 0 0) : GChange)))))] (Ocl rfl elemOK_27 enc_GChange_len (by omega)) ?_
        refine Walk.nil ?_
        refine Then.normal ?_
        refine Amk 33 1 ⟨((.own 0) :: (tp 4 ((.d (.lit (.int .i64 y5_1))) :: (tp 36 [])))), [(.arr 43 3 (List.length (clr y0_1 (Int.toNat y5_1) ((GChange.mk 0 0 0) : GChange))) (flatD enc_GChange (clr y0_1 (Int.toNat y5_1) ((GChange.mk 0 0 0) : GChange))))], 1⟩ ?_
        refine AWP.seq ?_
        refine Afz [0] ⟨((.d (.sl (List.length (clr y0_1 (Int.toNat y5_1) ((GChange.mk 0 0 0) : GChange))) (flatD enc_GChange (clr y0_1 (Int.toNat y5_1) ((GChange.mk 0 0 0) : GChange))))) :: (tp 4 ((.d (.lit (.int .i64 y5_1))) :: (tp 36 [])))), [(.fro 43 3 (List.length (clr y0_1 (Int.toNat y5_1) ((GChange.mk 0 0 0) : GChange))) (flatD enc_GChange (clr y0_1 (Int.toNat y5_1) ((GChange.mk 0 0 0) : GChange))))], 1⟩ ?_
        refine AWP.text ?_
        refine Wy (.d (.sl (List.length (clr y0_1 (Int.toNat y5_1) ((GChange.mk 0 0 0) : GChange))) (flatD enc_GChange (clr y0_1 (Int.toNat y5_1) ((GChange.mk 0 0 0) : GChange))))) [] (Omv rfl) ?_
        refine Wy (.d (.lit (.int .i64 y5_1))) [] (Omv rfl) ?_
        obtain ⟨s41_7, hs41_7, hm⟩ := bnd hm; obtain ⟨hs41_7a, hs41_7b, hs41_7c, hs41_7d, hs41_7e⟩ := cut_some hs41_7
        refine Wy (.d (.sl (List.length s41_7) (flatD enc_GChange s41_7))) [] (op_cut rfl (e := 43) (sz := 3) (by kernel_rfl) (l := (clr y0_1 (Int.toNat y5_1) ((GChange.mk 0 0 0) : GChange))) (enc := enc_GChange) (by kernel_rfl) enc_GChange_len (a := (Int.toNat 0)) (b := (Int.toNat y5_1)) (by exact rfl) (⟨.i64, y5_1, by kernel_rfl, hs41_7b⟩) hs41_7c hs41_7d hs41_7e) ?_
        refine Wy (.d (.sl (List.length s41_7) (flatD enc_GChange s41_7))) [] (Omv rfl) ?_
        refine Walk.nil ?_
        refine Then.normal ?_
        refine Ago 0 ⟨((.d (.sl (List.length (clr y0_1 (Int.toNat y5_1) ((GChange.mk 0 0 0) : GChange))) (flatD enc_GChange (clr y0_1 (Int.toNat y5_1) ((GChange.mk 0 0 0) : GChange))))) :: (tp 3 ((.d (.sl (List.length s41_7) (flatD enc_GChange s41_7))) :: ((.d (.lit (.int .i64 y5_1))) :: (tp 33 ((.d (.sl (List.length (clr y0_1 (Int.toNat y5_1) ((GChange.mk 0 0 0) : GChange))) (flatD enc_GChange (clr y0_1 (Int.toNat y5_1) ((GChange.mk 0 0 0) : GChange))))) :: ((.d (.lit (.int .i64 y5_1))) :: ((.d (.sl (List.length s41_7) (flatD enc_GChange s41_7))) :: [])))))))), [.gone], 1⟩ ?_
        refine AWP.ret ?_
        obtain rfl := Option.some.inj hm
        exact ret_i [0]

set_option maxRecDepth 20000 in
set_option maxHeartbeats 4000000 in
theorem ok_tally_Normal (p0 : (List GChange)) (r : (List GChange)) (h : m_tally_Normal p0 = some r) : GCall Try.prog 20 [(.d (.sl (List.length p0) (flatD enc_GChange p0)))] [] (.d (.sl (List.length r) (flatD enc_GChange r))) [] := by
  refine GCall.of_body (n := 53) (rs := [(.tmp 2)]) Try.func20 rfl rfl rfl ?_
  refine Ato ⟨((.d (.sl (List.length p0) (flatD enc_GChange p0))) :: (tu 52 [])), [], 0⟩ ?_
  have hm := h
  unfold m_tally_Normal at hm
  refine AWP.seq ?_
  refine AWP.text ?_
  refine Wy (.d .nil) [] (Omv rfl) ?_
  refine Walk.nil ?_
  refine Then.normal ?_
  refine Amk 1 0 ⟨((.d (.sl (List.length p0) (flatD enc_GChange p0))) :: (tp 52 [])), [], 0⟩ ?_
  refine AWP.seq ?_
  refine AWP.text ?_
  refine Wy (.d (.sl (List.length p0) (flatD enc_GChange p0))) [] (Omv rfl) ?_
  refine Wy (.d (.lit (.int .i64 ((List.length p0 : Nat) : Int)))) [] (Oln rfl) ?_
  obtain ⟨m9_0, hm9_0, hm⟩ := bnd hm; obtain ⟨hm9_0i, hm9_0l, hm9_0e⟩ := mk_some hm9_0
  refine Wy (.own 0) [(0, (.arr 43 3 (List.length m9_0) (flatD enc_GChange m9_0)))] (OcB (op_make rfl elemOK_27 (by kernel_rfl) (kl := .i64) (kc := .i64) (L := ((List.length p0 : Nat) : Int)) (C := ((List.length p0 : Nat) : Int)) (by kernel_rfl) (by kernel_rfl) (n := Int.toNat ((List.length p0 : Nat) : Int)) hm9_0i hm9_0i (by omega) (by kernel_rfl)) (bl_one (by rw [hm9_0e]; simp) (by rw [hm9_0e]; exact (flat_rep (by kernel_rfl))))) ?_
  refine Wy (.own 0) [] (Omv rfl) ?_
  refine Walk.nil ?_
  refine Then.normal ?_
  refine Amk 9 1 ⟨((.d (.sl (List.length p0) (flatD enc_GChange p0))) :: (tp 2 ((.own 0) :: (tp 49 [])))), [(.arr 43 3 (List.length m9_0) (flatD enc_GChange m9_0))], 0⟩ ?_
  refine AWP.seq ?_
  refine AWP.text ?_
  refine Wy (.own 0) [] (Omv rfl) ?_
  refine Wy (.d (.sl (List.length p0) (flatD enc_GChange p0))) [] (Omv rfl) ?_
  obtain ⟨c12_1, hc12_1, hm⟩ := bnd hm; obtain ⟨hc12_1e, hc12_1l⟩ := cpy_some hc12_1
  refine Wy (.d (.lit (.int .i64 ((List.length p0 : Nat) : Int)))) [(0, (.arr 43 3 (List.length c12_1) (flatD enc_GChange c12_1)))] (OcB (Ocs (by kernel_rfl) (op_copy rfl (e := 43) (sz := 3) (by kernel_rfl) (yd := (.own 0)) (by kernel_rfl) (id := 0) (off := 0) (dn := List.length m9_0) (by kernel_rfl) (n := List.length m9_0) (xs := flatD enc_GChange m9_0) (by kernel_rfl) (y := (.d (.sl (List.length p0) (flatD enc_GChange p0)))) (by kernel_rfl) (ds := flatD enc_GChange p0) (soff := 0) (k := List.length p0) (by kernel_rfl) (es := flatD enc_GChange p0) (flat_all enc_GChange_len) (flatD_length enc_GChange_len _) hc12_1l (cpy_fit enc_GChange_len hc12_1l) (by decide))) (bl_one (cpy_len hc12_1e hc12_1l) (by rw [hc12_1e]; exact cpy_put enc_GChange_len hc12_1l))) ?_
  refine Walk.nil ?_
  refine Then.normal ?_
  refine Amk 8 1 ⟨(tp 3 ((.own 0) :: (tp 49 []))), [(.arr 43 3 (List.length c12_1) (flatD enc_GChange c12_1))], 0⟩ ?_
  refine AWP.seq ?_
  refine AWP.text ?_
  refine Wy (.own 0) [] (Omv rfl) ?_
  obtain ⟨r14_2, hr14_2, hm⟩ := bnd hm
  refine Wy (.tup []) [(0, (.arr 43 3 (List.length r14_2) (flatD enc_GChange r14_2)))] (Ocf [0] [] [] 0 (ok_slices_SortStableFunc_Change__tally_order c12_1 r14_2 hr14_2) (fun a w => Try.call23 a w) rfl ⟨rfl, trivial⟩) ?_
  refine Walk.nil ?_
  refine Then.normal ?_
  refine Amk 8 1 ⟨(tp 3 ((.own 0) :: (tp 49 []))), [(.arr 43 3 (List.length r14_2) (flatD enc_GChange r14_2))], 0⟩ ?_
  refine AWP.seq ?_
  refine AWP.text ?_
  refine Wy (.d .nil) [] (Omv rfl) ?_
  refine Walk.nil ?_
  refine Then.normal ?_
  refine Amk 24 1 ⟨(tp 3 ((.own 0) :: ((.d .nil) :: (tp 48 [])))), [(.arr 43 3 (List.length r14_2) (flatD enc_GChange r14_2))], 0⟩ ?_
  refine AWP.seq ?_
  refine AWP.seq ?_
  refine AWP.text ?_
  refine Wy (.own 0) [] (Omv rfl) ?_
  refine Wy (.d (.lit (.int .i64 ((List.length r14_2 : Nat) : Int)))) [] (Oln rfl) ?_
  refine Wy (.d (.lit (.int .i64 0))) [] (Omv rfl) ?_
  refine Walk.nil ?_
  refine Then.normal ?_
  refine Amk 229400 1 ⟨(tp 3 ((.own 0) :: ((.d .nil) :: (tp 10 ((.own 0) :: ((.d (.lit (.int .i64 ((List.length r14_2 : Nat) : Int)))) :: ((.d (.lit (.int .i64 0))) :: (tp 35 [])))))))), [(.arr 43 3 (List.length r14_2) (flatD enc_GChange r14_2))], 0⟩ ?_
  refine AWP.block ?_
  refine Aow 4 43 3 ⟨(tp 3 ((.own 0) :: ((.own 1) :: (tp 10 ((.own 0) :: ((.d (.lit (.int .i64 ((List.length r14_2 : Nat) : Int)))) :: ((.d (.lit (.int .i64 0))) :: (tp 35 [])))))))), [(.arr 43 3 (List.length r14_2) (flatD enc_GChange r14_2)), (.arr 43 3 (List.length ([] : List GChange)) (flatD enc_GChange ([] : List GChange)))], 0⟩ ?_
  refine AWP.loopI (α := Nat × (List GChange) × Int)
    (fun x => match x with | (fu_4, y4_4, y17_4) => (⟨(tp 3 ((.own 0) :: ((.own 1) :: (tp 10 ((.own 0) :: ((.d (.lit (.int .i64 ((List.length r14_2 : Nat) : Int)))) :: ((.d (.lit (.int .i64 y17_4))) :: (tp 35 [])))))))), [(.arr 43 3 (List.length r14_2) (flatD enc_GChange r14_2)), (.arr 43 3 (List.length y4_4) (flatD enc_GChange y4_4))], 0⟩ : St))
    (fun x => match x with | (fu_4, y4_4, y17_4) => m_tally_Normal_l4 r14_2 fu_4 y4_4 y17_4 = some r)
    (fun x => match x with | (fu_4, y4_4, y17_4) => fu_4) (1152921504606846976, ([] : List GChange), 0)
    (Weak.toK 229400 0 0 [0, 1]) hm ?_
  rintro ⟨fu_4, y4_4, y17_4⟩ n_4 hm ih_4
  try dsimp only at hm ih_4 ⊢
  cases fu_4 with
  | zero => exact absurd hm (by unfold m_tally_Normal_l4; simp)
  | succ fu_4 =>
    unfold m_tally_Normal_l4 at hm
    refine AWP.seq ?_
    refine AWP.text ?_
    refine Wy (.d (.lit (.bool (decide (y17_4 < ((List.length r14_2 : Nat) : Int)))))) [] (Obn rfl (fun _ => hb_lss (k := .i64))) ?_
    refine Walk.nil ?_
    refine Then.normal ?_
    refine Amk 491544 3 ⟨(tp 3 ((.own 0) :: ((.own 1) :: (tp 10 ((.own 0) :: ((.d (.lit (.int .i64 ((List.length r14_2 : Nat) : Int)))) :: ((.d (.lit (.int .i64 y17_4))) :: ((.d (.lit (.bool (decide (y17_4 < ((List.length r14_2 : Nat) : Int)))))) :: (tp 34 []))))))))), [(.arr 43 3 (List.length r14_2) (flatD enc_GChange r14_2)), (.arr 43 3 (List.length y4_4) (flatD enc_GChange y4_4))], 0⟩ ?_
    refine AWP.seq ?_
    rcases tf_ (decide (y17_4 < ((List.length r14_2 : Nat) : Int))) with hc18_11 | hc18_11
    · replace hm := cT hc18_11 hm
      refine AWP.if_ true (Eq.trans (by kernel_rfl) (lit_tf (b := decide (y17_4 < ((List.length r14_2 : Nat) : Int))) hc18_11)) ?_
      refine AWP.skip ?_
      refine Then.normal ?_
      refine Amk 229400 3 ⟨(tp 3 ((.own 0) :: ((.own 1) :: (tp 10 ((.own 0) :: ((.d (.lit (.int .i64 ((List.length r14_2 : Nat) : Int)))) :: ((.d (.lit (.int .i64 y17_4))) :: (tp 35 [])))))))), [(.arr 43 3 (List.length r14_2) (flatD enc_GChange r14_2)), (.arr 43 3 (List.length y4_4) (flatD enc_GChange y4_4))], 0⟩ ?_
      refine AWP.seq ?_
      refine AWP.block ?_
      refine AWP.seq ?_
      refine AWP.text ?_
      refine Wy (.d (.lit (.int .i64 y17_4))) [] (Omv rfl) ?_
      obtain ⟨x20_5, hx20_5, hm⟩ := bnd hm
      obtain ⟨hx20_5i, hx20_5g⟩ := geti_some hx20_5
      refine Wy (.loc 0 ((Int.toNat y17_4) * 3)) [] (Oia rfl enc_GChange_len hx20_5i hx20_5g) ?_
      refine Wy (.agg [(.d (.lit (.int .i64 x20_5.Loc))), (.d (.lit (.int .i64 x20_5.Time))), (.d (.lit (.int .i64 x20_5.N)))]) [] (Lr rfl enc_GChange_len hx20_5g) ?_
      refine Wy (.loc 2 0) [(2, (.box [(.d (.lit (.int .i64 0))), (.d (.lit (.int .i64 0))), (.d (.lit (.int .i64 0)))]))] (Oal rfl) ?_
      refine Wy (.d (.lit (.int .i64 y17_4))) [] (Omv rfl) ?_
      refine Wy (.tup []) [(2, (.box [(.d (.lit (.int .i64 x20_5.Loc))), (.d (.lit (.int .i64 x20_5.Time))), (.d (.lit (.int .i64 x20_5.N)))]))] (Ost rfl) ?_
      refine Walk.nil ?_
      refine Then.normal ?_
      refine Amk 229496 7 ⟨(tp 3 ((.own 0) :: ((.own 1) :: ((.d (.lit (.int .i64 y17_4))) :: ((.loc 2 0) :: (tp 8 ((.own 0) :: ((.d (.lit (.int .i64 ((List.length r14_2 : Nat) : Int)))) :: ((.d (.lit (.int .i64 y17_4))) :: (tp 35 [])))))))))), [(.arr 43 3 (List.length r14_2) (flatD enc_GChange r14_2)), (.arr 43 3 (List.length y4_4) (flatD enc_GChange y4_4)), (.box [(.d (.lit (.int .i64 x20_5.Loc))), (.d (.lit (.int .i64 x20_5.Time))), (.d (.lit (.int .i64 x20_5.N)))])], 0⟩ ?_
      refine AWP.seq ?_
      refine Adr ?_
      refine Wy (.d (.lit (.int .i64 y17_4))) [] (Omv rfl) ?_
      refine Wy (.d (.lit (.bool (decide ((0 : Int) < y17_4))))) [] (Obn rfl (fun _ => hb_gtr (k := .i64))) ?_
      rcases tf_ (decide ((0 : Int) < y17_4)) with hq24_7 | hq24_7
      · replace hm := cT hq24_7 hm
        refine Wy (.d (.lit (.bool true))) [] (Ocs (lit_tf (b := decide ((0 : Int) < y17_4)) hq24_7) (Omv rfl)) ?_
        refine Wy (.own 0) [] (Omv rfl) ?_
        refine Wy (.d (.lit (.int .i64 y17_4))) [] (Omv rfl) ?_
        refine Wy (.d (.lit (.int .i64 (IntKind.i64.wrap (y17_4 - 1))))) [] (Obn rfl (fun _ => hb_sub (k := .i64))) ?_
        obtain ⟨x28_7, hx28_7, hm⟩ := bnd hm
        obtain ⟨hx28_7i, hx28_7g⟩ := geti_some hx28_7
        refine Wy (.loc 0 ((Int.toNat (IntKind.i64.wrap (y17_4 - 1))) * 3)) [] (Oia rfl enc_GChange_len hx28_7i hx28_7g) ?_
        refine Wy (.agg [(.d (.lit (.int .i64 x28_7.Loc))), (.d (.lit (.int .i64 x28_7.Time))), (.d (.lit (.int .i64 x28_7.N)))]) [] (Lr rfl enc_GChange_len hx28_7g) ?_
        refine Wy (.agg [(.d (.lit (.int .i64 x20_5.Loc))), (.d (.lit (.int .i64 x20_5.Time))), (.d (.lit (.int .i64 x20_5.N)))]) [] (Old rfl) ?_
        obtain ⟨r31_7, hr31_7, hm⟩ := bnd hm
        refine Wy (.d (.lit (.int .i64 r31_7))) [] (Ocf [] [] [] 0 (ok_tally_order x28_7 x20_5 r31_7 hr31_7) (fun a w => Try.call24 a w) rfl trivial) ?_
        refine Wy (.d (.lit (.bool (decide (r31_7 = 0))))) [] (Obn rfl (fun _ => hb_eql (k := .i64))) ?_
        refine Wy (.d (.lit (.bool (decide (r31_7 = 0))))) [] (OpT rfl) ?_
        refine Wdr ?_
        refine Then.normal ?_
        refine Amk 8590164056 7 ⟨(tp 3 ((.own 0) :: ((.own 1) :: (tp 1 ((.loc 2 0) :: (tp 8 ((.own 0) :: ((.d (.lit (.int .i64 ((List.length r14_2 : Nat) : Int)))) :: ((.d (.lit (.int .i64 y17_4))) :: (tp 15 ((.d (.lit (.bool (decide (r31_7 = 0))))) :: (tp 19 [])))))))))))), [(.arr 43 3 (List.length r14_2) (flatD enc_GChange r14_2)), (.arr 43 3 (List.length y4_4) (flatD enc_GChange y4_4)), (.box [(.d (.lit (.int .i64 x20_5.Loc))), (.d (.lit (.int .i64 x20_5.Time))), (.d (.lit (.int .i64 x20_5.N)))])], 0⟩ ?_
        rcases tf_ (decide (r31_7 = 0)) with hc33_12 | hc33_12
        · replace hm := cT hc33_12 hm
          refine AWP.if_ true (Eq.trans (by kernel_rfl) (lit_tf (b := decide (r31_7 = 0)) hc33_12)) ?_
          refine Adr ?_
          refine Wy (.own 1) [] (Omv rfl) ?_
          refine Wy (.own 1) [] (Omv rfl) ?_
          refine Wy (.d (.lit (.int .i64 ((List.length y4_4 : Nat) : Int)))) [] (Oln rfl) ?_
          refine Wy (.d (.lit (.int .i64 (IntKind.i64.wrap (((List.length y4_4 : Nat) : Int) - 1))))) [] (Obn rfl (fun _ => hb_sub (k := .i64))) ?_
          obtain ⟨x38_8, hx38_8, hm⟩ := bnd hm
          obtain ⟨hx38_8i, hx38_8g⟩ := geti_some hx38_8
          refine Wy (.loc 1 ((Int.toNat (IntKind.i64.wrap (((List.length y4_4 : Nat) : Int) - 1))) * 3)) [] (Oia rfl enc_GChange_len hx38_8i hx38_8g) ?_
          refine Wy (.loc 1 ((Int.toNat (IntKind.i64.wrap (((List.length y4_4 : Nat) : Int) - 1))) * 3 + 2)) [] (Ofa rfl) ?_
          refine Wy (.d (.lit (.int .i64 x38_8.N))) [] (Lrk1 2 rfl enc_GChange_len hx38_8g) ?_
          refine Wy (.loc 2 2) [] (Ofa rfl) ?_
          refine Wy (.d (.lit (.int .i64 x20_5.N))) [] (Old rfl) ?_
          refine Wy (.d (.lit (.int .i64 (IntKind.i64.wrap (x38_8.N + x20_5.N))))) [] (Obn rfl (fun _ => hb_add (k := .i64))) ?_
          obtain ⟨x44_8, hx44_8, hm⟩ := bnd hm
          obtain ⟨hx44_8i, hx44_8g⟩ := geti_some hx44_8
          refine Wy (.loc 1 ((Int.toNat (IntKind.i64.wrap (((List.length y4_4 : Nat) : Int) - 1))) * 3)) [] (Oia rfl enc_GChange_len hx44_8i hx44_8g) ?_
          refine Wy (.loc 1 ((Int.toNat (IntKind.i64.wrap (((List.length y4_4 : Nat) : Int) - 1))) * 3 + 2)) [] (Ofa rfl) ?_
          refine Wy (.tup []) [(1, (.arr 43 3 (List.length (List.set y4_4 (Int.toNat (IntKind.i64.wrap (((List.length y4_4 : Nat) : Int) - 1))) (GChange.mk x44_8.Loc x44_8.Time (IntKind.i64.wrap (x38_8.N + x20_5.N))))) (flatD enc_GChange (List.set y4_4 (Int.toNat (IntKind.i64.wrap (((List.length y4_4 : Nat) : Int) - 1))) (GChange.mk x44_8.Loc x44_8.Time (IntKind.i64.wrap (x38_8.N + x20_5.N)))))))] (Osr 2 rfl enc_GChange_len hx44_8g (GChange.mk x44_8.Loc x44_8.Time (IntKind.i64.wrap (x38_8.N + x20_5.N)))) ?_
          refine Wdr ?_
          refine InBlock.normal ?_
          refine Then.normal ?_
          refine Amk 229400 3 ⟨(tp 3 ((.own 0) :: ((.own 1) :: (tp 10 ((.own 0) :: ((.d (.lit (.int .i64 ((List.length r14_2 : Nat) : Int)))) :: ((.d (.lit (.int .i64 y17_4))) :: (tp 35 [])))))))), [(.arr 43 3 (List.length r14_2) (flatD enc_GChange r14_2)), (.arr 43 3 (List.length (List.set y4_4 (Int.toNat (IntKind.i64.wrap (((List.length y4_4 : Nat) : Int) - 1))) (GChange.mk x44_8.Loc x44_8.Time (IntKind.i64.wrap (x38_8.N + x20_5.N))))) (flatD enc_GChange (List.set y4_4 (Int.toNat (IntKind.i64.wrap (((List.length y4_4 : Nat) : Int) - 1))) (GChange.mk x44_8.Loc x44_8.Time (IntKind.i64.wrap (x38_8.N + x20_5.N)))))), .gone], 0⟩ ?_
          refine AWP.text ?_
          refine Wy (.d (.lit (.int .i64 (IntKind.i64.wrap (y17_4 + 1))))) [] (Obn rfl (fun _ => hb_add (k := .i64))) ?_
          refine Wy (.d (.lit (.int .i64 (IntKind.i64.wrap (y17_4 + 1))))) [] (Omv rfl) ?_
          refine Walk.nil ?_
          refine RoundK.normal ?_
          exact Rounds.weak (Weak.toK 229400 0 0 [0, 1]) (ih_4 (fu_4, (List.set y4_4 (Int.toNat (IntKind.i64.wrap (((List.length y4_4 : Nat) : Int) - 1))) (GChange.mk x44_8.Loc x44_8.Time (IntKind.i64.wrap (x38_8.N + x20_5.N)))), (IntKind.i64.wrap (y17_4 + 1))) hm (Nat.lt_succ_self _))
        · replace hm := cF hc33_12 hm
          refine AWP.if_ false (Eq.trans (by kernel_rfl) (lit_tf (b := decide (r31_7 = 0)) hc33_12)) ?_
          refine AWP.text ?_
          refine Wy (.own 1) [] (Omv rfl) ?_
          refine Wy (.agg [(.d (.lit (.int .i64 x20_5.Loc))), (.d (.lit (.int .i64 x20_5.Time))), (.d (.lit (.int .i64 x20_5.N)))]) [] (Old rfl) ?_
          refine Wy (.own 3) [(3, (.arr 43 3 (List.length ([x20_5] : List GChange)) (flatD enc_GChange ([x20_5] : List GChange))))] (Obs rfl) ?_
          obtain ⟨a49_6, ha49_6, hm⟩ := bnd hm; obtain ⟨ha49_6e, ha49_6l⟩ := app_some ha49_6
          refine Wy (.own 4) [(1, .gone), (4, (.arr 43 3 (List.length a49_6) (flatD enc_GChange a49_6)))] (Oap rfl elemOK_27 enc_GChange_len ha49_6e ha49_6l) ?_
          refine Wy (.own 4) [] (Omv rfl) ?_
          refine Walk.nil ?_
          refine InBlock.normal ?_
          refine Then.normal ?_
          refine Amk 229400 17 ⟨(tp 3 ((.own 0) :: ((.own 4) :: (tp 10 ((.own 0) :: ((.d (.lit (.int .i64 ((List.length r14_2 : Nat) : Int)))) :: ((.d (.lit (.int .i64 y17_4))) :: (tp 35 [])))))))), [(.arr 43 3 (List.length r14_2) (flatD enc_GChange r14_2)), .gone, .gone, .gone, (.arr 43 3 (List.length a49_6) (flatD enc_GChange a49_6))], 0⟩ ?_
          refine AWP.text ?_
          refine Wy (.d (.lit (.int .i64 (IntKind.i64.wrap (y17_4 + 1))))) [] (Obn rfl (fun _ => hb_add (k := .i64))) ?_
          refine Wy (.d (.lit (.int .i64 (IntKind.i64.wrap (y17_4 + 1))))) [] (Omv rfl) ?_
          refine Walk.nil ?_
          refine RoundK.normal ?_
          exact Rounds.weak (Weak.toK 229400 0 0 [0, 4]) (ih_4 (fu_4, a49_6, (IntKind.i64.wrap (y17_4 + 1))) hm (Nat.lt_succ_self _))
      · replace hm := cF hq24_7 hm
        refine Wy (.d (.lit (.bool false))) [] (Ocs (lit_tf (b := decide ((0 : Int) < y17_4)) hq24_7) (Omv rfl)) ?_
        refine Wn ?_
        refine Wn ?_
        refine Wn ?_
        refine Wn ?_
        refine Wn ?_
        refine Wn ?_
        refine Wn ?_
        refine Wn ?_
        refine Wy (.d (.lit (.bool false))) [] (OpF rfl) ?_
        refine Wdr ?_
        refine Then.normal ?_
        refine Amk 8590164056 7 ⟨(tp 3 ((.own 0) :: ((.own 1) :: (tp 1 ((.loc 2 0) :: (tp 8 ((.own 0) :: ((.d (.lit (.int .i64 ((List.length r14_2 : Nat) : Int)))) :: ((.d (.lit (.int .i64 y17_4))) :: (tp 15 ((.d (.lit (.bool false))) :: (tp 19 [])))))))))))), [(.arr 43 3 (List.length r14_2) (flatD enc_GChange r14_2)), (.arr 43 3 (List.length y4_4) (flatD enc_GChange y4_4)), (.box [(.d (.lit (.int .i64 x20_5.Loc))), (.d (.lit (.int .i64 x20_5.Time))), (.d (.lit (.int .i64 x20_5.N)))])], 0⟩ ?_
        refine AWP.if_ false (by kernel_rfl) ?_
        refine AWP.text ?_
        refine Wy (.own 1) [] (Omv rfl) ?_
        refine Wy (.agg [(.d (.lit (.int .i64 x20_5.Loc))), (.d (.lit (.int .i64 x20_5.Time))), (.d (.lit (.int .i64 x20_5.N)))]) [] (Old rfl) ?_
        refine Wy (.own 3) [(3, (.arr 43 3 (List.length ([x20_5] : List GChange)) (flatD enc_GChange ([x20_5] : List GChange))))] (Obs rfl) ?_
        obtain ⟨a49_9, ha49_9, hm⟩ := bnd hm; obtain ⟨ha49_9e, ha49_9l⟩ := app_some ha49_9
        refine Wy (.own 4) [(1, .gone), (4, (.arr 43 3 (List.length a49_9) (flatD enc_GChange a49_9)))] (Oap rfl elemOK_27 enc_GChange_len ha49_9e ha49_9l) ?_
        refine Wy (.own 4) [] (Omv rfl) ?_
        refine Walk.nil ?_
        refine InBlock.normal ?_
        refine Then.normal ?_
        refine Amk 229400 17 ⟨(tp 3 ((.own 0) :: ((.own 4) :: (tp 10 ((.own 0) :: ((.d (.lit (.int .i64 ((List.length r14_2 : Nat) : Int)))) :: ((.d (.lit (.int .i64 y17_4))) :: (tp 35 [])))))))), [(.arr 43 3 (List.length r14_2) (flatD enc_GChange r14_2)), .gone, .gone, .gone, (.arr 43 3 (List.length a49_9) (flatD enc_GChange a49_9))], 0⟩ ?_
        refine AWP.text ?_
        refine Wy (.d (.lit (.int .i64 (IntKind.i64.wrap (y17_4 + 1))))) [] (Obn rfl (fun _ => hb_add (k := .i64))) ?_
        refine Wy (.d (.lit (.int .i64 (IntKind.i64.wrap (y17_4 + 1))))) [] (Omv rfl) ?_
        refine Walk.nil ?_
        refine RoundK.normal ?_
        exact Rounds.weak (Weak.toK 229400 0 0 [0, 4]) (ih_4 (fu_4, a49_9, (IntKind.i64.wrap (y17_4 + 1))) hm (Nat.lt_succ_self _))
    · replace hm := cF hc18_11 hm
      refine AWP.if_ false (Eq.trans (by kernel_rfl) (lit_tf (b := decide (y17_4 < ((List.length r14_2 : Nat) : Int))) hc18_11)) ?_
      refine AWP.exit ?_
      refine Then.exit ?_
      refine RoundK.exit ?_
      refine InBlock.same ?_
      refine Then.normal ?_
      refine Amk 16 2 ⟨(tp 4 ((.own 1) :: (tp 48 []))), [.gone, (.arr 43 3 (List.length y4_4) (flatD enc_GChange y4_4))], 0⟩ ?_
      refine AWP.seq ?_
      refine AWP.text ?_
      refine Wy (.own 1) [] (Omv rfl) ?_
      obtain ⟨r52_10, hr52_10, hm⟩ := bnd hm
      refine Wy (.d (.sl (List.length r52_10) (flatD enc_GChange r52_10))) [(1, .gone)] (Ocf [1] [] [] 0 (ok_slices_DeleteFunc_Change__tally_Normal_1 y4_4 r52_10 hr52_10) (fun a w => Try.call25 a w) rfl ⟨rfl, trivial⟩) ?_
      refine Wy (.d (.sl (List.length r52_10) (flatD enc_GChange r52_10))) [] (Omv rfl) ?_
      refine Walk.nil ?_
      refine Then.normal ?_
      refine AWP.ret ?_
      obtain rfl := Option.some.inj hm
      exact ret_i []

set_option maxRecDepth 20000 in
set_option maxHeartbeats 4000000 in
theorem ok_front_Leads (p0 : Int) (p1 : Int) (r : Bool) (h : m_front_Leads p0 p1 = some r) : GCall Try.prog 15 [(.d (.lit (.int .i64 p0))), (.d (.lit (.int .i64 p1)))] [] (.d (.lit (.bool r))) [] := by
  refine GCall.of_body (n := 16) (rs := [(.tmp 4)]) Try.func15 rfl rfl rfl ?_
  refine Ato ⟨((.d (.lit (.int .i64 p0))) :: ((.d (.lit (.int .i64 p1))) :: (tu 14 []))), [], 0⟩ ?_
  have hm := h
  unfold m_front_Leads at hm
  refine AWP.seq ?_
  refine AWP.text ?_
  refine Wy (.d (.lit (.bool false))) [] (Omv rfl) ?_
  refine Walk.nil ?_
  refine Then.normal ?_
  refine Amk 3 0 ⟨((.d (.lit (.int .i64 p0))) :: ((.d (.lit (.int .i64 p1))) :: (tp 14 []))), [], 0⟩ ?_
  refine AWP.seq ?_
  refine AWP.text ?_
  refine Wy (.d (.lit (.int .i64 p0))) [] (Omv rfl) ?_
  refine Wy (.d (.lit (.bool (decide ((0 : Int) ≤ p0))))) [] (Obn rfl (fun _ => hb_leq (k := .i64))) ?_
  rcases tf_ (decide ((0 : Int) ≤ p0)) with hq7_0 | hq7_0
  · replace hm := cT hq7_0 hm
    refine Wy (.d (.lit (.bool true))) [] (Ocs (lit_tf (b := decide ((0 : Int) ≤ p0)) hq7_0) (Omv rfl)) ?_
    refine Wy (.d (.lit (.int .i64 p0))) [] (Omv rfl) ?_
    refine Wy (.d (.lit (.int .i64 p1))) [] (Omv rfl) ?_
    refine Wy (.d (.lit (.bool (decide (p0 ≤ p1))))) [] (Obn rfl (fun _ => hb_leq (k := .i64))) ?_
    refine Wy (.d (.lit (.bool (decide (p0 ≤ p1))))) [] (OpT rfl) ?_
    rcases tf_ (decide (p0 ≤ p1)) with hq12_0 | hq12_0
    · replace hm := cT hq12_0 hm
      refine Wy (.d (.lit (.bool true))) [] (Ocs (lit_tf (b := decide (p0 ≤ p1)) hq12_0) (Omv rfl)) ?_
      refine Wy (.d (.lit (.int .i64 p1))) [] (Omv rfl) ?_
      refine Wy (.d (.lit (.bool (decide (p1 < 4))))) [] (Obn rfl (fun _ => hb_lss (k := .i64))) ?_
      refine Wy (.d (.lit (.bool (decide (p1 < 4))))) [] (OpT rfl) ?_
      refine Wy (.d (.lit (.bool (decide (p1 < 4))))) [] (Omv rfl) ?_
      refine Walk.nil ?_
      refine Then.normal ?_
      refine AWP.ret ?_
      obtain rfl := Option.some.inj hm
      exact ret_i []
    · replace hm := cF hq12_0 hm
      refine Wy (.d (.lit (.bool false))) [] (Ocs (lit_tf (b := decide (p0 ≤ p1)) hq12_0) (Omv rfl)) ?_
      refine Wn ?_
      refine Wn ?_
      refine Wy (.d (.lit (.bool false))) [] (OpF rfl) ?_
      refine Wy (.d (.lit (.bool false))) [] (Omv rfl) ?_
      refine Walk.nil ?_
      refine Then.normal ?_
      refine AWP.ret ?_
      obtain rfl := Option.some.inj hm
      exact ret_i []
  · replace hm := cF hq7_0 hm
    refine Wy (.d (.lit (.bool false))) [] (Ocs (lit_tf (b := decide ((0 : Int) ≤ p0)) hq7_0) (Omv rfl)) ?_
    refine Wn ?_
    refine Wn ?_
    refine Wn ?_
    refine Wy (.d (.lit (.bool false))) [] (OpF rfl) ?_
    refine Wy (.d (.lit (.bool false))) [] (Omv rfl) ?_
    refine Wn ?_
    refine Wn ?_
    refine Wy (.d (.lit (.bool false))) [] (OpF rfl) ?_
    refine Wy (.d (.lit (.bool false))) [] (Omv rfl) ?_
    refine Walk.nil ?_
    refine Then.normal ?_
    refine AWP.ret ?_
    obtain rfl := Option.some.inj hm
    exact ret_i []

set_option maxRecDepth 20000 in
set_option maxHeartbeats 4000000 in
theorem ok_front_Of (p0 : (List GChange)) (p1 : Int) (r : Int) (h : m_front_Of p0 p1 = some r) : GCall Try.prog 8 [(.d (.sl (List.length p0) (flatD enc_GChange p0))), (.d (.lit (.int .i64 p1)))] [] (.d (.lit (.int .i64 r))) [] := by
  refine GCall.of_body (n := 35) (rs := [(.tmp 4)]) Try.func8 rfl rfl rfl ?_
  refine Ato ⟨((.d (.sl (List.length p0) (flatD enc_GChange p0))) :: ((.d (.lit (.int .i64 p1))) :: (tu 33 []))), [], 0⟩ ?_
  have hm := h
  unfold m_front_Of at hm
  refine AWP.seq ?_
  refine AWP.text ?_
  refine Wy (.d (.lit (.int .i64 0))) [] (Omv rfl) ?_
  refine Walk.nil ?_
  refine Then.normal ?_
  refine Amk 3 0 ⟨((.d (.sl (List.length p0) (flatD enc_GChange p0))) :: ((.d (.lit (.int .i64 p1))) :: (tp 33 []))), [], 0⟩ ?_
  refine AWP.seq ?_
  refine AWP.text ?_
  refine Wy (.d (.lit (.int .i64 1099511627777))) [] (Omv rfl) ?_
  refine Walk.nil ?_
  refine Then.normal ?_
  refine Amk 35 0 ⟨((.d (.sl (List.length p0) (flatD enc_GChange p0))) :: ((.d (.lit (.int .i64 p1))) :: (tp 3 ((.d (.lit (.int .i64 1099511627777))) :: (tp 29 []))))), [], 0⟩ ?_
  refine AWP.seq ?_
  refine AWP.seq ?_
  refine AWP.text ?_
  refine Wy (.d (.sl (List.length p0) (flatD enc_GChange p0))) [] (Omv rfl) ?_
  obtain ⟨r9_0, hr9_0, hm⟩ := bnd hm
  refine Wy (.d (.sl (List.length r9_0) (flatD enc_GChange r9_0))) [] (Ocf [] [] [] 0 (ok_tally_Normal p0 r9_0 hr9_0) (fun a w => Try.call20 a w) rfl trivial) ?_
  refine Wy (.d (.lit (.int .i64 ((List.length r9_0 : Nat) : Int)))) [] (Oln rfl) ?_
  refine Wy (.d (.lit (.int .i64 0))) [] (Omv rfl) ?_
  refine Walk.nil ?_
  refine Then.normal ?_
  refine Amk 3618 0 ⟨(tp 1 ((.d (.lit (.int .i64 p1))) :: (tp 3 ((.d (.lit (.int .i64 1099511627777))) :: (tp 3 ((.d (.sl (List.length r9_0) (flatD enc_GChange r9_0))) :: ((.d (.lit (.int .i64 ((List.length r9_0 : Nat) : Int)))) :: ((.d (.lit (.int .i64 0))) :: (tp 23 []))))))))), [], 0⟩ ?_
  refine AWP.block ?_
  refine AWP.loopI (α := Nat × Int × Int)
    (fun x => match x with | (fu_1, y5_1, y11_1) => (⟨(tp 1 ((.d (.lit (.int .i64 p1))) :: (tp 3 ((.d (.lit (.int .i64 y5_1))) :: (tp 3 ((.d (.sl (List.length r9_0) (flatD enc_GChange r9_0))) :: ((.d (.lit (.int .i64 ((List.length r9_0 : Nat) : Int)))) :: ((.d (.lit (.int .i64 y11_1))) :: (tp 23 []))))))))), [], 0⟩ : St))
    (fun x => match x with | (fu_1, y5_1, y11_1) => m_front_Of_l1 p1 r9_0 fu_1 y5_1 y11_1 = some r)
    (fun x => match x with | (fu_1, y5_1, y11_1) => fu_1) (1152921504606846976, 1099511627777, 0)
    (Weak.toK 3618 0 0 []) hm ?_
  rintro ⟨fu_1, y5_1, y11_1⟩ n_1 hm ih_1
  try dsimp only at hm ih_1 ⊢
  cases fu_1 with
  | zero => exact absurd hm (by unfold m_front_Of_l1; simp)
  | succ fu_1 =>
    unfold m_front_Of_l1 at hm
    refine AWP.seq ?_
    refine AWP.text ?_
    refine Wy (.d (.lit (.bool (decide (y11_1 < ((List.length r9_0 : Nat) : Int)))))) [] (Obn rfl (fun _ => hb_lss (k := .i64))) ?_
    refine Walk.nil ?_
    refine Then.normal ?_
    refine Amk 7714 0 ⟨(tp 1 ((.d (.lit (.int .i64 p1))) :: (tp 3 ((.d (.lit (.int .i64 y5_1))) :: (tp 3 ((.d (.sl (List.length r9_0) (flatD enc_GChange r9_0))) :: ((.d (.lit (.int .i64 ((List.length r9_0 : Nat) : Int)))) :: ((.d (.lit (.int .i64 y11_1))) :: ((.d (.lit (.bool (decide (y11_1 < ((List.length r9_0 : Nat) : Int)))))) :: (tp 22 [])))))))))), [], 0⟩ ?_
    refine AWP.seq ?_
    rcases tf_ (decide (y11_1 < ((List.length r9_0 : Nat) : Int))) with hc12_6 | hc12_6
    · replace hm := cT hc12_6 hm
      refine AWP.if_ true (Eq.trans (by kernel_rfl) (lit_tf (b := decide (y11_1 < ((List.length r9_0 : Nat) : Int))) hc12_6)) ?_
      refine AWP.skip ?_
      refine Then.normal ?_
      refine Amk 3618 0 ⟨(tp 1 ((.d (.lit (.int .i64 p1))) :: (tp 3 ((.d (.lit (.int .i64 y5_1))) :: (tp 3 ((.d (.sl (List.length r9_0) (flatD enc_GChange r9_0))) :: ((.d (.lit (.int .i64 ((List.length r9_0 : Nat) : Int)))) :: ((.d (.lit (.int .i64 y11_1))) :: (tp 23 []))))))))), [], 0⟩ ?_
      refine AWP.seq ?_
      refine AWP.block ?_
      refine AWP.seq ?_
      refine AWP.text ?_
      obtain ⟨x13_2, hx13_2, hm⟩ := bnd hm
      obtain ⟨hx13_2i, hx13_2g⟩ := geti_some hx13_2
      refine Wy (.d (.ref (List.drop ((Int.toNat y11_1) * 3) (flatD enc_GChange r9_0)))) [] (Oia rfl enc_GChange_len hx13_2i hx13_2g) ?_
      refine Wy (.agg [(.d (.lit (.int .i64 x13_2.Loc))), (.d (.lit (.int .i64 x13_2.Time))), (.d (.lit (.int .i64 x13_2.N)))]) [] (Lf rfl enc_GChange_len hx13_2g) ?_
      refine Wy (.loc 0 0) [(0, (.box [(.d (.lit (.int .i64 0))), (.d (.lit (.int .i64 0))), (.d (.lit (.int .i64 0)))]))] (Oal rfl) ?_
      refine Wy (.tup []) [(0, (.box [(.d (.lit (.int .i64 x13_2.Loc))), (.d (.lit (.int .i64 x13_2.Time))), (.d (.lit (.int .i64 x13_2.N)))]))] (Ost rfl) ?_
      refine Walk.nil ?_
      refine Then.normal ?_
      refine Amk 3746 1 ⟨(tp 1 ((.d (.lit (.int .i64 p1))) :: (tp 3 ((.d (.lit (.int .i64 y5_1))) :: (tp 1 ((.loc 0 0) :: (tp 1 ((.d (.sl (List.length r9_0) (flatD enc_GChange r9_0))) :: ((.d (.lit (.int .i64 ((List.length r9_0 : Nat) : Int)))) :: ((.d (.lit (.int .i64 y11_1))) :: (tp 23 []))))))))))), [(.box [(.d (.lit (.int .i64 x13_2.Loc))), (.d (.lit (.int .i64 x13_2.Time))), (.d (.lit (.int .i64 x13_2.N)))])], 0⟩ ?_
      refine AWP.cutJ (α := Unit) (fun x => match x with | () => (⟨(tp 1 ((.d (.lit (.int .i64 p1))) :: (tp 3 ((.d (.lit (.int .i64 y5_1))) :: (tp 1 ((.loc 0 0) :: (tp 1 ((.d (.sl (List.length r9_0) (flatD enc_GChange r9_0))) :: ((.d (.lit (.int .i64 ((List.length r9_0 : Nat) : Int)))) :: ((.d (.lit (.int .i64 y11_1))) :: (tp 17 ((.d (.lit (.bool false))) :: (tp 5 []))))))))))))), [(.box [(.d (.lit (.int .i64 x13_2.Loc))), (.d (.lit (.int .i64 x13_2.Time))), (.d (.lit (.int .i64 x13_2.N)))])], 0⟩ : St)) (fun x => match x with | () => m_front_Of_j4 y11_1 y5_1 (fun y5_1 y11_1 => m_front_Of_l1 p1 r9_0 fu_1 y5_1 y11_1) = some r) ?_ (fun J4 => ?_)
      · rintro ⟨⟩ hm
        try dsimp only at hm ⊢
        unfold m_front_Of_j4 at hm
        refine AWP.if_ false (by kernel_rfl) ?_
        refine AWP.skip ?_
        refine InBlock.normal ?_
        refine Then.normal ?_
        refine Amk 3618 0 ⟨(tp 1 ((.d (.lit (.int .i64 p1))) :: (tp 3 ((.d (.lit (.int .i64 y5_1))) :: (tp 3 ((.d (.sl (List.length r9_0) (flatD enc_GChange r9_0))) :: ((.d (.lit (.int .i64 ((List.length r9_0 : Nat) : Int)))) :: ((.d (.lit (.int .i64 y11_1))) :: (tp 23 []))))))))), [.gone], 0⟩ ?_
        refine AWP.text ?_
        refine Wy (.d (.lit (.int .i64 (IntKind.i64.wrap (y11_1 + 1))))) [] (Obn rfl (fun _ => hb_add (k := .i64))) ?_
        refine Wy (.d (.lit (.int .i64 (IntKind.i64.wrap (y11_1 + 1))))) [] (Omv rfl) ?_
        refine Walk.nil ?_
        refine RoundK.normal ?_
        exact Rounds.weak (Weak.toK 3618 0 0 []) (ih_1 (fu_1, y5_1, (IntKind.i64.wrap (y11_1 + 1))) hm (Nat.lt_succ_self _))
      refine AWP.seq ?_
      refine AWP.text ?_
      refine Wy (.loc 0 2) [] (Ofa rfl) ?_
      refine Wy (.d (.lit (.int .i64 x13_2.N))) [] (Old rfl) ?_
      refine Wy (.d (.lit (.bool (decide ((0 : Int) < x13_2.N))))) [] (Obn rfl (fun _ => hb_gtr (k := .i64))) ?_
      rcases tf_ (decide ((0 : Int) < x13_2.N)) with hq18_3 | hq18_3
      · replace hm := cT hq18_3 hm
        refine Wy (.d (.lit (.bool true))) [] (Ocs (lit_tf (b := decide ((0 : Int) < x13_2.N)) hq18_3) (Omv rfl)) ?_
        refine Wy (.loc 0 0) [] (Ofa rfl) ?_
        refine Wy (.d (.lit (.int .i64 x13_2.Loc))) [] (Old rfl) ?_
        refine Wy (.d (.lit (.int .i64 p1))) [] (Omv rfl) ?_
        obtain ⟨r22_3, hr22_3, hm⟩ := bnd hm
        refine Wy (.d (.lit (.bool r22_3))) [] (Ocf [] [] [] 0 (ok_front_Leads x13_2.Loc p1 r22_3 hr22_3) (fun a w => Try.call15 a w) rfl trivial) ?_
        refine Wy (.d (.lit (.bool r22_3))) [] (OpT rfl) ?_
        rcases tf_ r22_3 with hq24_3 | hq24_3
        · replace hm := cT hq24_3 hm
          refine Wy (.d (.lit (.bool true))) [] (Ocs (lit_tf (b := r22_3) hq24_3) (Omv rfl)) ?_
          refine Wy (.loc 0 1) [] (Ofa rfl) ?_
          refine Wy (.d (.lit (.int .i64 x13_2.Time))) [] (Old rfl) ?_
          refine Wy (.d (.lit (.int .i64 y5_1))) [] (Omv rfl) ?_
          refine Wy (.d (.lit (.bool (decide (x13_2.Time < y5_1))))) [] (Obn rfl (fun _ => hb_lss (k := .i64))) ?_
          refine Wy (.d (.lit (.bool (decide (x13_2.Time < y5_1))))) [] (OpT rfl) ?_
          refine Walk.nil ?_
          refine Then.normal ?_
          refine Amk 536874658 1 ⟨(tp 1 ((.d (.lit (.int .i64 p1))) :: (tp 3 ((.d (.lit (.int .i64 y5_1))) :: (tp 1 ((.loc 0 0) :: (tp 1 ((.d (.sl (List.length r9_0) (flatD enc_GChange r9_0))) :: ((.d (.lit (.int .i64 ((List.length r9_0 : Nat) : Int)))) :: ((.d (.lit (.int .i64 y11_1))) :: (tp 17 ((.d (.lit (.bool (decide (x13_2.Time < y5_1))))) :: (tp 5 []))))))))))))), [(.box [(.d (.lit (.int .i64 x13_2.Loc))), (.d (.lit (.int .i64 x13_2.Time))), (.d (.lit (.int .i64 x13_2.N)))])], 0⟩ ?_
          rcases tf_ (decide (x13_2.Time < y5_1)) with hc29_7 | hc29_7
          · replace hm := cT hc29_7 hm
            refine AWP.if_ true (Eq.trans (by kernel_rfl) (lit_tf (b := decide (x13_2.Time < y5_1)) hc29_7)) ?_
            refine AWP.text ?_
            refine Wy (.loc 0 1) [] (Ofa rfl) ?_
            refine Wy (.d (.lit (.int .i64 x13_2.Time))) [] (Old rfl) ?_
            refine Wy (.d (.lit (.int .i64 x13_2.Time))) [] (Omv rfl) ?_
            refine Walk.nil ?_
            refine InBlock.normal ?_
            refine Then.normal ?_
            refine Amk 3618 0 ⟨(tp 1 ((.d (.lit (.int .i64 p1))) :: (tp 3 ((.d (.lit (.int .i64 x13_2.Time))) :: (tp 3 ((.d (.sl (List.length r9_0) (flatD enc_GChange r9_0))) :: ((.d (.lit (.int .i64 ((List.length r9_0 : Nat) : Int)))) :: ((.d (.lit (.int .i64 y11_1))) :: (tp 23 []))))))))), [.gone], 0⟩ ?_
            refine AWP.text ?_
            refine Wy (.d (.lit (.int .i64 (IntKind.i64.wrap (y11_1 + 1))))) [] (Obn rfl (fun _ => hb_add (k := .i64))) ?_
            refine Wy (.d (.lit (.int .i64 (IntKind.i64.wrap (y11_1 + 1))))) [] (Omv rfl) ?_
            refine Walk.nil ?_
            refine RoundK.normal ?_
            exact Rounds.weak (Weak.toK 3618 0 0 []) (ih_1 (fu_1, x13_2.Time, (IntKind.i64.wrap (y11_1 + 1))) hm (Nat.lt_succ_self _))
          · replace hm := cF hc29_7 hm
            refine AWP.if_ false (Eq.trans (by kernel_rfl) (lit_tf (b := decide (x13_2.Time < y5_1)) hc29_7)) ?_
            refine AWP.skip ?_
            refine InBlock.normal ?_
            refine Then.normal ?_
            refine Amk 3618 0 ⟨(tp 1 ((.d (.lit (.int .i64 p1))) :: (tp 3 ((.d (.lit (.int .i64 y5_1))) :: (tp 3 ((.d (.sl (List.length r9_0) (flatD enc_GChange r9_0))) :: ((.d (.lit (.int .i64 ((List.length r9_0 : Nat) : Int)))) :: ((.d (.lit (.int .i64 y11_1))) :: (tp 23 []))))))))), [.gone], 0⟩ ?_
            refine AWP.text ?_
            refine Wy (.d (.lit (.int .i64 (IntKind.i64.wrap (y11_1 + 1))))) [] (Obn rfl (fun _ => hb_add (k := .i64))) ?_
            refine Wy (.d (.lit (.int .i64 (IntKind.i64.wrap (y11_1 + 1))))) [] (Omv rfl) ?_
            refine Walk.nil ?_
            refine RoundK.normal ?_
            exact Rounds.weak (Weak.toK 3618 0 0 []) (ih_1 (fu_1, y5_1, (IntKind.i64.wrap (y11_1 + 1))) hm (Nat.lt_succ_self _))
        · replace hm := cF hq24_3 hm
          refine Wy (.d (.lit (.bool false))) [] (Ocs (lit_tf (b := r22_3) hq24_3) (Omv rfl)) ?_
          refine Wn ?_
          refine Wn ?_
          refine Wn ?_
          refine Wn ?_
          refine Wy (.d (.lit (.bool false))) [] (OpF rfl) ?_
          refine Walk.nil ?_
          refine Then.normal ?_
          exact AWP.weak (Weak.toK 536874658 0 0 [0]) (J4 () hm)
      · replace hm := cF hq18_3 hm
        refine Wy (.d (.lit (.bool false))) [] (Ocs (lit_tf (b := decide ((0 : Int) < x13_2.N)) hq18_3) (Omv rfl)) ?_
        refine Wn ?_
        refine Wn ?_
        refine Wn ?_
        refine Wn ?_
        refine Wy (.d (.lit (.bool false))) [] (OpF rfl) ?_
        refine Wy (.d (.lit (.bool false))) [] (Omv rfl) ?_
        refine Wn ?_
        refine Wn ?_
        refine Wn ?_
        refine Wn ?_
        refine Wy (.d (.lit (.bool false))) [] (OpF rfl) ?_
        refine Walk.nil ?_
        refine Then.normal ?_
        exact AWP.weak (Weak.toK 536874658 0 0 [0]) (J4 () hm)
    · replace hm := cF hc12_6 hm
      refine AWP.if_ false (Eq.trans (by kernel_rfl) (lit_tf (b := decide (y11_1 < ((List.length r9_0 : Nat) : Int))) hc12_6)) ?_
      refine AWP.exit ?_
      refine Then.exit ?_
      refine RoundK.exit ?_
      refine InBlock.same ?_
      refine Then.normal ?_
      refine Amk 32 0 ⟨(tp 5 ((.d (.lit (.int .i64 y5_1))) :: (tp 29 []))), [], 0⟩ ?_
      refine AWP.seq ?_
      refine AWP.text ?_
      refine Wy (.d (.lit (.int .i64 y5_1))) [] (Omv rfl) ?_
      refine Wy (.d (.lit (.int .i64 (max y5_1 0)))) [] (op_bi2 rfl (a1 := .int .i64 y5_1) (a2 := .int .i64 0) (by kernel_rfl) (by kernel_rfl) hb_max) ?_
      refine Wy (.d (.lit (.int .i64 (max y5_1 0)))) [] (Omv rfl) ?_
      refine Walk.nil ?_
      refine Then.normal ?_
      refine AWP.ret ?_
      obtain rfl := Option.some.inj hm
      exact ret_i []
end Go.Proofs.Ythcilaomjkaciaa.K
